/- A part of the proof of the law GaussDets: an abstract machine for the functions' code with its soundness, words, lemmas (assembled by a program). -/
import Derived.Test.YtflnfnemhgjglaaGreatCGaussDets5
set_option linter.unusedVariables false
set_option linter.unusedSimpArgs false
set_option linter.unusedSectionVars false
section
set_option linter.unusedVariables false
set_option linter.unusedSimpArgs false
set_option maxRecDepth 100000
namespace Go.S
open Go Go.AM Go.RowKit Go.K
abbrev eT (t : List (List Rat)) : AV := .lst (em eR t)
abbrev rT (t : List (List Rat)) : AV := .lst (em rR t)
def wide (t : List (List Rat)) : Nat := (t.getD 0 []).length
def even (t : List (List Rat)) : Bool := t.all fun r => decide (r.length = wide t)
theorem even_iff {t : List (List Rat)} : even t = true ↔ ∀ r ∈ t, r.length = wide t := by simp [even]
theorem E_eR : Enc eR 1 := ⟨fun _ => rfl, fun _ => rfl⟩
theorem E_eT : Enc eT 1 := ⟨fun _ => rfl, fun _ => rfl⟩
theorem findIdx_spec {α : Type} [Inhabited α] {l : List α} {p : α → Bool} {i : Nat} (hi : i < l.length) (h1 : p (l.getD i default) = true) (h2 : ∀ j, j < i → p (l.getD j default) = false) : l.findIdx p = i := by
  rw [List.findIdx_eq hi]
  refine ⟨by rw [List.getD_eq_getElem?_getD, List.getElem?_eq_getElem hi] at h1; simpa using h1, fun j hj => ?_⟩
  have := h2 j hj
  rw [List.getD_eq_getElem?_getD, List.getElem?_eq_getElem (by omega)] at this
  simpa using this
theorem findIdx_none {α : Type} [Inhabited α] {l : List α} {p : α → Bool} (h : ∀ j, j < l.length → p (l.getD j default) = false) : ¬ l.findIdx p < l.length := by
  rw [List.findIdx_lt_length]
  rintro ⟨x, hx, hp⟩
  obtain ⟨j, hj, rfl⟩ := List.getElem_of_mem hx
  have := h j (by omega)
  rw [List.getD_eq_getElem?_getD, List.getElem?_eq_getElem hj] at this
  simp [hp] at this
theorem s_IndexRow {t : List (List Rat)} {g : Nat} {c : Int} {p : List Rat → Bool} (hl : t.length ≤ 1000000) (hg : ∀ x ∈ t, CP (CL F) g [eR x, .fad (.int .i64 c)] = some (.bool (p x))) :
    CP (CL F) 105 [eT t, .fn g [] [.fad (.int .i64 c)]] = some (eI (if t.findIdx p < t.length then (t.findIdx p : Int) else -1)) := by
  refine CP_X (F := F) (f := 105) rfl rfl ?_
  have c1 : ∀ h, fz h (.fn g [] [.fad (.int .i64 c)]) = some (.fn g [] [.fad (.int .i64 c)]) := fun _ => rfl
  have c2 : ∀ h, used h deep (.fn g [] [.fad (.int .i64 c)]) = [] := fun _ => rfl
  have c3 : ∀ h, fz h (.fad (.int .i64 c)) = some (.fad (.int .i64 c)) := fun _ => rfl
  have c4 : ∀ h, used h deep (.fad (.int .i64 c)) = [] := fun _ => rfl
  refine go3 ?_
  refine X_upto t.length (fun i s => ∃ j4 j5 j9 j16 g', (∀ j, j < i → p (t.getD j default) = false) ∧ s = ⟨[(0, eT t), (1, .fn g [] [.fad (.int .i64 c)]), (4, j4), (5, j5), (7, eI t.length), (8, eI i), (9, j9), (16, j16)], g'⟩) ?_ 0 (Nat.zero_le _) _ ⟨_, _, _, _, _, fun j hj => by omega, rfl⟩
  rintro i s hi ⟨j4, j5, j9, j16, g', hall, rfl⟩ rec
  by_cases hlt : i < t.length
  · have hlt2 := lt_c hlt
    have g1 := em_getN (f := eR) t i hlt
    have hc := hg _ (getD_mem (l := t) (i := i) hlt)
    cases hp : p (t.getD i default) with
    | true =>
      rw [findIdx_spec hlt hp hall, if_pos hlt]
      rw [hp] at hc
      clear hall hg rec hi hp
      refine go3 ?_
      trivial
    | false =>
      rw [hp] at hc
      have hnext : ∀ j, j < i + 1 → p (t.getD j default) = false := fun j hj => by
        rcases Nat.lt_or_ge j i with h | h
        · exact hall j h
        · have : j = i := by omega
          subst this; exact hp
      have hw := i64_nat (n := i) (by omega)
      clear hall hg hp
      refine go3 ?_
      exact rec _ hlt ⟨_, _, _, _, _, hnext, rfl⟩
  · have hl3 : ¬ ((i : Int) < (t.length : Int)) := by omega
    have he := findIdx_none (l := t) (p := p) fun j hj => hall j (by omega)
    rw [if_neg he]
    clear hall hg rec he
    refine go3 ?_
    trivial
theorem s_ContainsRow {t : List (List Rat)} {g : Nat} {c : Int} {p : List Rat → Bool} (hl : t.length ≤ 1000000) (hg : ∀ x ∈ t, CP (CL F) g [eR x, .fad (.int .i64 c)] = some (.bool (p x))) :
    CP (CL F) 56 [eT t, .fn g [] [.fad (.int .i64 c)]] = some (.bool (t.any p)) := by
  refine CP_X (F := F) (f := 56) rfl rfl ?_
  have c1 : ∀ h, fz h (.fn g [] [.fad (.int .i64 c)]) = some (.fn g [] [.fad (.int .i64 c)]) := fun _ => rfl
  have c2 : ∀ h, used h deep (.fn g [] [.fad (.int .i64 c)]) = [] := fun _ => rfl
  have h1 := s_IndexRow hl hg
  clear hg
  by_cases h : t.findIdx p < t.length
  · have ha : t.any p = true := by
      rw [List.any_eq_true]
      rw [List.findIdx_lt_length] at h
      exact h
    rw [if_pos h] at h1
    rw [ha]
    have h2 : (0 : Int) ≤ (t.findIdx p : Int) := by omega
    clear ha h
    refine go3 ?_
    trivial
  · have ha : t.any p = false := by
      rw [← Bool.not_eq_true, List.any_eq_true, ← List.findIdx_lt_length]
      exact h
    rw [if_neg h] at h1
    rw [ha]
    clear ha h
    refine go3 ?_
    trivial
theorem s_IndexTab {l : List (List (List Rat))} {g : Nat} {p : List (List Rat) → Bool} (hl : l.length ≤ 1000000) (hg : ∀ x ∈ l, CP (CL F) g [eT x] = some (.bool (p x))) :
    CP (CL F) 147 [.lst (em eT l), .fn g [] []] = some (eI (if l.findIdx p < l.length then (l.findIdx p : Int) else -1)) := by
  refine CP_X (F := F) (f := 147) rfl rfl ?_
  refine go3 ?_
  refine X_upto l.length (fun i s => ∃ j4 j5 j9 j16 g', (∀ j, j < i → p (l.getD j default) = false) ∧ s = ⟨[(0, .lst (em eT l)), (1, .fn g [] []), (4, j4), (5, j5), (7, eI l.length), (8, eI i), (9, j9), (16, j16)], g'⟩) ?_ 0 (Nat.zero_le _) _ ⟨_, _, _, _, _, fun j hj => by omega, rfl⟩
  rintro i s hi ⟨j4, j5, j9, j16, g', hall, rfl⟩ rec
  by_cases hlt : i < l.length
  · have hlt2 := lt_c hlt
    have g1 := em_getN (f := eT) l i hlt
    have hc := hg _ (getD_mem (l := l) (i := i) hlt)
    cases hp : p (l.getD i default) with
    | true =>
      rw [findIdx_spec hlt hp hall, if_pos hlt]
      rw [hp] at hc
      clear hall hg rec hi hp
      refine go3 ?_
      trivial
    | false =>
      rw [hp] at hc
      have hnext : ∀ j, j < i + 1 → p (l.getD j default) = false := fun j hj => by
        rcases Nat.lt_or_ge j i with h | h
        · exact hall j h
        · have : j = i := by omega
          subst this; exact hp
      have hw := i64_nat (n := i) (by omega)
      clear hall hg hp
      refine go3 ?_
      exact rec _ hlt ⟨_, _, _, _, _, hnext, rfl⟩
  · have hl3 : ¬ ((i : Int) < (l.length : Int)) := by omega
    have he := findIdx_none (l := l) (p := p) fun j hj => hall j (by omega)
    rw [if_neg he]
    clear hall hg rec he
    refine go3 ?_
    trivial
theorem s_ContainsTab {l : List (List (List Rat))} {g : Nat} {p : List (List Rat) → Bool} (hl : l.length ≤ 1000000) (hg : ∀ x ∈ l, CP (CL F) g [eT x] = some (.bool (p x))) :
    CP (CL F) 110 [.lst (em eT l), .fn g [] []] = some (.bool (l.any p)) := by
  refine CP_X (F := F) (f := 110) rfl rfl ?_
  have h1 := s_IndexTab hl hg
  clear hg
  by_cases h : l.findIdx p < l.length
  · have ha : l.any p = true := by
      rw [List.any_eq_true]
      rw [List.findIdx_lt_length] at h
      exact h
    rw [if_pos h] at h1
    rw [ha]
    have h2 : (0 : Int) ≤ (l.findIdx p : Int) := by omega
    clear ha h
    refine go3 ?_
    trivial
  · have ha : l.any p = false := by
      rw [← Bool.not_eq_true, List.any_eq_true, ← List.findIdx_lt_length]
      exact h
    rw [if_neg h] at h1
    rw [ha]
    clear ha h
    refine go3 ?_
    trivial
theorem s_Size (t : List (List Rat)) : CP (CL F) 27 [eT t] = some (.tup [eI t.length, eI (wide t)]) := by
  refine CP_X (F := F) (f := 27) rfl rfl ?_
  cases t with
  | nil =>
    have h : wide [] = 0 := rfl
    have h0 : em eR [] = [] := rfl
    refine go3 ?_
    trivial
  | cons r t =>
    have h : wide (r :: t) = r.length := rfl
    have h1 : ¬ (((r :: t).length : Int) = 0) := by simp; omega
    have g1 := em_getN (f := eR) (r :: t) 0 (by simp)
    rw [show (r :: t).getD 0 default = r from rfl] at g1
    generalize r :: t = x at *
    refine go3 ?_
    trivial
theorem s_Check1 (r : List Rat) (c : Int) : CP (CL F) 57 [eR r, .fad (.int .i64 c)] = some (.bool (decide ((r.length : Int) ≠ c))) := by
  refine CP_X (F := F) (f := 57) rfl rfl ?_
  have c3 : ∀ h, fz h (.fad (.int .i64 c)) = some (.fad (.int .i64 c)) := fun _ => rfl
  refine go3 ?_
  simp
def may (t : List (List Rat)) : Bool := decide (t.length ≤ 200) && decide (wide t ≤ 200) && even t
theorem s_Check {t : List (List Rat)} (hl : t.length ≤ 1000000) : CP (CL F) 14 [eT t] = some (eI (if may t then 0 else 8)) := by
  refine CP_X (F := F) (f := 14) rfl rfl ?_
  have h0 := s_Size t
  have h1 := s_ContainsRow (t := t) (g := 57) (c := wide t) hl fun x _ => s_Check1 x _
  have h2 : t.any (fun x => decide ((x.length : Int) ≠ (wide t : Int))) = !even t := by
    unfold even
    rw [List.not_all_eq_any_not]
    congr 1
    funext r
    by_cases h : r.length = wide t
    · simp [h]
    · simp [h]; omega
  have c5 : ∀ g, fz (some ⟨0, 1, [eI (wide t)]⟩ :: g) (.fn 57 [] [.ptr 0 0 0 0]) = some (.fn 57 [] [.fad (eI (wide t))]) := fun _ => rfl
  have c6 : ∀ g, used (some ⟨0, 1, [eI (wide t)]⟩ :: g) deep (.fn 57 [] [.ptr 0 0 0 0]) = [0] := fun _ => rfl
  rw [h2] at h1
  clear h2
  by_cases a1 : t.length ≤ 200
  · have b1 : ¬ ((200 : Int) < (t.length : Int)) := by omega
    by_cases a2 : wide t ≤ 200
    · have b2 : ¬ ((200 : Int) < (wide t : Int)) := by omega
      cases h3 : even t with
      | true =>
        have h4 : may t = true := by simp [may, a1, a2, h3]
        rw [h3] at h1
        rw [Bool.not_true] at h1
        rw [h4, if_pos rfl]
        clear h3 h4 a1 a2
        refine go3 ?_
        trivial
      | false =>
        have h4 : may t = false := by simp [may, a1, a2, h3]
        rw [h3] at h1
        rw [Bool.not_false] at h1
        rw [h4, if_neg (by decide)]
        clear h3 h4 a1 a2
        refine go3 ?_
        trivial
    · have b2 : (200 : Int) < (wide t : Int) := by omega
      have h4 : may t = false := by simp [may, a2]
      rw [h4, if_neg (by decide)]
      clear h4 a1 a2
      refine go3 ?_
      trivial
  · have b1 : (200 : Int) < (t.length : Int) := by omega
    have h4 : may t = false := by simp [may, a1]
    rw [h4, if_neg (by decide)]
    clear h4 a1
    refine go3 ?_
    trivial
theorem s_checks1 {t : List (List Rat)} (hl : t.length ≤ 1000000) : CP (CL F) 111 [eT t] = some (.bool (!may t)) := by
  refine CP_X (F := F) (f := 111) rfl rfl ?_
  have h := s_Check hl
  cases h1 : may t with
  | true =>
    rw [h1] at h
    rw [if_pos rfl] at h
    clear h1
    refine go3 ?_
    trivial
  | false =>
    rw [h1] at h
    rw [if_neg (by decide)] at h
    clear h1
    refine go3 ?_
    trivial
theorem s_checks {l : List (List (List Rat))} (hl : l.length ≤ 1000000) (ht : ∀ t ∈ l, t.length ≤ 1000000) : CP (CL F) 66 [.lst (em eT l)] = some (.bool (l.all may)) := by
  refine CP_X (F := F) (f := 66) rfl rfl ?_
  have h := s_ContainsTab (l := l) (g := 111) hl fun x hx => s_checks1 (ht x hx)
  have h2 : l.all may = !(l.any fun x => !may x) := by rw [List.not_any_eq_all_not]; simp
  rw [h2]
  cases h3 : l.any fun x => !may x with
  | true =>
    rw [h3] at h
    clear h2 h3 ht
    refine go3 ?_
    trivial
  | false =>
    rw [h3] at h
    clear h2 h3 ht
    refine go3 ?_
    trivial
end Go.S

end
section
set_option linter.unusedVariables false
set_option linter.unusedSimpArgs false
set_option maxRecDepth 100000
namespace Go.S
open Go Go.AM Go.RowKit Go.K
theorem CL_XE {F : Nat → Option AFunc} {f np nt : Nat} {ks : List Nat} {res : List (Nat × Option (Nat × Bool))} {body : ACode} {args : List AV} {h : Heap} {P : AV × Heap → Prop} (hf : F f = some ⟨np, nt, ks, res, body⟩) (hn : args.length = np)
    (H : X F ks (fun e s => ∃ x, FinR res x e s ∧ P x) body ⟨args0 0 args, h⟩ .done) : ∃ x, CL F f args h = some x ∧ P x := by
  obtain ⟨e, s', h1, x, ⟨he, hr⟩, hp⟩ := H
  exact ⟨x, CL_run hf hn h1 he hr, hp⟩
theorem s_Few_raw {l : List XQ} (hx : ∀ x ∈ l, x.ok) {most : Nat} (hm : most ≤ 1000000) : ∃ qs : List Rat, qs.length = min l.length most ∧ (∀ q ∈ qs, Lq q ≤ 1) ∧ ∀ h, ∃ v w g, CL F 44 [.lst (em eX l), eI most] h = some (.tup [.ref h.length v 3 0 qs.length, .ref (h.length + 1) w 3 0 qs.length], h ++ (some ⟨v, 3, em eQ qs⟩ :: some ⟨w, 3, em rQ qs⟩ :: g)) := by
  have hex : ∃ f : XQ → Rat, ∀ x ∈ l, Lq (f x) ≤ 1 ∧ CP (CL F) 91 [eX x, eI 1] = some (eQ (f x)) := by
    classical
    refine ⟨fun x => if h : x ∈ l then (s_r08_CleanX (hx x h) (m := 1) (by decide) (by decide)).choose else 0, fun x h => ?_⟩
    simp only [h, dif_pos]
    exact (s_r08_CleanX (hx x h) (m := 1) (by decide) (by decide)).choose_spec
  obtain ⟨f, hf⟩ := hex
  refine ⟨(l.take most).map f, by simp; omega, fun q hq => by
    obtain ⟨x, hx, rfl⟩ := List.mem_map.1 hq
    exact (hf x (List.mem_of_mem_take hx)).1, fun h => ?_⟩
  suffices H : ∃ x, CL F 44 [.lst (em eX l), eI most] h = some x ∧ ∃ v w g, x = (.tup [.ref h.length v 3 0 ((l.take most).map f).length, .ref (h.length + 1) w 3 0 ((l.take most).map f).length], h ++ (some ⟨v, 3, em eQ ((l.take most).map f)⟩ :: some ⟨w, 3, em rQ ((l.take most).map f)⟩ :: g)) by
    obtain ⟨x, h1, v, w, g, rfl⟩ := H
    exact ⟨v, w, g, h1⟩
  refine CL_XE (F := F) (f := 44) rfl rfl ?_
  have c1 := @cells_eX
  have c2 := @agg_eX
  have c3 := @fz_eX
  have c4 := @us_eX
  have c5 := @shut_eX
  clear hx
  refine go3 ?_
  refine X_upto (min l.length most) (fun i s => ∃ j4 j5 j9 j20 v w g, s = ⟨[(0, .lst (em eX l)), (1, eI most), (4, j4), (5, j5), (6, .ref h.length v 3 0 i), (7, .ref (h.length + 1) w 3 0 i), (8, eI i), (9, j9), (20, j20)], h ++ (some ⟨v, 3, em eQ ((l.take i).map f)⟩ :: some ⟨w, 3, em rQ ((l.take i).map f)⟩ :: g)⟩) ?_ 0 (Nat.zero_le _) _ ⟨_, _, _, _, _, _, [], rfl⟩
  rintro i s hi ⟨j4, j5, j9, j20, v, w, g, rfl⟩ rec
  have hlen : ((l.take i).map f).length = i := by simp; omega
  have ht : List.take i ((l.take i).map f) = (l.take i).map f := take_len_g _ hlen.symm
  by_cases h1 : i < l.length
  · have h1' := lt_c h1
    by_cases h2 : i < most
    · have h2' := lt_c h2
      have hi2 : i < min l.length most := by omega
      have hg0 := em_getN (f := eX) l i h1
      obtain ⟨f1, f2⟩ := hf _ (getD_mem h1)
      have k1 := s_r08_Of (q := f (l.getD i default)) (by omega)
      have hs : (l.take i).map f ++ [f (l.getD i default)] = (l.take (i + 1)).map f := by rw [take_succ_getD l i h1]; simp
      have hlim : i + 1 ≤ 2513169434916 := by omega
      have hlim2 : i < 2513169434916 := by omega
      have hw := i64_nat (n := i) (by omega)
      clear hf f1 hlen hi
      refine go3 ?_
      exact rec _ hi2 ⟨_, _, _, _, _, _, _, rfl⟩
    · have h2' : ¬ ((i : Int) < (most : Int)) := by omega
      have hi2 : i = most := by omega
      subst hi2
      clear hf rec hi h1
      refine go3 ?_
      exact ⟨_, rfl, _, _, _, rfl⟩
  · have h1' : ¬ ((i : Int) < (l.length : Int)) := by omega
    have hi2 : l.take most = l := List.take_of_length_le (by omega)
    have hi3 : l.take i = l := List.take_of_length_le (by omega)
    rw [hi3] at hlen
    have ht2 : List.take i (l.map f) = l.map f := take_len_g _ hlen.symm
    rw [hi2, hi3]
    clear hf rec hi h1 hi2 hi3
    refine go3 ?_
    exact ⟨_, rfl, _, _, _, rfl⟩
def RowAt (b : Nat) (g : Heap) (f : Rat → AV) (c : AV) (r : List Rat) (k : Nat) : Prop := ∃ v ys, c = .ref (b + k) v 3 0 r.length ∧ g[k]? = some (some ⟨v, 3, em f r ++ ys⟩)
def RowsIn (b : Nat) (g : Heap) (f : Rat → AV) (cs : List AV) (t : List (List Rat)) (ks : List Nat) : Prop :=
  cs.length = t.length ∧ ks.length = t.length ∧ ∀ i, i < t.length → RowAt b g f (cs.getD i default) (t.getD i default) (ks.getD i default)
theorem RowAt.lt {b : Nat} {g : Heap} {f : Rat → AV} {c : AV} {r : List Rat} {k : Nat} (h : RowAt b g f c r k) : k < g.length := by
  obtain ⟨v, ys, rfl, h⟩ := h
  exact (List.getElem?_eq_some_iff.1 h).1
theorem RowAt.grow {b : Nat} {g : Heap} {f : Rat → AV} {c : AV} {r : List Rat} {k : Nat} (h : RowAt b g f c r k) (g' : Heap) : RowAt b (g ++ g') f c r k := by
  obtain ⟨v, ys, h1, h2⟩ := h
  refine ⟨v, ys, h1, ?_⟩
  rw [List.getElem?_append_left (List.getElem?_eq_some_iff.1 h2).1]
  exact h2
theorem RowAt.set {b : Nat} {g : Heap} {f : Rat → AV} {c : AV} {r : List Rat} {k : Nat} (h : RowAt b g f c r k) {j : Nat} (hj : j ≠ k) (x : Option Blk) : RowAt b (g.set j x) f c r k := by
  obtain ⟨v, ys, h1, h2⟩ := h
  refine ⟨v, ys, h1, ?_⟩
  rw [List.getElem?_set_ne hj]
  exact h2
theorem getD_snoc_lt {α : Type} [Inhabited α] {l : List α} {x : α} {i : Nat} (h : i < l.length) : (l ++ [x]).getD i default = l.getD i default := by
  simp [List.getD, List.getElem?_append_left h]
theorem getD_snoc_eq {α : Type} [Inhabited α] {l : List α} {x : α} : (l ++ [x]).getD l.length default = x := by simp [List.getD]
theorem RowsIn.grow {b : Nat} {g : Heap} {f : Rat → AV} {cs : List AV} {t : List (List Rat)} {ks : List Nat} (h : RowsIn b g f cs t ks) (g' : Heap) : RowsIn b (g ++ g') f cs t ks :=
  ⟨h.1, h.2.1, fun i hi => (h.2.2 i hi).grow g'⟩
theorem RowsIn.snoc {b : Nat} {g : Heap} {f : Rat → AV} {cs : List AV} {t : List (List Rat)} {ks : List Nat} (h : RowsIn b g f cs t ks) {c : AV} {r : List Rat} {k : Nat} (h1 : RowAt b g f c r k) : RowsIn b g f (cs ++ [c]) (t ++ [r]) (ks ++ [k]) := by
  obtain ⟨a1, a2, a3⟩ := h
  refine ⟨by simp [a1], by simp [a2], fun i hi => ?_⟩
  by_cases hl : i < t.length
  · rw [getD_snoc_lt (by omega), getD_snoc_lt hl, getD_snoc_lt (by omega)]
    exact a3 i hl
  · have : i = t.length := by simp at hi; omega
    subst this
    rw [getD_snoc_eq]
    rw [← a1, getD_snoc_eq, a1, ← a2, getD_snoc_eq]
    exact h1
theorem RowsIn.lt {b : Nat} {g : Heap} {f : Rat → AV} {cs : List AV} {t : List (List Rat)} {ks : List Nat} (h : RowsIn b g f cs t ks) : ∀ k ∈ ks, k < g.length := fun k hk => by
  obtain ⟨i, hi, rfl⟩ := List.getElem_of_mem hk
  have := (h.2.2 i (by have := h.2.1; omega)).lt
  rw [List.getD_eq_getElem?_getD, List.getElem?_eq_getElem hi] at this
  exact this
abbrev eXL (l : List XQ) : AV := .lst (em eX l)
theorem s_Few12_raw {t : List (List XQ)} (hx : ∀ l ∈ t, ∀ x ∈ l, x.ok) {most : Nat} (hm : most ≤ 1000000) : ∃ qs : List (List Rat), qs.length = min t.length most ∧ (∀ r ∈ qs, r.length ≤ most ∧ ∀ q ∈ r, Lq q ≤ 1) ∧
    ∀ h, ∃ v w cs ds ks ls g, CL F 11 [.lst (em eXL t), eI most] h = some (.tup [.ref h.length v 1 0 qs.length, .ref (h.length + 1) w 1 0 qs.length], h ++ (some ⟨v, 1, cs⟩ :: some ⟨w, 1, ds⟩ :: g)) ∧
      RowsIn (h.length + 2) g eQ cs qs ks ∧ RowsIn (h.length + 2) g rQ ds qs ls ∧ (ks ++ ls).Nodup := by
  have hex : ∃ f : List XQ → List Rat, ∀ l ∈ t, (f l).length = min l.length most ∧ (∀ q ∈ f l, Lq q ≤ 1) ∧ ∀ h, ∃ v w g, CL F 44 [eXL l, eI most] h = some (.tup [.ref h.length v 3 0 (f l).length, .ref (h.length + 1) w 3 0 (f l).length], h ++ (some ⟨v, 3, em eQ (f l)⟩ :: some ⟨w, 3, em rQ (f l)⟩ :: g)) := by
    classical
    refine ⟨fun l => if h : l ∈ t then (s_Few_raw (hx l h) hm).choose else [], fun l h => ?_⟩
    simp only [h, dif_pos]
    exact (s_Few_raw (hx l h) hm).choose_spec
  obtain ⟨f, hf⟩ := hex
  refine ⟨(t.take most).map f, by simp; omega, fun r hr => ?_, fun h => ?_⟩
  · obtain ⟨l, hl, rfl⟩ := List.mem_map.1 hr
    obtain ⟨h1, h2, _⟩ := hf l (List.mem_of_mem_take hl)
    exact ⟨by omega, h2⟩
  suffices H : ∃ x, CL F 11 [.lst (em eXL t), eI most] h = some x ∧ ∃ v w cs ds ks ls g, x = (.tup [.ref h.length v 1 0 ((t.take most).map f).length, .ref (h.length + 1) w 1 0 ((t.take most).map f).length], h ++ (some ⟨v, 1, cs⟩ :: some ⟨w, 1, ds⟩ :: g)) ∧
      RowsIn (h.length + 2) g eQ cs ((t.take most).map f) ks ∧ RowsIn (h.length + 2) g rQ ds ((t.take most).map f) ls ∧ (ks ++ ls).Nodup by
    obtain ⟨x, h1, v, w, cs, ds, ks, ls, g, rfl, h2⟩ := H
    exact ⟨v, w, cs, ds, ks, ls, g, h1, h2⟩
  refine CL_XE (F := F) (f := 11) rfl rfl ?_
  clear hx
  refine go3 ?_
  refine X_upto (min t.length most) (fun i s => ∃ j4 j5 j9 j10 j21 v w cs ds ks ls g, RowsIn (h.length + 2) g eQ cs ((t.take i).map f) ks ∧ RowsIn (h.length + 2) g rQ ds ((t.take i).map f) ls ∧ (ks ++ ls).Nodup ∧
    s = ⟨[(0, .lst (em eXL t)), (1, eI most), (4, j4), (5, j5), (6, .ref h.length v 1 0 i), (7, .ref (h.length + 1) w 1 0 i), (8, eI i), (9, j9), (10, j10), (21, j21)], h ++ (some ⟨v, 1, cs⟩ :: some ⟨w, 1, ds⟩ :: g)⟩) ?_ 0 (Nat.zero_le _) _
    ⟨_, _, _, _, _, _, _, [], [], [], [], [], ⟨rfl, rfl, fun i hi => by simp at hi⟩, ⟨rfl, rfl, fun i hi => by simp at hi⟩, by simp, rfl⟩
  rintro i s hi ⟨j4, j5, j9, j10, j21, v, w, cs, ds, ks, ls, g, R1, R2, R3, rfl⟩ rec
  have hlen : ((t.take i).map f).length = i := by simp; omega
  have l1 : cs.length = i := by rw [R1.1, hlen]
  have l2 : ds.length = i := by rw [R2.1, hlen]
  have ht1 : List.take i cs = cs := take_len_g _ l1.symm
  have ht2 : List.take i ds = ds := take_len_g _ l2.symm
  have ht3 : sub cs 0 i = cs := by unfold sub; rw [List.drop_zero]; exact ht1
  have ht4 : sub ds 0 i = ds := by unfold sub; rw [List.drop_zero]; exact ht2
  by_cases h1 : i < t.length
  · have h1' := lt_c h1
    by_cases h2 : i < most
    · have h2' := lt_c h2
      have hi2 : i < min t.length most := by omega
      have hg0 := em_getN (f := eXL) t i h1
      obtain ⟨f1, f2, f3⟩ := hf _ (getD_mem h1)
      obtain ⟨v', w', g', f4⟩ := f3 (h ++ (some ⟨v, 1, cs⟩ :: some ⟨w, 1, ds⟩ :: g))
      have hs : (t.take i).map f ++ [f (t.getD i default)] = (t.take (i + 1)).map f := by rw [take_succ_getD t i h1]; simp
      have hlim : i + 1 ≤ 5864062014805 := by omega
      have hlim2 : i < 5864062014805 := by omega
      have hw := i64_nat (n := i) (by omega)
      generalize hr : f (t.getD i default) = r at *
      clear hf f1 f2 f3 hlen hi
      refine go3 ?_
      refine rec _ hi2 ⟨_, _, _, _, _, _, _, _, _, ks ++ [g.length], ls ++ [g.length + 1], _, ?_, ?_, ?_, rfl⟩
      · rw [← hs]
        refine (R1.grow _).snoc ?_
        refine ⟨v', [], by congr 1; omega, ?_⟩
        rw [get_app0, List.append_nil]
        rfl
      · rw [← hs]
        refine (R2.grow _).snoc ?_
        refine ⟨w', [], by congr 1; omega, ?_⟩
        rw [get_app, List.append_nil]
        rfl
      · have q1 := R1.lt
        have q2 := R2.lt
        rw [List.nodup_append] at R3 ⊢
        obtain ⟨n1, n2, n3⟩ := R3
        refine ⟨?_, ?_, ?_⟩
        · rw [List.nodup_append]
          exact ⟨n1, by simp, fun a ha b hb => by have := q1 a ha; simp at hb; omega⟩
        · rw [List.nodup_append]
          exact ⟨n2, by simp, fun a ha b hb => by have := q2 a ha; simp at hb; omega⟩
        · intro a ha b hb
          simp only [List.mem_append, List.mem_singleton] at ha hb
          rcases ha with ha | rfl
          · rcases hb with hb | rfl
            · exact n3 a ha b hb
            · have := q1 a ha; omega
          · rcases hb with hb | rfl
            · have := q2 b hb; omega
            · omega
    · have h2' : ¬ ((i : Int) < (most : Int)) := by omega
      have hi2 : i = most := by omega
      subst hi2
      clear hf rec hi h1
      refine go3 ?_
      exact ⟨_, rfl, _, _, _, _, _, _, _, rfl, R1, R2, R3⟩
  · have h1' : ¬ ((i : Int) < (t.length : Int)) := by omega
    have hi2 : t.take most = t := List.take_of_length_le (by omega)
    have hi3 : t.take i = t := List.take_of_length_le (by omega)
    rw [hi3] at hlen R1 R2
    rw [hi2]
    clear hf rec hi h1 hi2 hi3
    refine go3 ?_
    exact ⟨_, rfl, _, _, _, _, _, _, _, rfl, R1, R2, R3⟩
theorem mapM_some {α β : Type} {F : α → Option β} {G : α → β} : ∀ (l : List α), (∀ x ∈ l, F x = some (G x)) → l.mapM F = some (l.map G) := by
  intro l
  induction l with
  | nil => intro _; rfl
  | cons x l ih =>
    intro h
    rw [List.mapM_cons, h x (List.mem_cons_self ..), ih fun y hy => h y (List.mem_cons_of_mem _ hy)]
    rfl
theorem RowAt.frz {b : Nat} {g H : Heap} {f : Rat → AV} {c : AV} {r : List Rat} {k : Nat} (h : RowAt b g f c r k) (hf : ∀ x, plain1 (f x) = true) (hH : H[b + k]? = g[k]?) (n : Nat) : frz H (n + 3) c = some (.lst (em f r)) := by
  obtain ⟨v, ys, rfl, h2⟩ := h
  show (blk H (b + k) v).bind (fun b => ((sub b.xs 0 r.length).mapM (Go.AM.frz H (n + 2))).map AV.lst) = _
  have h3 : blk H (b + k) v = some ⟨v, 3, em f r ++ ys⟩ := by
    unfold blk
    rw [hH, h2]
    exact if_pos rfl
  rw [h3]
  have h4 : sub (em f r ++ ys) 0 r.length = em f r := by
    unfold sub
    rw [List.drop_zero, List.take_left' (by simp [em])]
  show ((sub (em f r ++ ys) 0 r.length).mapM (Go.AM.frz H (n + 2))).map AV.lst = _
  rw [h4, mapM_some (G := id) _ fun x hx => by
    obtain ⟨q, _, rfl⟩ := List.mem_map.1 hx
    exact (frz_plain1 (hf q)).1]
  simp
theorem RowsIn.frz {b : Nat} {g H : Heap} {f : Rat → AV} {cs : List AV} {t : List (List Rat)} {ks : List Nat} (h : RowsIn b g f cs t ks) (hf : ∀ x, plain1 (f x) = true) (hH : ∀ k, H[b + k]? = g[k]?) (n : Nat) : cs.mapM (frz H (n + 3)) = some (em (fun r => .lst (em f r)) t) := by
  obtain ⟨h1, h2, h3⟩ := h
  have key : ∀ (cs : List AV) (t : List (List Rat)), cs.length = t.length → (∀ i, i < t.length → Go.AM.frz H (n + 3) (cs.getD i default) = some (.lst (em f (t.getD i default)))) → cs.mapM (Go.AM.frz H (n + 3)) = some (em (fun r => .lst (em f r)) t) := by
    intro cs
    induction cs with
    | nil =>
      intro t ht _
      cases t with
      | nil => rfl
      | cons r t => simp at ht
    | cons c cs ih =>
      intro t ht hi
      cases t with
      | nil => simp at ht
      | cons r t =>
        have a0 := hi 0 (by simp)
        have a1 := ih t (by simpa using ht) fun i hi' => hi (i + 1) (by simp; omega)
        rw [List.mapM_cons]
        rw [show Go.AM.frz H (n + 3) c = some (.lst (em f r)) from a0, a1]
        rfl
  exact key cs t h1 fun i hi => (h3 i hi).frz hf (hH _) n
theorem fz_rows2 {h : Heap} {v w : Nat} {cs ds : List AV} {g : Heap} {t : List (List Rat)} {ks ls : List Nat} (R1 : RowsIn (h.length + 2) g eQ cs t ks) (R2 : RowsIn (h.length + 2) g rQ ds t ls) :
    fz (h ++ (some ⟨v, 1, cs⟩ :: some ⟨w, 1, ds⟩ :: g)) (.tup [.ref h.length v 1 0 t.length, .ref (h.length + 1) w 1 0 t.length]) = some (.tup [eT t, rT t]) := by
  have hH : ∀ k, (h ++ (some ⟨v, 1, cs⟩ :: some ⟨w, 1, ds⟩ :: g))[h.length + 2 + k]? = g[k]? := fun k => by
    rw [Nat.add_assoc, get_app, show 2 + k = k + 1 + 1 by omega]
    rfl
  have a1 := R1.frz (fun x => E_eQ.pl x) hH 2
  have a2 := R2.frz (fun x => E_rQ.pl x) hH 2
  have b1 : blk (h ++ (some ⟨v, 1, cs⟩ :: some ⟨w, 1, ds⟩ :: g)) h.length v = some ⟨v, 1, cs⟩ := by
    unfold blk
    rw [get_app0]
    exact if_pos rfl
  have b2 : blk (h ++ (some ⟨v, 1, cs⟩ :: some ⟨w, 1, ds⟩ :: g)) (h.length + 1) w = some ⟨w, 1, ds⟩ := by
    unfold blk
    rw [get_app]
    exact if_pos rfl
  generalize h ++ (some ⟨v, 1, cs⟩ :: some ⟨w, 1, ds⟩ :: g) = H at *
  have c1 : sub cs 0 t.length = cs := by unfold sub; rw [List.drop_zero]; exact List.take_of_length_le (by rw [R1.1]; omega)
  have c2 : sub ds 0 t.length = ds := by unfold sub; rw [List.drop_zero]; exact List.take_of_length_le (by rw [R2.1]; omega)
  have d1 : frz H 6 (.ref h.length v 1 0 t.length) = some (eT t) := by
    show (blk H h.length v).bind (fun b => ((sub b.xs 0 t.length).mapM (Go.AM.frz H 5)).map AV.lst) = _
    rw [b1]
    show ((sub cs 0 t.length).mapM (Go.AM.frz H 5)).map AV.lst = _
    rw [c1, a1]
    rfl
  have d2 : frz H 6 (.ref (h.length + 1) w 1 0 t.length) = some (rT t) := by
    show (blk H (h.length + 1) w).bind (fun b => ((sub b.xs 0 t.length).mapM (Go.AM.frz H 5)).map AV.lst) = _
    rw [b2]
    show ((sub ds 0 t.length).mapM (Go.AM.frz H 5)).map AV.lst = _
    rw [c2, a2]
    rfl
  show ([AV.ref h.length v 1 0 t.length, .ref (h.length + 1) w 1 0 t.length].mapM (Go.AM.frz H 6)).map AV.tup = _
  rw [List.mapM_cons, d1, List.mapM_cons, d2]
  rfl
theorem s_Few12 {t : List (List XQ)} (hx : ∀ l ∈ t, ∀ x ∈ l, x.ok) {most : Nat} (hm : most ≤ 1000000) : ∃ qs : List (List Rat), qs.length = min t.length most ∧ (∀ r ∈ qs, r.length ≤ most ∧ ∀ q ∈ r, Lq q ≤ 1) ∧
    CP (CL F) 11 [.lst (em eXL t), eI most] = some (.tup [eT qs, rT qs]) := by
  obtain ⟨qs, h1, h2, h3⟩ := s_Few12_raw hx hm
  refine ⟨qs, h1, h2, ?_⟩
  obtain ⟨v, w, cs, ds, ks, ls, g, h4, R1, R2, _⟩ := h3 []
  exact CP_raw h4 (fz_rows2 (h := []) R1 R2)
end Go.S

end
section
set_option linter.unusedVariables false
set_option linter.unusedSimpArgs false
set_option maxRecDepth 100000
namespace Go.Proofs.YtflnfnemhgjglaaGreat.R
open Go Go.AM Go.S Go.RowKit Go.K Go.Proofs
theorem rdT : Rd Tryz.prog 22 (fun l : List (List XQ) => [.lst (em eXL l)]) fun l => ∀ r ∈ l, ∀ x ∈ r, x.ok :=
  (rd_slice Tryz.underlying22 rdR eXL (fun _ => rfl) (s := 1) (by kernel_rfl) (fun _ => rfl) (by decide)).map id (fun _ => rfl) fun l h => h.1
end Go.Proofs.YtflnfnemhgjglaaGreat.R

end
section
set_option linter.unusedVariables false
set_option linter.unusedSimpArgs false
set_option maxRecDepth 100000
namespace Go.S
open Go Go.AM Go.RowKit Go.K
theorem getD_inj' {α : Type} [Inhabited α] {l r : List α} {i : Nat} (hne : l.getD i default ≠ r.getD i default) : l ≠ r := fun e => hne (by rw [e])
theorem s_EqualRows {a b : List (List Rat)} {g : Nat} (ha : a.length ≤ 1000000) (hg : ∀ x ∈ a, ∀ y ∈ b, CP (CL F) g [eR x, eR y] = some (.bool (decide (x = y)))) :
    CP (CL F) 63 [eT a, eT b, .fn g [] []] = some (.bool (decide (a = b))) := by
  refine CP_X (F := F) (f := 63) rfl rfl ?_
  by_cases hl : a.length = b.length
  · have hl1 : ¬ ((a.length : Int) ≠ (b.length : Int)) := by omega
    have hl2 : (a.length : Int) = (b.length : Int) := by omega
    refine go3 ?_
    refine X_upto a.length (fun i s => ∃ j6 j7 j8 j9 j18 j30 g', (a.take i = b.take i) ∧ s = ⟨[(0, eT a), (1, eT b), (2, .fn g [] []), (6, j6), (7, j7), (8, j8), (9, j9), (14, .bool false), (15, eT a), (16, eI b.length), (17, eI i), (18, j18), (30, j30)], g'⟩) ?_ 0 (Nat.zero_le _) _ ⟨_, _, _, _, _, _, _, by simp, rfl⟩
    rintro i s hi ⟨j6, j7, j8, j9, j18, j30, g', heq, rfl⟩ rec
    by_cases hlt : i < a.length
    · have hlt1 : (i : Int) < (b.length : Int) := by omega
      have hlt2 : (i : Int) < (a.length : Int) := by omega
      have g1 := em_getN (f := eR) a i (by omega)
      have g2 := em_getN (f := eR) b i (by omega)
      have hc := hg _ (getD_mem (l := a) (i := i) (by omega)) _ (getD_mem (l := b) (i := i) (by omega))
      by_cases hx : a.getD i default = b.getD i default
      · have hx' : decide (a.getD i default = b.getD i default) = true := decide_eq_true hx
        rw [hx'] at hc
        have hnext : a.take (i + 1) = b.take (i + 1) := by rw [take_succ_getD a i hlt, take_succ_getD b i (by omega), heq, hx]
        have hw := i64_nat (n := i) (by omega)
        clear hx hx' heq hg
        refine go3 ?_
        exact rec _ hlt ⟨_, _, _, _, _, _, _, hnext, rfl⟩
      · have hx' : decide (a.getD i default = b.getD i default) = false := decide_eq_false hx
        rw [hx'] at hc
        have hne : decide (a = b) = false := by simpa using getD_inj' hx
        clear hx hx' heq hg rec
        refine go3 ?_
        trivial
    · have hl3 : ¬ ((i : Int) < (b.length : Int)) := by omega
      have he : decide (a = b) = true := by
        rw [List.take_of_length_le (by omega), List.take_of_length_le (by omega)] at heq
        simpa using heq
      clear heq hg rec
      refine go3 ?_
      trivial
  · have hl1 : (a.length : Int) ≠ (b.length : Int) := by omega
    have hl2 : ¬ (a.length : Int) = (b.length : Int) := by omega
    have he : decide (a = b) = false := by simpa using fun e => hl (by rw [e])
    clear hg
    refine go3 ?_
    trivial
theorem s_mSame {a b : List (List Rat)} (ha : a.length ≤ 1000000) (h0 : ∀ r ∈ a, r.length ≤ 1000000 ∧ ∀ q ∈ r, Lq q < 100000000) : CP (CL F) 21 [eT a, eT b] = some (.bool (decide (a = b))) := by
  refine CP_X (F := F) (f := 21) rfl rfl ?_
  have h := s_EqualRows (a := a) (b := b) (g := 64) ha fun x hx y hy => s_vect_Same (h0 x hx).1 (h0 x hx).2
  clear h0
  refine go3 ?_
  trivial
def unitR (n i : Nat) : List Rat := (List.replicate n 0).set i 1
def ident (n : Nat) : List (List Rat) := (List.range n).map (unitR n)
theorem s_Ident {n : Nat} (hn : n ≤ 200) : CP (CL F) 38 [eI n] = some (.tup [eT (ident n), eI 0]) := by
  refine CP_X (F := F) (f := 38) rfl rfl ?_
  have h0 : ¬ ((n : Int) < 0) := by omega
  have h1 : ¬ ((200 : Int) < (n : Int)) := by omega
  have h2 : n ≤ 11728124029610 := by omega
  refine go3 ?_
  refine X_up n (fun i s => ∃ j5 j11 j17 g, s = ⟨[(0, eI n), (2, .nil), (3, eI 0), (4, .ref 0 0 1 0 n), (5, j5), (11, j11), (15, eI n), (16, eI i), (17, j17)], some ⟨0, 1, em eR ((List.range i).map (unitR n)) ++ List.replicate (n - i) .nil⟩ :: g⟩) ?_ ?_ 0 (Nat.zero_le _) _ ⟨_, _, _, [], rfl⟩
  · rintro i s hi ⟨j5, j11, j17, g, rfl⟩ rec
    have hl := lt_c hi
    have hu := s_vect_Unit hn hi
    rw [show (List.replicate n (0 : Rat)).set i 1 = unitR n i from rfl] at hu
    obtain ⟨m, hm⟩ : ∃ m, n - i = m + 1 := ⟨n - i - 1, by omega⟩
    have hg := fill_get (f := eR) ((List.range i).map (unitR n)) m .nil
    have hs := fill_set (f := eR) ((List.range i).map (unitR n)) m .nil (unitR n i)
    rw [List.length_map, List.length_range] at hg hs
    rw [← hm, show m = n - (i + 1) by omega, show (List.range i).map (unitR n) ++ [unitR n i] = (List.range (i + 1)).map (unitR n) by rw [List.range_succ]; simp] at hs
    rw [← hm] at hg
    have hw := i64_nat (n := i) (by omega)
    clear hm h0 h1 h2
    refine go3 ?_
    exact rec _ ⟨_, _, _, _, rfl⟩
  · rintro s ⟨j5, j11, j17, g, rfl⟩
    have hl : ¬ ((n : Int) < (n : Int)) := nlt_c
    have he : List.replicate (n - n) AV.nil = [] := by simp
    have ht : List.take n ((List.range n).map (unitR n)) = ident n := take_len_g _ (by simp)
    refine go3 ?_
    trivial
end Go.S

end
section
set_option linter.unusedVariables false
set_option linter.unusedSimpArgs false
namespace Go.S
abbrev Mt := Nat → Nat → Rat
def sm : Nat → (Nat → Rat) → Rat
  | 0, _ => 0
  | n + 1, f => sm n f + f n
theorem sm_congr {n : Nat} {f g : Nat → Rat} (h : ∀ i, i < n → f i = g i) : sm n f = sm n g := by
  induction n with
  | zero => rfl
  | succ n ih => simp only [sm]; rw [ih fun i hi => h i (by omega), h n (by omega)]
theorem sm_zero (n : Nat) : sm n (fun _ => 0) = 0 := by
  induction n with
  | zero => rfl
  | succ n ih => simp only [sm]; rw [ih]; grind
theorem sm_zero' {n : Nat} {f : Nat → Rat} (h : ∀ i, i < n → f i = 0) : sm n f = 0 := (sm_congr h).trans (sm_zero n)
theorem sm_add (n : Nat) (f g : Nat → Rat) : sm n (fun i => f i + g i) = sm n f + sm n g := by
  induction n with
  | zero => simp only [sm]; grind
  | succ n ih => simp only [sm]; rw [ih]; grind
theorem sm_mul (n : Nat) (k : Rat) (f : Nat → Rat) : sm n (fun i => k * f i) = k * sm n f := by
  induction n with
  | zero => simp only [sm]; grind
  | succ n ih => simp only [sm]; rw [ih]; grind
theorem sm_neg (n : Nat) (f : Nat → Rat) : sm n (fun i => -f i) = -sm n f := by
  rw [sm_congr (g := fun i => (-1) * f i) fun i _ => by grind, sm_mul]; grind
theorem sm_one {n j : Nat} {f : Nat → Rat} (hj : j < n) (h : ∀ i, i < n → i ≠ j → f i = 0) : sm n f = f j := by
  induction n with
  | zero => omega
  | succ n ih =>
    simp only [sm]
    by_cases e : j = n
    · subst e
      rw [sm_zero' fun i hi => h i (by omega) (by omega)]; grind
    · rw [ih (by omega) fun i hi hne => h i (by omega) hne, h n (by omega) (by omega)]; grind
def psg (j : Nat) : Rat := if j % 2 = 0 then 1 else -1
theorem psg_succ (j : Nat) : psg (j + 1) = -psg j := by
  unfold psg
  rcases Nat.mod_two_eq_zero_or_one j with h | h
  · rw [if_neg (by omega), if_pos h]
  · rw [if_pos (by omega), if_neg (by omega)]; grind
def sk (j c : Nat) : Nat := if c < j then c else c + 1
def cut (A : Mt) (j : Nat) : Mt := fun i c => A (i + 1) (sk j c)
def det : Nat → Mt → Rat
  | 0, _ => 1
  | n + 1, A => sm (n + 1) fun j => psg j * A 0 j * det n (cut A j)
theorem det_succ (n : Nat) (A : Mt) : det (n + 1) A = sm (n + 1) fun j => psg j * A 0 j * det n (cut A j) := rfl
theorem sk_lt {j c n : Nat} (h : c < n) : sk j c < n + 1 := by unfold sk; split <;> omega
theorem det_congr {n : Nat} : ∀ {A B : Mt}, (∀ i c, i < n → c < n → A i c = B i c) → det n A = det n B := by
  induction n with
  | zero => intro A B h; rfl
  | succ n ih =>
    intro A B h
    rw [det_succ, det_succ]
    refine sm_congr fun j hj => ?_
    rw [h 0 j (by omega) hj, ih (A := cut A j) (B := cut B j) fun i c hi hc => h (i + 1) (sk j c) (by omega) (sk_lt hc)]
def setr (A : Mt) (r : Nat) (f : Nat → Rat) : Mt := fun i c => if i = r then f c else A i c
theorem cut_setr0 (A : Mt) (f : Nat → Rat) (j : Nat) : cut (setr A 0 f) j = cut A j := by
  funext i c; simp [cut, setr]
theorem cut_setr (A : Mt) (r : Nat) (f : Nat → Rat) (j : Nat) : cut (setr A (r + 1) f) j = setr (cut A j) r (fun c => f (sk j c)) := by
  funext i c; simp [cut, setr]
theorem det_lin {n : Nat} : ∀ {A : Mt} {r : Nat} (f g : Nat → Rat) (k : Rat), r < n → det n (setr A r fun c => f c + k * g c) = det n (setr A r f) + k * det n (setr A r g) := by
  induction n with
  | zero => intro A r f g k h; omega
  | succ n ih =>
    intro A r f g k h
    rw [det_succ, det_succ, det_succ, ← sm_mul, ← sm_add]
    refine sm_congr fun j hj => ?_
    cases r with
    | zero =>
      rw [cut_setr0, cut_setr0, cut_setr0]
      simp only [setr, if_true]
      grind
    | succ r =>
      rw [cut_setr, cut_setr, cut_setr, ih (fun c => f (sk j c)) (fun c => g (sk j c)) k (by omega)]
      simp only [setr]
      rw [if_neg (by omega), if_neg (by omega), if_neg (by omega)]
      grind
theorem pairs (N : Nat) (F : Nat → Nat → Rat) : sm (N + 1) (fun j => sm N (F j)) = sm (N + 1) fun j => sm j fun k => F j k + F k (j - 1) := by
  induction N with
  | zero => simp only [sm]
  | succ N ih =>
    have e1 : sm (N + 1) (fun j => sm (N + 1) (F j)) = sm (N + 1) (fun j => sm N (F j)) + sm (N + 1) fun j => F j N := by
      rw [← sm_add]; rfl
    have e2 : sm (N + 1) (fun k => F (N + 1) k + F k (N + 1 - 1)) = sm (N + 1) (F (N + 1)) + sm (N + 1) fun k => F k N := by
      rw [← sm_add]; rfl
    show sm (N + 1) (fun j => sm (N + 1) (F j)) + sm (N + 1) (F (N + 1)) = sm (N + 1) (fun j => sm j fun k => F j k + F k (j - 1)) + sm (N + 1) (fun k => F (N + 1) k + F k (N + 1 - 1))
    rw [e1, e2, ih]
    grind
theorem cut_cut (A : Mt) {j k : Nat} (h : k < j) : cut (cut A k) (j - 1) = cut (cut A j) k := by
  funext i c
  unfold cut
  congr 1
  by_cases h1 : c < k
  · have a1 : sk (j - 1) c = c := by unfold sk; rw [if_pos (by omega)]
    have a2 : sk k c = c := by unfold sk; rw [if_pos h1]
    have a3 : sk j c = c := by unfold sk; rw [if_pos (by omega)]
    rw [a1, a2, a3]
  · have a2 : sk k c = c + 1 := by unfold sk; rw [if_neg h1]
    by_cases h2 : c < j - 1
    · have a1 : sk (j - 1) c = c := by unfold sk; rw [if_pos h2]
      have a3 : sk j (c + 1) = c + 1 := by unfold sk; rw [if_pos (by omega)]
      rw [a1, a2, a3]
    · have a1 : sk (j - 1) c = c + 1 := by unfold sk; rw [if_neg h2]
      have a3 : sk j (c + 1) = c + 2 := by unfold sk; rw [if_neg (by omega)]
      have a4 : sk k (c + 1) = c + 2 := by unfold sk; rw [if_neg (by omega)]
      rw [a1, a2, a3, a4]
def sw (A : Mt) (r : Nat) : Mt := fun i => A (if i = r then r + 1 else if i = r + 1 then r else i)
theorem det_two (m : Nat) (A : Mt) : det (m + 2) A = sm (m + 2) fun j => sm j fun k => psg j * psg k * (A 0 j * A 1 k - A 0 k * A 1 j) * det m (cut (cut A j) k) := by
  rw [det_succ]
  have e : ∀ j, psg j * A 0 j * det (m + 1) (cut A j) = sm (m + 1) fun k => psg j * A 0 j * (psg k * A 1 (sk j k) * det m (cut (cut A j) k)) := fun j => by
    rw [det_succ, sm_mul]; rfl
  rw [sm_congr fun j _ => e j, pairs (m + 1) fun j k => psg j * A 0 j * (psg k * A 1 (sk j k) * det m (cut (cut A j) k))]
  refine sm_congr fun j hj => sm_congr fun k hk => ?_
  rw [cut_cut A hk]
  have a1 : sk j k = k := by unfold sk; rw [if_pos hk]
  have a2 : sk k (j - 1) = j := by unfold sk; rw [if_neg (by omega)]; omega
  obtain ⟨i, rfl⟩ : ∃ i, j = i + 1 := ⟨j - 1, by omega⟩
  rw [a1, a2, psg_succ, Nat.add_sub_cancel]
  grind
theorem det_sw0 (m : Nat) (A : Mt) : det (m + 2) (sw A 0) = -det (m + 2) A := by
  rw [det_two, det_two, ← sm_neg]
  refine sm_congr fun j hj => ?_
  rw [← sm_neg]
  refine sm_congr fun k hk => ?_
  have e : cut (cut (sw A 0) j) k = cut (cut A j) k := by
    funext i c; simp [cut, sw]
  rw [e]
  show psg j * psg k * (A 1 j * A 0 k - A 1 k * A 0 j) * _ = _
  grind
theorem det_sw {n : Nat} : ∀ {A : Mt} {r : Nat}, r + 1 < n → det n (sw A r) = -det n A := by
  induction n with
  | zero => intro A r h; omega
  | succ n ih =>
    intro A r h
    cases r with
    | zero =>
      obtain ⟨m, rfl⟩ : ∃ m, n = m + 1 := ⟨n - 1, by omega⟩
      exact det_sw0 m A
    | succ r =>
      rw [det_succ, det_succ, ← sm_neg]
      refine sm_congr fun j hj => ?_
      have e : cut (sw A (r + 1)) j = sw (cut A j) r := by
        funext i c
        unfold cut sw
        congr 1
        simp only [Nat.add_right_cancel_iff]
        split
        · rfl
        · split <;> rfl
      rw [e, ih (by omega)]
      have e2 : sw A (r + 1) 0 j = A 0 j := by simp [sw]
      rw [e2]
      grind
theorem det_eq0 {n : Nat} : ∀ (s : Nat) {A : Mt}, s + 1 < n → (∀ c, c < n → A 0 c = A (s + 1) c) → det n A = 0 := by
  intro s
  induction s with
  | zero =>
    intro A h e
    have h1 := det_sw (A := A) (r := 0) h
    have h2 : det n (sw A 0) = det n A := det_congr fun i c hi hc => by
      unfold sw
      by_cases h0 : i = 0
      · subst h0; exact (e c hc).symm
      · rw [if_neg h0]
        by_cases h1 : i = 0 + 1
        · rw [if_pos h1]; subst h1; exact e c hc
        · rw [if_neg h1]
    rw [h2] at h1
    grind
  | succ s ih =>
    intro A h e
    have h1 := det_sw (A := A) (r := s + 1) h
    have h2 : det n (sw A (s + 1)) = 0 := ih (by omega) fun c hc => by
      have a1 : sw A (s + 1) 0 c = A 0 c := by simp [sw]
      have a2 : sw A (s + 1) (s + 1) c = A (s + 1 + 1) c := by simp [sw]
      rw [a1, a2]; exact e c hc
    rw [h2] at h1
    grind
theorem det_eq {n : Nat} : ∀ {A : Mt} {r s : Nat}, r < s → s < n → (∀ c, c < n → A r c = A s c) → det n A = 0 := by
  induction n with
  | zero => intro A r s _ h; omega
  | succ n ih =>
    intro A r s h1 h2 e
    cases r with
    | zero =>
      obtain ⟨t, rfl⟩ : ∃ t, s = t + 1 := ⟨s - 1, by omega⟩
      exact det_eq0 t h2 e
    | succ r =>
      obtain ⟨t, rfl⟩ : ∃ t, s = t + 1 := ⟨s - 1, by omega⟩
      rw [det_succ]
      refine sm_zero' fun j hj => ?_
      rw [ih (A := cut A j) (r := r) (s := t) (by omega) (by omega) fun c hc => e (sk j c) (sk_lt hc)]
      grind
theorem det_eq' {n : Nat} {A : Mt} {r s : Nat} (h : r ≠ s) (hr : r < n) (hs : s < n) (e : ∀ c, c < n → A r c = A s c) : det n A = 0 := by
  rcases Nat.lt_or_ge r s with h1 | h1
  · exact det_eq h1 hs e
  · exact det_eq (show s < r by omega) hr fun c hc => (e c hc).symm
theorem setr_self (A : Mt) (r : Nat) : setr A r (A r) = A := by
  funext i c; unfold setr; split
  · next h => rw [h]
  · rfl
theorem det_more {n : Nat} {A : Mt} {r s : Nat} (k : Rat) (h : r ≠ s) (hr : r < n) (hs : s < n) : det n (setr A r fun c => A r c + k * A s c) = det n A := by
  rw [det_lin (A r) (A s) k hr, setr_self]
  have e : det n (setr A r (A s)) = 0 := det_eq' h hr hs fun c _ => by
    simp only [setr, if_true]
    rw [if_neg (Ne.symm h)]
  rw [e]; grind
theorem det_scale {n : Nat} {A : Mt} {r : Nat} (k : Rat) (hr : r < n) : det n (setr A r fun c => k * A r c) = k * det n A := by
  have e1 := det_lin (A := A) (fun _ => 0) (A r) k hr
  have e2 := det_lin (A := A) (fun _ => 0) (fun _ => 0) 1 hr
  rw [setr_self] at e1
  rw [show (fun c => (0 : Rat) + k * A r c) = fun c => k * A r c from by funext c; grind] at e1
  rw [show (fun c : Nat => (0 : Rat) + 1 * 0) = fun _ => 0 from by funext c; grind] at e2
  rw [e1]; grind
theorem det_row0 {n : Nat} {A : Mt} {r : Nat} (hr : r < n) (h : ∀ c, c < n → A r c = 0) : det n A = 0 := by
  have e := det_scale (A := A) 0 hr
  rw [← det_congr (A := A) (B := setr A r fun c => 0 * A r c) fun i c hi hc => ?_] at e
  · rw [e]; grind
  · unfold setr
    split
    · next h1 => rw [h1, h c hc]; grind
    · rfl
def swp (A : Mt) (r s : Nat) : Mt := fun i => A (if i = r then s else if i = s then r else i)
theorem det_swp {n : Nat} {A : Mt} {r s : Nat} (h : r ≠ s) (hr : r < n) (hs : s < n) : det n (swp A r s) = -det n A := by
  have e1 := det_more (A := A) 1 h hr hs
  generalize hB : setr A r (fun c => A r c + 1 * A s c) = B at e1
  have e2 := det_more (A := B) (-1) (Ne.symm h) hs hr
  generalize hC : setr B s (fun c => B s c + -1 * B r c) = C at e2
  have e3 := det_more (A := C) 1 h hr hs
  generalize hD : setr C r (fun c => C r c + 1 * C s c) = D at e3
  have e4 := det_scale (A := D) (-1) hs
  have e5 : setr D s (fun c => -1 * D s c) = swp A r s := by
    subst hD; subst hC; subst hB
    funext i c
    unfold setr swp
    by_cases h1 : i = s
    · subst h1; simp [h, Ne.symm h]; grind
    · by_cases h2 : i = r
      · subst h2; simp [h, Ne.symm h]; grind
      · simp [h1, h2]
  rw [← e5, e4, e3, e2, e1]; grind
theorem det_id (n : Nat) : ∀ {A : Mt}, (∀ i c, i < n → c < n → A i c = if i = c then 1 else 0) → det n A = 1 := by
  induction n with
  | zero => intro A h; rfl
  | succ n ih =>
    intro A h
    rw [det_succ, sm_one (j := 0) (by omega) fun j hj hne => by rw [h 0 j (by omega) hj, if_neg (Ne.symm hne)]; grind]
    rw [h 0 0 (by omega) (by omega), if_pos rfl, ih fun i c hi hc => by
      show A (i + 1) (sk 0 c) = _
      rw [show sk 0 c = c + 1 from rfl, h (i + 1) (c + 1) (by omega) (by omega)]
      simp]
    unfold psg; simp
structure LinR (φ : (Nat → Rat) → Nat → Rat) : Prop where
  add : ∀ f g k c, φ (fun x => f x + k * g x) c = φ f c + k * φ g c
theorem LinR.zero {φ : (Nat → Rat) → Nat → Rat} (L : LinR φ) (c : Nat) : φ (fun _ => 0) c = 0 := by
  have h := L.add (fun _ => 0) (fun _ => 0) 1 c
  rw [show (fun x : Nat => (0 : Rat) + 1 * 0) = fun _ => 0 from by funext x; grind] at h
  grind
theorem LinR.mul {φ : (Nat → Rat) → Nat → Rat} (L : LinR φ) (f : Nat → Rat) (k : Rat) (c : Nat) : φ (fun x => k * f x) c = k * φ f c := by
  have h := L.add (fun _ => 0) f k c
  rw [show (fun x : Nat => (0 : Rat) + k * f x) = fun x => k * f x from by funext x; grind, L.zero] at h
  grind
end Go.S

end
section
set_option linter.unusedVariables false
set_option linter.unusedSimpArgs false
namespace Go.S
theorem setr_row (B : Mt) (r : Nat) (g : Nat → Rat) (i : Nat) : setr B r g i = if i = r then g else B i := by
  funext c; unfold setr; split <;> rfl
inductive Rop (n : Nat) : Mt → Mt → Rat → Prop
  | refl (A : Mt) : Rop n A A 1
  | scale {A B : Mt} {f : Rat} (r : Nat) (k : Rat) (hr : r < n) (hk : k ≠ 0) : Rop n A B f → Rop n A (setr B r fun x => k * B r x) (f * k⁻¹)
  | more {A B : Mt} {f : Rat} (r s : Nat) (k : Rat) (hr : r < n) (hs : s < n) (h : r ≠ s) : Rop n A B f → Rop n A (setr B r fun x => B r x + k * B s x) f
  | swap {A B : Mt} {f : Rat} (r s : Nat) (hr : r < n) (hs : s < n) (h : r ≠ s) : Rop n A B f → Rop n A (swp B r s) (-f)
theorem Rop.det {n : Nat} {A B : Mt} {f : Rat} (H : Rop n A B f) {φ : (Nat → Rat) → Nat → Rat} (L : LinR φ) : det n (fun i => φ (A i)) = f * det n (fun i => φ (B i)) := by
  induction H with
  | refl => grind
  | scale r k hr hk _ ih =>
    rename_i B f _
    have e : (fun i => φ (setr B r (fun x => k * B r x) i)) = setr (fun i => φ (B i)) r (fun c => k * φ (B r) c) := by
      funext i c
      rw [setr_row]
      unfold setr
      by_cases h : i = r
      · rw [if_pos h, if_pos h, L.mul]
      · rw [if_neg h, if_neg h]
    rw [e, det_scale (A := fun i => φ (B i)) k hr, ih]
    have : k⁻¹ * k = 1 := by rw [Rat.inv_mul_cancel _ hk]
    grind
  | more r s k hr hs h _ ih =>
    rename_i B f _
    have e : (fun i => φ (setr B r (fun x => B r x + k * B s x) i)) = setr (fun i => φ (B i)) r (fun c => φ (B r) c + k * φ (B s) c) := by
      funext i c
      rw [setr_row]
      unfold setr
      by_cases h : i = r
      · rw [if_pos h, if_pos h, L.add]
      · rw [if_neg h, if_neg h]
    rw [e, det_more (A := fun i => φ (B i)) k h hr hs, ih]
  | swap r s hr hs h _ ih =>
    rename_i B f _
    have e : (fun i => φ (swp B r s i)) = swp (fun i => φ (B i)) r s := rfl
    rw [e, det_swp (A := fun i => φ (B i)) h hr hs, ih]
    grind
structure Sub (P : (Nat → Rat) → Prop) : Prop where
  more : ∀ f g k, P f → P g → P fun x => f x + k * g x
  scale : ∀ f k, P f → P fun x => k * f x
theorem Rop.sub {n : Nat} {A B : Mt} {f : Rat} (H : Rop n A B f) {P : (Nat → Rat) → Prop} (S : Sub P) : (∀ i, i < n → P (A i)) ↔ (∀ i, i < n → P (B i)) := by
  induction H with
  | refl => exact Iff.rfl
  | scale r k hr hk _ ih =>
    rename_i B f _
    rw [ih]
    constructor
    · intro h i hi
      rw [setr_row]
      split
      · exact S.scale _ _ (h r hr)
      · exact h i hi
    · intro h i hi
      have h1 := h i hi
      rw [setr_row] at h1
      by_cases e : i = r
      · rw [if_pos e] at h1
        have h2 := S.scale _ k⁻¹ h1
        have : k⁻¹ * k = 1 := by rw [Rat.inv_mul_cancel _ hk]
        rw [show (fun x => k⁻¹ * (k * B r x)) = B i from by funext x; rw [e]; grind] at h2
        exact h2
      · rw [if_neg e] at h1; exact h1
  | more r s k hr hs h _ ih =>
    rename_i B f _
    rw [ih]
    constructor
    · intro h i hi
      rw [setr_row]
      split
      · exact S.more _ _ _ (h r hr) (h s hs)
      · exact h i hi
    · intro h' i hi
      have h1 := h' i hi
      rw [setr_row] at h1
      by_cases e : i = r
      · rw [if_pos e] at h1
        have h3 := h' s hs
        rw [setr_row, if_neg (Ne.symm h)] at h3
        have h2 := S.more _ _ (-k) h1 h3
        rw [show (fun x => (B r x + k * B s x) + -k * B s x) = B i from by funext x; rw [e]; grind] at h2
        exact h2
      · rw [if_neg e] at h1; exact h1
  | swap r s hr hs h _ ih =>
    rename_i B f _
    rw [ih]
    constructor
    · intro h i hi
      unfold swp
      split
      · exact h s hs
      · split
        · exact h r hr
        · exact h i hi
    · intro h' i hi
      by_cases e : i = r
      · subst e; have := h' s hs; unfold swp at this; rwa [if_neg (Ne.symm h), if_pos rfl] at this
      · by_cases e2 : i = s
        · subst e2; have := h' r hr; unfold swp at this; rwa [if_pos rfl] at this
        · have := h' i hi; unfold swp at this; rwa [if_neg e, if_neg e2] at this
def fndF (A : Mt) (j : Nat) : Nat → Nat → Nat
  | 0, a => a
  | d + 1, a => if A a j = 0 then fndF A j d (a + 1) else a
def fnd (n : Nat) (A : Mt) (j a : Nat) : Nat := fndF A j (n - a) a
theorem fndF_spec (A : Mt) (j : Nat) : ∀ d a, a ≤ fndF A j d a ∧ fndF A j d a ≤ a + d ∧ (∀ i, a ≤ i → i < fndF A j d a → A i j = 0) ∧ (fndF A j d a < a + d → A (fndF A j d a) j ≠ 0) := by
  intro d
  induction d with
  | zero => intro a; exact ⟨Nat.le_refl _, Nat.le_refl _, fun i h1 h2 => by simp only [fndF] at h2; omega, fun h => by simp only [fndF] at h; omega⟩
  | succ d ih =>
    intro a
    simp only [fndF]
    by_cases h : A a j = 0
    · rw [if_pos h]
      obtain ⟨h1, h2, h3, h4⟩ := ih (a + 1)
      refine ⟨by omega, by omega, fun i hi hi2 => ?_, fun hlt => h4 (by omega)⟩
      by_cases e : i = a
      · rw [e]; exact h
      · exact h3 i (by omega) hi2
    · rw [if_neg h]
      exact ⟨Nat.le_refl _, by omega, fun i h1 h2 => by omega, fun _ => h⟩
theorem fnd_spec {n : Nat} {A : Mt} {j a : Nat} (h : a ≤ n) : a ≤ fnd n A j a ∧ fnd n A j a ≤ n ∧ (∀ i, a ≤ i → i < fnd n A j a → A i j = 0) ∧ (fnd n A j a < n → A (fnd n A j a) j ≠ 0) := by
  obtain ⟨h1, h2, h3, h4⟩ := fndF_spec A j (n - a) a
  exact ⟨h1, by unfold fnd; omega, h3, fun hlt => h4 (by unfold fnd at hlt; omega)⟩
theorem fnd_uniq {n : Nat} {A : Mt} {j a k : Nat} (h1 : a ≤ k) (h2 : k ≤ n) (h3 : ∀ i, a ≤ i → i < k → A i j = 0) (h4 : k < n → A k j ≠ 0) : fnd n A j a = k := by
  obtain ⟨g1, g2, g3, g4⟩ := fnd_spec (n := n) (A := A) (j := j) (a := a) (by omega)
  rcases Nat.lt_trichotomy (fnd n A j a) k with h | h | h
  · exact absurd (h3 _ g1 h) (g4 (by omega))
  · exact h
  · exact absurd (g3 k h1 h) (h4 (by omega))
def elimTo (A : Mt) (a j i : Nat) : Mt := fun r x => if r < i ∧ r ≠ a then A r x - A r j * A a x else A r x
theorem elimTo_zero (A : Mt) (a j : Nat) : elimTo A a j 0 = A := by funext r x; simp [elimTo]
theorem elimTo_self (A : Mt) (a j : Nat) : elimTo A a j (a + 1) = elimTo A a j a := by
  funext r x
  unfold elimTo
  by_cases h : r < a
  · rw [if_pos (show r < a + 1 ∧ r ≠ a by omega), if_pos (show r < a ∧ r ≠ a by omega)]
  · rw [if_neg (show ¬ (r < a ∧ r ≠ a) by omega), if_neg (by omega)]
theorem elimTo_succ (A : Mt) {a j i : Nat} (h : i ≠ a) : elimTo A a j (i + 1) = setr (elimTo A a j i) i fun x => elimTo A a j i i x + -(A i j) * elimTo A a j i a x := by
  funext r x
  unfold setr
  by_cases e : r = i
  · subst e
    rw [if_pos rfl]
    unfold elimTo
    rw [if_pos (show r < r + 1 ∧ r ≠ a by omega)]
    show _ = (if r < r ∧ r ≠ a then _ else _) + -A r j * (if a < r ∧ a ≠ a then _ else _)
    rw [if_neg (by omega), if_neg (by omega)]
    grind
  · rw [if_neg e]
    unfold elimTo
    by_cases h1 : r < i ∧ r ≠ a
    · rw [if_pos h1, if_pos ⟨by omega, h1.2⟩]
    · rw [if_neg h1, if_neg (by omega)]
theorem elimTo_at (A : Mt) (a j i : Nat) : elimTo A a j i a = A a := by funext x; unfold elimTo; rw [if_neg (by omega)]
theorem elimTo_ge (A : Mt) {a j i r : Nat} (h : i ≤ r) : elimTo A a j i r = A r := by funext x; unfold elimTo; rw [if_neg (by omega)]
theorem Rop.elim {n : Nat} {A B : Mt} {f : Rat} (H : Rop n A B f) {a j : Nat} (ha : a < n) : ∀ i, i ≤ n → Rop n A (elimTo B a j i) f := by
  intro i
  induction i with
  | zero => intro _; rw [elimTo_zero]; exact H
  | succ i ih =>
    intro hi
    by_cases e : i = a
    · subst e; rw [elimTo_self]; exact ih (by omega)
    · rw [elimTo_succ _ e]
      exact .more i a _ (by omega) ha e (ih (by omega))
theorem swp_self (A : Mt) (a : Nat) : swp A a a = A := by
  funext i; unfold swp; congr 1; split
  · next h => exact h.symm
  · rfl
def pivR (A : Mt) (a k j : Nat) : Mt := setr (swp A a k) a fun x => (A k j)⁻¹ * A k x
def gstep (n j : Nat) (s : Mt × List Nat × Rat) : Mt × List Nat × Rat :=
  if fnd n s.1 j s.2.1.length = n then s else
    (elimTo (pivR s.1 s.2.1.length (fnd n s.1 j s.2.1.length) j) s.2.1.length j n, s.2.1 ++ [j], (if s.2.1.length = fnd n s.1 j s.2.1.length then s.2.2 else -s.2.2) * s.1 (fnd n s.1 j s.2.1.length) j)
def grun (n : Nat) (A : Mt) : Nat → Mt × List Nat × Rat
  | 0 => (A, [], 1)
  | j + 1 => gstep n j (grun n A j)
theorem Rop.gstep {n j : Nat} {A : Mt} {s : Mt × List Nat × Rat} (H : Rop n A s.1 s.2.2) (h : s.2.1.length ≤ n) : Rop n A (Go.S.gstep n j s).1 (Go.S.gstep n j s).2.2 := by
  unfold Go.S.gstep
  obtain ⟨g1, g2, g3, g4⟩ := fnd_spec (n := n) (A := s.1) (j := j) (a := s.2.1.length) h
  generalize fnd n s.1 j s.2.1.length = k at *
  split
  · exact H
  · next hk =>
    have hk2 : k < n := by omega
    have hp := g4 hk2
    generalize s.2.1.length = a at *
    refine Rop.elim ?_ (by omega) n (Nat.le_refl _)
    have h1 : Rop n A (swp s.1 a k) (if a = k then s.2.2 else -s.2.2) := by
      by_cases e : a = k
      · subst e; rw [swp_self, if_pos rfl]; exact H
      · rw [if_neg e]; exact .swap a k (by omega) hk2 e H
    have h2 := Rop.scale a (s.1 k j)⁻¹ (by omega) (by
      intro e
      have := Rat.mul_inv_cancel _ hp
      rw [e] at this
      grind) h1
    rw [Rat.inv_inv] at h2
    have e : swp s.1 a k a = s.1 k := by unfold swp; rw [if_pos rfl]
    rw [e] at h2
    exact h2
structure RR (n j : Nat) (A : Mt) (piv : List Nat) : Prop where
  le : piv.length ≤ n
  lt : ∀ i, i < piv.length → piv.getD i default < j
  one : ∀ i, i < piv.length → A i (piv.getD i default) = 1
  col : ∀ i, i < piv.length → ∀ r, r < n → r ≠ i → A r (piv.getD i default) = 0
  ahead : ∀ i, i < piv.length → ∀ x, x < piv.getD i default → A i x = 0
  rest : ∀ r, piv.length ≤ r → r < n → ∀ x, x < j → A r x = 0
  mono : ∀ i i', i < i' → i' < piv.length → piv.getD i default < piv.getD i' default
theorem RR.nil (n : Nat) (A : Mt) : RR n 0 A [] := ⟨Nat.zero_le _, fun i h => by simp at h, fun i h => by simp at h, fun i h => by simp at h, fun i h => by simp at h, fun r _ _ x h => by omega, fun i i' _ h => by simp at h⟩
theorem snoc_lt {l : List Nat} {x i : Nat} (h : i < l.length) : (l ++ [x]).getD i default = l.getD i default := by simp [List.getD, List.getElem?_append_left h]
theorem snoc_at {l : List Nat} {x : Nat} : (l ++ [x]).getD l.length default = x := by simp [List.getD]
theorem RR.step {n j : Nat} {A : Mt} {piv : List Nat} {d : Rat} (H : RR n j A piv) : RR n (j + 1) (gstep n j (A, piv, d)).1 (gstep n j (A, piv, d)).2.1 := by
  unfold gstep
  obtain ⟨g1, g2, g3, g4⟩ := fnd_spec (n := n) (A := A) (j := j) (a := piv.length) H.le
  simp only
  generalize fnd n A j piv.length = k at *
  split
  · next hk =>
    subst hk
    refine ⟨H.le, fun i hi => Nat.lt_succ_of_lt (H.lt i hi), H.one, H.col, H.ahead, fun r h1 h2 x hx => ?_, H.mono⟩
    by_cases e : x = j
    · rw [e]; exact g3 r h1 h2
    · exact H.rest r h1 h2 x (by omega)
  · next hk =>
    have hk2 : k < n := by omega
    have hp := g4 hk2
    simp only
    have hpi : (A k j)⁻¹ * A k j = 1 := Rat.inv_mul_cancel _ hp
    have z0 : ∀ x, x < j → A k x = 0 := fun x hx => H.rest k g1 hk2 x hx
    have va : ∀ x, elimTo (pivR A piv.length k j) piv.length j n piv.length x = (A k j)⁻¹ * A k x := fun x => by
      rw [elimTo_at]; simp [pivR, setr]
    have vr : ∀ r, r < n → r ≠ piv.length → ∀ x, elimTo (pivR A piv.length k j) piv.length j n r x = swp A piv.length k r x - swp A piv.length k r j * ((A k j)⁻¹ * A k x) := fun r hr hne x => by
      unfold elimTo
      rw [if_pos ⟨hr, hne⟩]
      simp [pivR, setr, hne]
    generalize elimTo (pivR A piv.length k j) piv.length j n = D at *
    have sr : ∀ r, r < n → r ≠ piv.length → ∃ r', r' < n ∧ swp A piv.length k r = A r' ∧ (r < piv.length → r' = r) ∧ (piv.length ≤ r → piv.length ≤ r') ∧ ∀ i, i < piv.length → r ≠ i → r' ≠ i := fun r hr hne => by
      unfold swp
      rw [if_neg hne]
      by_cases e : r = k
      · rw [if_pos e]; exact ⟨piv.length, by omega, rfl, fun h => by omega, fun _ => Nat.le_refl _, fun i hi _ => by omega⟩
      · rw [if_neg e]; exact ⟨r, hr, rfl, fun _ => rfl, fun h => h, fun i _ h => h⟩
    have low : ∀ r, r < n → r ≠ piv.length → ∀ x, x < j → D r x = swp A piv.length k r x := fun r hr hne x hx => by
      rw [vr r hr hne x, z0 x hx]; grind
    have lowa : ∀ x, x < j → D piv.length x = 0 := fun x hx => by rw [va, z0 x hx]; grind
    refine ⟨by simp; omega, ?_, ?_, ?_, ?_, ?_, ?_⟩
    · intro i hi
      by_cases e : i < piv.length
      · rw [snoc_lt e]; have := H.lt i e; omega
      · have : i = piv.length := by simp at hi; omega
        subst this; rw [snoc_at]; omega
    · intro i hi
      by_cases e : i < piv.length
      · rw [snoc_lt e, low i (by have := H.le; omega) (by omega) _ (H.lt i e)]
        obtain ⟨r', _, h2, h3, _, _⟩ := sr i (by have := H.le; omega) (by omega)
        rw [h2, h3 e]; exact H.one i e
      · have : i = piv.length := by simp at hi; omega
        subst this; rw [snoc_at, va, hpi]
    · intro i hi r hr hne
      by_cases e : i < piv.length
      · rw [snoc_lt e]
        by_cases e2 : r = piv.length
        · rw [e2]; exact lowa _ (H.lt i e)
        · rw [low r hr e2 _ (H.lt i e)]
          obtain ⟨r', h1, h2, _, _, h5⟩ := sr r hr e2
          rw [h2]; exact H.col i e r' h1 (h5 i e hne)
      · have : i = piv.length := by simp at hi; omega
        subst this; rw [snoc_at, vr r hr hne, hpi]; grind
    · intro i hi x hx
      by_cases e : i < piv.length
      · rw [snoc_lt e] at hx
        have := H.lt i e
        rw [low i (by have := H.le; omega) (by omega) x (by omega)]
        obtain ⟨r', _, h2, h3, _, _⟩ := sr i (by have := H.le; omega) (by omega)
        rw [h2, h3 e]; exact H.ahead i e x hx
      · have : i = piv.length := by simp at hi; omega
        subst this; rw [snoc_at] at hx; exact lowa x hx
    · intro r h1 h2 x hx
      simp at h1
      by_cases e : x = j
      · rw [e, vr r h2 (by omega), hpi]; grind
      · rw [low r h2 (by omega) x (by omega)]
        obtain ⟨r', q1, q2, _, q4, _⟩ := sr r h2 (by omega)
        rw [q2]; exact H.rest r' (q4 (by omega)) q1 x (by omega)
    · intro i i' h1 h2
      simp at h2
      by_cases e : i' < piv.length
      · rw [snoc_lt e, snoc_lt (by omega)]; exact H.mono i i' h1 e
      · have : i' = piv.length := by omega
        subst this; rw [snoc_at, snoc_lt h1]; exact H.lt i h1
theorem grun_RR (n : Nat) (A : Mt) : ∀ j, RR n j (grun n A j).1 (grun n A j).2.1 := by
  intro j
  induction j with
  | zero => exact RR.nil n A
  | succ j ih => exact RR.step (d := (grun n A j).2.2) ih
theorem grun_Rop (n : Nat) (A : Mt) : ∀ j, Rop n A (grun n A j).1 (grun n A j).2.2 := by
  intro j
  induction j with
  | zero => exact .refl A
  | succ j ih => exact Rop.gstep ih (grun_RR n A j).le
end Go.S

end
section
set_option linter.unusedVariables false
set_option linter.unusedSimpArgs false
namespace Go.S
def rowf (c : Nat) (f : Nat → Rat) : List Rat := (List.range c).map f
def tab (n c : Nat) (A : Mt) : List (List Rat) := (List.range n).map fun i => rowf c (A i)
def ent (t : List (List Rat)) : Mt := fun i j => (t.getD i default).getD j default
theorem rowf_len (c : Nat) (f : Nat → Rat) : (rowf c f).length = c := by simp [rowf]
theorem rowf_get {c : Nat} {f : Nat → Rat} {j : Nat} (h : j < c) : (rowf c f).getD j default = f j := by simp [rowf, List.getD, h]
theorem rowf_congr {c : Nat} {f g : Nat → Rat} (h : ∀ j, j < c → f j = g j) : rowf c f = rowf c g := List.map_congr_left fun j hj => h j (by simpa using hj)
theorem rowf_of (r : List Rat) : rowf r.length (fun j => r.getD j default) = r := by
  refine List.ext_getElem (by simp [rowf]) fun i h1 h2 => ?_
  simp [rowf, List.getD, List.getElem?_eq_getElem h2]
theorem mem_rowf {c : Nat} {f : Nat → Rat} {q : Rat} : q ∈ rowf c f ↔ ∃ j, j < c ∧ f j = q := by simp [rowf]
theorem rowf_map {c : Nat} {f : Nat → Rat} (k : Rat → Rat) : (rowf c f).map k = rowf c fun j => k (f j) := by simp [rowf]
theorem rowf_zip {c : Nat} {f g : Nat → Rat} (k : Rat → Rat → Rat) : List.zipWith k (rowf c f) (rowf c g) = rowf c fun j => k (f j) (g j) := by
  refine List.ext_getElem (by simp [rowf]) fun i h1 h2 => ?_
  simp [rowf]
theorem rowf_app (c d : Nat) (f g : Nat → Rat) : rowf c f ++ rowf d g = rowf (c + d) fun j => if j < c then f j else g (j - c) := by
  refine List.ext_getElem (by simp [rowf]) fun i h1 h2 => ?_
  by_cases h : i < c
  · rw [List.getElem_append_left (by simpa [rowf] using h)]; simp [rowf, h]
  · rw [List.getElem_append_right (by simpa [rowf] using h)]; simp [rowf, h]
theorem rowf_drop (c n : Nat) (f : Nat → Rat) : (rowf c f).drop n = rowf (c - n) fun j => f (n + j) := by
  refine List.ext_getElem (by simp [rowf]) fun i h1 h2 => ?_
  simp [rowf]
theorem rowf_take {c n : Nat} (h : n ≤ c) (f : Nat → Rat) : (rowf c f).take n = rowf n f := by
  refine List.ext_getElem (by simp [rowf, h]) fun i h1 h2 => ?_
  simp [rowf]
theorem tab_len (n c : Nat) (A : Mt) : (tab n c A).length = n := by simp [tab]
theorem tab_get {n c : Nat} {A : Mt} {i : Nat} (h : i < n) : (tab n c A).getD i default = rowf c (A i) := by simp [tab, List.getD, h]
theorem mem_tab {n c : Nat} {A : Mt} {r : List Rat} : r ∈ tab n c A ↔ ∃ i, i < n ∧ rowf c (A i) = r := by simp [tab]
theorem tab_row {n c : Nat} {A : Mt} : ∀ r ∈ tab n c A, r.length = c := fun r h => by obtain ⟨i, _, rfl⟩ := mem_tab.1 h; exact rowf_len _ _
theorem tab_congr {n c : Nat} {A B : Mt} (h : ∀ i, i < n → ∀ j, j < c → A i j = B i j) : tab n c A = tab n c B := List.map_congr_left fun i hi => rowf_congr (h i (by simpa using hi))
theorem tab_set {n c : Nat} {A : Mt} {i : Nat} {f : Nat → Rat} (h : i < n) : (tab n c A).set i (rowf c f) = tab n c (setr A i f) := by
  refine List.ext_getElem (by simp [tab]) fun k h1 h2 => ?_
  rw [List.getElem_set]
  by_cases e : i = k
  · subst e; simp [tab, setr_row]
  · simp [tab, setr_row, e, Ne.symm e]
theorem tab_of {t : List (List Rat)} {c : Nat} (h : ∀ r ∈ t, r.length = c) : tab t.length c (ent t) = t := by
  refine List.ext_getElem (by simp [tab]) fun i h1 h2 => ?_
  have e := rowf_of t[i]
  rw [h _ (List.getElem_mem h2)] at e
  rw [← e]
  simp only [tab, List.getElem_map, List.getElem_range]
  refine rowf_congr fun j _ => ?_
  simp [ent, List.getD, List.getElem?_eq_getElem h2]
theorem mem_tab2 {n c : Nat} {A : Mt} {r : List Rat} (h : r ∈ tab n c A) {q : Rat} (hq : q ∈ r) : ∃ i, i < n ∧ ∃ j, j < c ∧ A i j = q := by
  obtain ⟨i, hi, rfl⟩ := mem_tab.1 h
  obtain ⟨j, hj, e⟩ := mem_rowf.1 hq
  exact ⟨i, hi, j, hj, e⟩
def mm (m : Nat) (A B : Mt) : Mt := fun i j => sm m fun k => A i k * B k j
def idm : Mt := fun i j => if i = j then 1 else 0
theorem mm_one_r {m : Nat} {A : Mt} {j : Nat} (i : Nat) (h : j < m) : mm m A idm i j = A i j := by
  unfold mm idm
  rw [sm_one h fun k hk hne => by rw [if_neg hne]; grind, if_pos rfl]; grind
end Go.S

end
section
set_option linter.unusedVariables false
set_option linter.unusedSimpArgs false
set_option maxRecDepth 100000
namespace Go.S
open Go Go.AM Go.RowKit Go.K
def ivl (l : List Nat) : List Int := l.map fun n : Nat => (n : Int)
theorem ivl_len (l : List Nat) : (ivl l).length = l.length := by simp [ivl]
theorem ivl_snoc (l : List Nat) (j : Nat) : ivl (l ++ [j]) = ivl l ++ [(j : Int)] := by simp [ivl]
abbrev aW (tr pr : AV) (d : Rat) : AV := .agg [tr, pr, .bool (decide (d.num < 0)), eN (ab d.num), eN (d.den : Int)]
theorem s_rat_Inv {a : Rat} (h0 : a ≠ 0) (h1 : Lq a < 100000000) : CP (CL F) 125 [eQ a] = some (.tup [eQ a⁻¹, eI 0]) := by
  refine CP_X (F := F) (f := 125) rfl rfl ?_
  have k1 := s_rat_up (q := a) (by omega)
  have k2 := s_rat_Make (p := a.den) (d := a.num) (by rwa [ne_eq, Rat.num_eq_zero]) (by have := Lq_den a; omega) (by have := Lq_num a; omega)
  rw [← Rat.inv_def] at k2
  clear h0
  refine go3 ?_
  trivial
theorem may_iff {t : List (List Rat)} : may t = true ↔ t.length ≤ 200 ∧ wide t ≤ 200 ∧ ∀ r ∈ t, r.length = wide t := by
  unfold may
  simp only [Bool.and_eq_true, decide_eq_true_eq, even_iff, and_assoc]
end Go.S

end
section
set_option linter.unusedVariables false
set_option linter.unusedSimpArgs false
set_option maxRecDepth 100000
namespace Go.S
open Go Go.AM Go.RowKit Go.K
theorem s_find {n c : Nat} {A : Mt} {d : Rat} {pr : AV} {x : Option Blk} {vt : Nat} {g : Heap} {a j : Nat} (ha : a ≤ n) (hn : n ≤ 1000000) (hj : j < c) :
    CL F 123 [.ptr 0 0 0 0, eI a, eI j] (some ⟨0, 5, [aW (.ref 2 vt 1 0 n) pr d]⟩ :: x :: some ⟨vt, 1, em eR (tab n c A)⟩ :: g) = some (eI (fnd n A j a), (some ⟨0, 5, [aW (.ref 2 vt 1 0 n) pr d]⟩ :: x :: some ⟨vt, 1, em eR (tab n c A)⟩ :: g)) := by
  refine CL_X (F := F) (f := 123) rfl rfl ?_
  obtain ⟨k1, k2, k3, k4⟩ := fnd_spec (n := n) (A := A) (j := j) ha
  generalize hk : fnd n A j a = k at *
  have hl : (em eR (tab n c A)).length = n := by rw [em_len, tab_len]
  refine go3 ?_
  refine X_upto (k - a) (fun i s => ∃ j15 j29, s = ⟨[(0, .ptr 0 0 0 0), (1, eI a), (2, eI j), (6, eI 0), (7, eI (a + i : Nat)), (15, j15), (29, j29)], (some ⟨0, 5, [aW (.ref 2 vt 1 0 n) pr d]⟩ :: x :: some ⟨vt, 1, em eR (tab n c A)⟩ :: g)⟩) ?_ 0 (Nat.zero_le _) _ ⟨_, _, rfl⟩
  rintro i s hi ⟨j15, j29, rfl⟩ rec
  by_cases hin : a + i < n
  · have g1 := em_getN (f := eR) (tab n c A) (a + i) (by rw [tab_len]; exact hin)
    rw [tab_get hin] at g1
    have g2 := em_getN (f := eQ) (rowf c (A (a + i))) j (by rw [rowf_len]; exact hj)
    rw [rowf_get hj] at g2
    have hrl := rowf_len c (A (a + i))
    have sg := s_rat_Sign (A (a + i) j)
    have c1 : (((a + i : Nat) : Int) < (n : Int)) := by omega
    have c2 : ((j : Int) < (c : Int)) := by omega
    by_cases e : i < k - a
    · have z : A (a + i) j = 0 := k3 (a + i) (by omega) (by omega)
      have z2 : sgn (A (a + i) j).num = 0 := (sgn_num_zero _).2 z
      rw [z2] at sg
      have hw : wrap64 (((a + i : Nat) : Int) + 1) = ((a + (i + 1) : Nat) : Int) := i64_nat (by omega)
      generalize A (a + i) j = y at *
      generalize rowf c (A (a + i)) = r at *
      generalize a + i = ai at *
      clear hk k1 k2 k3 k4 z z2 hi
      refine go3 ?_
      exact rec _ e ⟨_, _, rfl⟩
    · have hik : a + i = k := by omega
      have z : A (a + i) j ≠ 0 := by rw [hik]; exact k4 (by omega)
      have z2 : ¬ (sgn (A (a + i) j).num = 0) := fun h => z ((sgn_num_zero _).1 h)
      subst hik
      generalize A (a + i) j = y at *
      generalize rowf c (A (a + i)) = r at *
      generalize a + i = ai at *
      clear hk k1 k2 k3 k4 z hi rec e
      refine go3 ?_
      trivial
  · have hik : a + i = k := by omega
    have hkn : k = n := by omega
    have c1 : ¬ (((a + i : Nat) : Int) < (n : Int)) := by omega
    subst hkn
    rw [hik] at c1
    rw [hik]
    clear hk k1 k2 k3 k4 hi rec hik hin ha hj
    refine go3 ?_
    trivial
theorem s_swap {n c : Nat} {A : Mt} {d : Rat} {pr : AV} {x : Option Blk} {vt : Nat} {g : Heap} {a k : Nat} (ha : a < n) (hk : k < n) (hd : Lq d < 100000000) :
    CL F 124 [.ptr 0 0 0 0, eI a, eI k] (some ⟨0, 5, [aW (.ref 2 vt 1 0 n) pr d]⟩ :: x :: some ⟨vt, 1, em eR (tab n c A)⟩ :: g) = some (.tup [], (some ⟨0, 5, [aW (.ref 2 vt 1 0 n) pr (if a = k then d else -d)]⟩ :: x :: some ⟨vt, 1, em eR (tab n c (swp A a k))⟩ :: g)) := by
  refine CL_X (F := F) (f := 124) rfl rfl ?_
  by_cases e : a = k
  · subst e
    rw [if_pos rfl, swp_self]
    refine go3 ?_
    trivial
  · rw [if_neg e]
    have e1 : ¬ ((a : Int) = (k : Int)) := by omega
    have g1 := em_getN (f := eR) (tab n c A) a (by rw [tab_len]; exact ha)
    have g2 := em_getN (f := eR) (tab n c A) k (by rw [tab_len]; exact hk)
    rw [tab_get ha] at g1
    rw [tab_get hk] at g2
    have s1 : ((tab n c A).set a (rowf c (A k))).set k (rowf c (A a)) = tab n c (swp A a k) := by
      rw [tab_set ha, tab_set hk]
      refine congrArg (tab n c) ?_
      funext i y
      unfold setr swp
      by_cases h1 : i = k
      · subst h1; rw [if_pos rfl, if_neg (Ne.symm e), if_pos rfl]
      · rw [if_neg h1]
        by_cases h2 : i = a
        · subst h2; rw [if_pos rfl, if_pos rfl]
        · rw [if_neg h2, if_neg h2, if_neg h1]
    have g3 : (em eR ((tab n c A).set a (rowf c (A k))))[k]? = some (eR (rowf c (A k))) := by
      rw [← em_set, List.getElem?_set_ne e]; exact g2
    have c1 : ((a : Int) < (n : Int)) := by omega
    have c2 : ((k : Int) < (n : Int)) := by omega
    have hl : (em eR (tab n c A)).length = n := by rw [em_len, tab_len]
    have nn := s_rat_Neg hd
    generalize rowf c (A k) = rk at *
    generalize rowf c (A a) = ra at *
    generalize tab n c (swp A a k) = T2 at *
    generalize tab n c A = T1 at *
    clear e
    refine go3 ?_
    trivial
def PV (g : Heap) (piv : List Nat) (pr : AV) : Prop := (piv = [] ∧ pr = .nil) ∨ ∃ vp g1 g2, g = g1 ++ some ⟨vp, 1, ui (ivl piv)⟩ :: g2 ∧ pr = .ref (g1.length + 1 + 1 + 1) vp 1 0 piv.length
theorem PV.len {g : Heap} {piv : List Nat} {pr : AV} (h : PV g piv pr) : lenA false pr = some (eI piv.length) := by
  rcases h with ⟨rfl, rfl⟩ | ⟨vp, g1, g2, _, rfl⟩ <;> rfl
def WH (n c : Nat) (s : Mt × List Nat × Rat) (h : Heap) : Prop := ∃ x vt pr g, h = (some ⟨0, 5, [aW (.ref 2 vt 1 0 n) pr s.2.2]⟩ :: x :: some ⟨vt, 1, em eR (tab n c s.1)⟩ :: g) ∧ PV g s.2.1 pr
theorem s_step {n c j : Nat} {s : Mt × List Nat × Rat} {h : Heap} (H : WH n c s h) (hn : n ≤ 1000) (hc : c ≤ 1000) (hj : j < c) (hle : s.2.1.length ≤ n) {M : Nat} (hM : M < 1000000) (hA : ∀ r, r < n → ∀ y, y < c → Lq (s.1 r y) ≤ M) (hd : Lq s.2.2 < 10000000) :
    ∃ x, CL F 83 [.ptr 0 0 0 0, eI j] h = some x ∧ ∃ h', x = (.tup [], h') ∧ WH n c (gstep n j s) h' := by
  obtain ⟨A, piv, d⟩ := s
  obtain ⟨x, vt, pr, g, rfl, hpv⟩ := H
  simp only at hpv hle hA hd
  have hlen := hpv.len
  unfold lenA at hlen
  refine CL_XE (F := F) (f := 83) rfl rfl ?_
  obtain ⟨k1, k2, k3, k4⟩ := fnd_spec (n := n) (A := A) (j := j) hle
  have hf := s_find (n := n) (c := c) (A := A) (d := d) (pr := pr) (x := x) (vt := vt) (g := g) (a := piv.length) (j := j) hle (by omega) hj
  have hgs : gstep n j (A, piv, d) = if fnd n A j piv.length = n then (A, piv, d) else (elimTo (pivR A piv.length (fnd n A j piv.length) j) piv.length j n, piv ++ [j], (if piv.length = fnd n A j piv.length then d else -d) * A (fnd n A j piv.length) j) := rfl
  rw [hgs]
  clear hgs
  generalize fnd n A j piv.length = k at *
  by_cases hk : k = n
  · subst hk
    rw [if_pos rfl]
    clear k1 k2 k3 k4 hA hd hle
    refine go3 ?_
    exact ⟨_, rfl, _, rfl, _, _, _, _, rfl, hpv⟩
  · rw [if_neg hk]
    have hkn : k < n := by omega
    have hp := k4 hkn
    have hkc : ¬ ((k : Int) = (n : Int)) := by omega
    generalize ha : piv.length = a at *
    have han : a < n := by omega
    have hs := s_swap (n := n) (c := c) (A := A) (d := d) (pr := pr) (x := x) (vt := vt) (g := g) (a := a) (k := k) han hkn (by omega)
    have hdd : Lq (if a = k then d else -d) < 10000000 := by
      split
      · exact hd
      · rw [Lq_neg]; exact hd
    generalize (if a = k then d else -d) = d1 at *
    have hB : swp A a k a = A k := by unfold swp; rw [if_pos rfl]
    have hrow : rowf c (swp A a k a) = rowf c (A k) := by rw [hB]
    have g1 := em_getN (f := eR) (tab n c (swp A a k)) a (by rw [tab_len]; exact han)
    rw [tab_get han, hrow] at g1
    have g2 := em_getN (f := eQ) (rowf c (A k)) j (by rw [rowf_len]; exact hj)
    rw [rowf_get hj] at g2
    have m1 := s_rat_Mul (a := d1) (b := A k j) (by omega) (by have := hA k hkn j hj; omega)
    have m2 := s_rat_Inv (a := A k j) hp (by have := hA k hkn j hj; omega)
    have m3 := s_vect_Scale (l := rowf c (A k)) (c := (A k j)⁻¹) (by rw [rowf_len]; omega) (M := M) (by omega) (fun q hq => by
      obtain ⟨y, hy, rfl⟩ := mem_rowf.1 hq
      exact hA k hkn y hy) (by
      have := hA k hkn j hj
      have := Lq_inv (A k j) hp
      omega)
    have e1 : (rowf c (A k)).map (· * (A k j)⁻¹) = rowf c fun x => (A k j)⁻¹ * A k x := by
      rw [rowf_map]
      exact rowf_congr fun y _ => Rat.mul_comm _ _
    rw [e1] at m3
    have s1 : (tab n c (swp A a k)).set a (rowf c fun x => (A k j)⁻¹ * A k x) = tab n c (pivR A a k j) := tab_set han
    have c1 : ((a : Int) < (n : Int)) := by omega
    have c2 : ((j : Int) < (c : Int)) := by omega
    have hrl := rowf_len c (A k)
    have hl : (em eR (tab n c (swp A a k))).length = n := by rw [em_len, tab_len]
    have bn : ∀ r, r < n → r ≠ a → ∀ y, y < c → Lq (pivR A a k j r y) ≤ M := fun r hr hne y hy => by
      unfold pivR setr
      rw [if_neg hne]
      unfold swp
      rw [if_neg hne]
      split
      · exact hA a han y hy
      · exact hA r hr y hy
    have ba : ∀ y, y < c → Lq (pivR A a k j a y) ≤ 2 * M := fun y hy => by
      unfold pivR setr
      rw [if_pos rfl]
      have := hA k hkn y hy
      have := hA k hkn j hj
      have := Lq_inv (A k j) hp
      have := Lq_mul (A k j)⁻¹ (A k y)
      show Lq ((A k j)⁻¹ * A k y) ≤ 2 * M
      omega
    generalize (A k j)⁻¹ = iv at *
    generalize A k j = p at *
    generalize rowf c (A k) = rk at *
    generalize rowf c (fun x => iv * A k x) = rs at *
    generalize tab n c (swp A a k) = T1 at *
    generalize pivR A a k j = E at *
    clear hk k1 k2 k3 k4 hA hd hdd hle hp hB hrow e1 hkn
    refine go3 ?_
    refine X_up n (fun i s => ∃ j9 j75 j93 g', s = ⟨[(0, .ptr 0 0 0 0), (1, eI j), (4, eI a), (5, eI k), (6, .ptr (g.length + 1 + 1 + 1) 0 0 0), (7, .ptr (g.length + 1 + 1 + 1 + 1) 0 0 0), (9, j9), (25, .bool false), (73, eI n), (74, eI i), (75, j75), (93, j93)], (some ⟨0, 5, [.agg [.ref 2 vt 1 0 n, pr, .bool (decide ((d1 * p).num < 0)), eN (ab (d1 * p).num), eN (d1 * p).den]]⟩ :: x :: some ⟨vt, 1, em eR (tab n c (elimTo E a j i))⟩ :: (g ++ g'))⟩) ?_ ?_ 0 (Nat.zero_le _) _ ⟨_, _, _, _, by rw [elimTo_zero]; rfl⟩
    · rintro i s hi ⟨j9, j75, j93, g', rfl⟩ rec
      have hlt := lt_c hi
      have hl := (em_len (f := eR) (tab n c (elimTo E a j i))).trans (tab_len n c _)
      have hi6 : i < 9223372036854775807 := by omega
      by_cases hia : i = a
      · subst hia
        rw [elimTo_self] at rec
        have c3 : ¬ ((i : Int) ≠ (i : Int)) := by omega
        have hw := i64_nat hi6
        clear bn ba hf hs
        refine go3 ?_
        exact rec _ ⟨_, _, _, _, rfl⟩
      · have c3 : ((i : Int) ≠ (a : Int)) := by omega
        have c4 : ¬ ((i : Int) = (a : Int)) := by omega
        have q1 := em_getN (f := eR) (tab n c (elimTo E a j i)) i (by rw [tab_len]; exact hi)
        rw [tab_get hi, elimTo_ge E (Nat.le_refl i)] at q1
        have q2 := em_getN (f := eQ) (rowf c (E i)) j (by rw [rowf_len]; exact hj)
        rw [rowf_get hj] at q2
        have q3 := em_getN (f := eR) (tab n c (elimTo E a j i)) a (by rw [tab_len]; exact han)
        rw [tab_get han, elimTo_at] at q3
        have q4 := s_rat_Sign (E i j)
        have rl1 := rowf_len c (E i)
        have b1 := bn i hi hia
        by_cases hz : E i j = 0
        · have q5 : sgn (E i j).num = 0 := (sgn_num_zero _).2 hz
          have q6 : tab n c (elimTo E a j i) = tab n c (elimTo E a j (i + 1)) := tab_congr fun r hr y hy => by
            rw [elimTo_succ E hia]
            unfold setr
            split
            · next e =>
              rw [e, hz]
              grind
            · rfl
          rw [q5] at q4
          rw [← q6] at rec
          generalize tab n c (elimTo E a j i) = T2 at *
          generalize rowf c (E i) = ri at *
          generalize rowf c (E a) = ra at *
          generalize E i j = z at *
          have hw := i64_nat hi6
          clear bn ba hf hs hz b1 q6
          refine go3 ?_
          exact rec _ ⟨_, _, _, _, rfl⟩
        · have q5 : ¬ (sgn (E i j).num = 0) := fun h => hz ((sgn_num_zero _).1 h)
          have q6 := s_vect_Less (a := rowf c (E i)) (b := rowf c (E a)) (k := E i j) (by rw [rowf_len]; omega) (by rw [rowf_len, rowf_len]) (M := 2 * M) (by omega) (fun q hq => by
            obtain ⟨y, hy, rfl⟩ := mem_rowf.1 hq
            have := b1 y hy
            omega) (fun q hq => by
            obtain ⟨y, hy, rfl⟩ := mem_rowf.1 hq
            exact ba y hy) (by have := b1 j hj; omega)
          have q7 : (tab n c (elimTo E a j i)).set i (lessR (rowf c (E i)) (E i j) (rowf c (E a))) = tab n c (elimTo E a j (i + 1)) := by
            have e : lessR (rowf c (E i)) (E i j) (rowf c (E a)) = rowf c fun x => elimTo E a j i i x + -(E i j) * elimTo E a j i a x := by
              unfold lessR
              rw [rowf_zip, elimTo_ge E (Nat.le_refl i), elimTo_at]
              exact rowf_congr fun y _ => by grind
            rw [e, elimTo_succ E hia, tab_set hi]
          generalize lessR (rowf c (E i)) (E i j) (rowf c (E a)) = rn at *
          generalize tab n c (elimTo E a j (i + 1)) = T3 at *
          generalize tab n c (elimTo E a j i) = T2 at *
          generalize rowf c (E i) = ri at *
          generalize rowf c (E a) = ra at *
          generalize E i j = z at *
          have hw := i64_nat hi6
          clear bn ba hf hs hz b1
          refine go3 ?_
          exact rec _ ⟨_, _, _, _, rfl⟩
    · rintro s ⟨j9, j75, j93, g', rfl⟩
      have hlt : ¬ ((n : Int) < (n : Int)) := nlt_c
      have hi6 : piv.length + 1 < 17592186044416 := by omega
      rcases hpv with ⟨rfl, rfl⟩ | ⟨vp, g1, g2, rfl, rfl⟩
      · have z1 : (ui [(j : Int)]).isEmpty = false := rfl
        clear bn ba hf hs
        refine go3 ?_
        exact ⟨_, rfl, _, rfl, _, _, _, _, rfl, .inr ⟨0, g ++ (g' ++ [some ⟨0, 1, ui [(j : Int)]⟩]), [], by simp [ivl], by simp⟩⟩
      · have z1 : (ui [(j : Int)]).isEmpty = false := rfl
        have z2 : (ivl piv).length = a := by rw [ivl_len, ha]
        have z3 := ivl_snoc piv j
        have z4 : List.take a (ivl piv) = ivl piv := take_len_g _ z2.symm
        rw [ha] at hi6
        have z5 : (piv ++ [j]).length = a + 1 := by simp [ha]
        clear bn ba hf hs
        refine go3 ?_
        exact ⟨_, rfl, _, rfl, _, _, _, _, rfl, .inr ⟨vp + 1, g1, _, by rw [z3], by rw [z5]⟩⟩
end Go.S

end
section
set_option linter.unusedVariables false
set_option linter.unusedSimpArgs false
set_option maxRecDepth 100000
namespace Go.S
open Go Go.AM Go.RowKit Go.K
theorem s_clonev {l : List Rat} (hl : l.length ≤ 1000000) (h : Heap) : cloneV (CL F) 115 (eR l) h = some (eR l, h) := by
  cases l with
  | nil =>
    show cloneV (CL F) _ (.lst []) h = _
    rw [cloneV_nil]
    have h1 := s_clone_nil h
    rw [cloneA_nil] at h1
    split at h1
    · next hh => rw [if_pos hh]; rfl
    · cases h1
  | cons x l =>
    rw [cloneV_ne (by intro e; cases e)]
    have h1 := s_clone hl [] (by intro e; cases e)
    rw [callA_pure, fzs_cons, fz_lst, fzs_nil, fzK_some, cpA_some]
    have h2 : CP (CL F) 115 [eR (x :: l)] = some (eR (x :: l)) := by
      refine CP_raw h1 ?_
      exact (fz_ref').trans <| (em_fz6 (h := [some ⟨0, 3, em eQ (x :: l)⟩]) (v := 0) (off := 0) (len := (x :: l).length) E_eQ (x :: l)).trans (by rw [sub_full])
    rw [h2]
    rfl
theorem s_begin0 : CL F 104 [.lst []] [] = some (.tup [.ptr 0 0 0 0, eI 0], [some ⟨0, 5, [aW .nil .nil 1]⟩]) := by
  refine CL_X (F := F) (f := 104) rfl rfl ?_
  have h2 := s_Check (t := []) (by simp)
  rw [show may [] = true from rfl, if_pos rfl] at h2
  replace h2 : CP (CL F) 14 [.lst []] = some (eI 0) := h2
  have h3 := s_rat_Of (a := 1) (by decide) (by decide)
  rw [show ((1 : Int) : Rat) = 1 from rfl] at h3
  refine go3 ?_
  refine X_round ?_
  refine go3 ?_
  trivial
theorem tab_wide {n c : Nat} {A : Mt} (h : 0 < n) : wide (tab n c A) = c := by
  unfold wide
  rw [show (tab n c A).getD 0 [] = rowf c (A 0) from tab_get h, rowf_len]
theorem tab_may {n c : Nat} {A : Mt} (hn : n ≤ 200) (hc : c ≤ 200) : may (tab n c A) = true := by
  rw [may_iff, tab_len]
  rcases Nat.eq_zero_or_pos n with h | h
  · subst h; exact ⟨by omega, by simp [wide, tab], fun r hr => by simp [tab] at hr⟩
  · rw [tab_wide h]; exact ⟨hn, hc, tab_row⟩
theorem s_begin {n c : Nat} {A : Mt} (hn : 0 < n) (hn2 : n ≤ 200) (hc : c ≤ 200) : ∃ x, CL F 104 [eT (tab n c A)] [] = some x ∧ ∃ h, x = (.tup [.ptr 0 0 0 0, eI 0], h) ∧ WH n c (A, [], 1) h := by
  have hm := tab_may (A := A) hn2 hc
  have hl : (tab n c A).length = n := tab_len _ _ _
  have hr : ∀ i, i < n → ((tab n c A).getD i default).length ≤ 200 := fun i hi => by rw [tab_get hi, rowf_len]; exact hc
  suffices H : ∃ x, CL F 104 [eT (tab n c A)] [] = some x ∧ ∃ v y g, x = (.tup [.ptr 0 0 0 0, eI 0], some ⟨0, 5, [aW (.ref 2 v 1 0 n) .nil 1]⟩ :: y :: some ⟨v, 1, em eR (tab n c A)⟩ :: g) by
    obtain ⟨x, h1, v, y, g, rfl⟩ := H
    exact ⟨_, h1, _, rfl, _, _, _, _, rfl, .inl ⟨rfl, rfl⟩⟩
  generalize tab n c A = t at *
  subst hl
  refine CL_XE (F := F) (f := 104) rfl rfl ?_
  have h2 := s_Check (t := t) (by omega)
  rw [hm, if_pos rfl] at h2
  have h3 := s_rat_Of (a := 1) (by decide) (by decide)
  rw [show ((1 : Int) : Rat) = 1 from rfl] at h3
  have hlt0 : ((0 : Int) < (t.length : Int)) := by omega
  have g0 := em_getN (f := eR) t 0 hn
  have k0 := fun h => s_clonev (l := t.getD 0 default) (by have := hr 0 hn; omega) h
  have hw1 : wrap64 (0 + 1) = 1 := by rw [show (0 : Int) + 1 = 1 from rfl, w64 (by omega) (by omega)]
  have hs0 : t.take 1 = [t.getD 0 default] := by rw [take_succ_getD t 0 hn]; rfl
  generalize t.getD 0 default = r0 at *
  clear hm
  refine go3 ?_
  refine X_round ?_
  refine go3 ?_
  refine X_up t.length (fun i s => ∃ j7 j19 v y g, s = ⟨[(0, eT t), (2, .nilp), (3, eI 0), (4, eI 0), (5, .ptr 0 0 0 0), (7, j7), (11, .bool false), (16, eT t), (17, eI t.length), (18, eI i), (19, j19)], some ⟨0, 5, [aW (.ref 2 v 1 0 i) .nil 1]⟩ :: y :: some ⟨v, 1, em eR (t.take i)⟩ :: g⟩) ?_ ?_ 1 hn _ ⟨_, _, _, _, _, by rw [hs0]; rfl⟩
  · rintro i s hi ⟨j7, j19, v, y, g, rfl⟩ rec
    have hlt := lt_c hi
    have g1 := em_getN (f := eR) t i hi
    have k1 := fun h => s_clonev (l := t.getD i default) (by have := hr i hi; omega) h
    have hs : t.take i ++ [t.getD i default] = t.take (i + 1) := (take_succ_getD t i hi).symm
    have hlen : (t.take i).length = i := by simp; omega
    have ht : List.take i (t.take i) = t.take i := take_len_g _ hlen.symm
    generalize t.getD i default = r1 at *
    have hlim : i < 5864062014805 := by omega
    have hi6 : i < 9223372036854775807 := by omega
    have hw := i64_nat hi6
    clear hr hlen hs0 k0 g0 hlt0
    refine go3 ?_
    exact rec _ ⟨_, _, _, _, _, rfl⟩
  · rintro s ⟨j7, j19, v, y, g, rfl⟩
    have hlt : ¬ ((t.length : Int) < (t.length : Int)) := nlt_c
    clear hr hs0 k0 g0
    refine go3 ?_
    exact ⟨_, rfl, _, _, _, rfl⟩
theorem pow5 (K m : Nat) : K * 5 ^ (m + 1) = 5 * (K * 5 ^ m) := by rw [Nat.pow_succ]; simp only [Nat.mul_comm, Nat.mul_left_comm]
theorem gstep_size {n c j K : Nat} {s : Mt × List Nat × Rat} (hK : 1 ≤ K) (hle : s.2.1.length ≤ n) (hj : j < c) (hA : ∀ r, r < n → ∀ y, y < c → Lq (s.1 r y) ≤ K * 5 ^ s.2.1.length) (hd : Lq s.2.2 ≤ K * 5 ^ s.2.1.length) :
    (∀ r, r < n → ∀ y, y < c → Lq ((gstep n j s).1 r y) ≤ K * 5 ^ (gstep n j s).2.1.length) ∧ Lq (gstep n j s).2.2 ≤ K * 5 ^ (gstep n j s).2.1.length := by
  obtain ⟨A, piv, d⟩ := s
  simp only at hA hd hle
  obtain ⟨k1, k2, k3, k4⟩ := fnd_spec (n := n) (A := A) (j := j) hle
  have hgs : gstep n j (A, piv, d) = if fnd n A j piv.length = n then (A, piv, d) else (elimTo (pivR A piv.length (fnd n A j piv.length) j) piv.length j n, piv ++ [j], (if piv.length = fnd n A j piv.length then d else -d) * A (fnd n A j piv.length) j) := rfl
  rw [hgs]
  clear hgs
  generalize fnd n A j piv.length = k at *
  by_cases hk : k = n
  · rw [if_pos hk]; exact ⟨hA, hd⟩
  · rw [if_neg hk]
    simp only [List.length_append, List.length_singleton]
    have hp := k4 (by omega)
    rw [pow5]
    have h1 : 1 ≤ K * 5 ^ piv.length := Nat.mul_pos hK (Nat.pos_of_ne_zero (by simp))
    generalize K * 5 ^ piv.length = M at *
    generalize piv.length = a at *
    have han : a < n := by omega
    have hkn : k < n := by omega
    have hkj := hA k hkn j hj
    have hpa : ∀ y, y < c → Lq (pivR A a k j a y) ≤ 2 * M := fun y hy => by
      have e : pivR A a k j a y = (A k j)⁻¹ * A k y := by unfold pivR setr; rw [if_pos rfl]
      rw [e]
      have := hA k hkn y hy
      have := Lq_inv (A k j) hp
      have := Lq_mul (A k j)⁻¹ (A k y)
      omega
    have hpr : ∀ r, r < n → r ≠ a → ∀ y, y < c → Lq (pivR A a k j r y) ≤ M := fun r hr hne y hy => by
      unfold pivR setr
      rw [if_neg hne]
      unfold swp
      rw [if_neg hne]
      split
      · exact hA a han y hy
      · exact hA r hr y hy
    constructor
    · intro r hr y hy
      by_cases hra : r = a
      · rw [hra, elimTo_at]
        have := hpa y hy
        omega
      · unfold elimTo
        rw [if_pos ⟨hr, hra⟩]
        have h2 := hpr r hr hra y hy
        have h3 := hpr r hr hra j hj
        have h4 := hpa y hy
        have h5 := Lq_sub (pivR A a k j r y) (pivR A a k j r j * pivR A a k j a y)
        have h6 := Lq_mul (pivR A a k j r j) (pivR A a k j a y)
        omega
    · have h2 := Lq_mul (if a = k then d else -d) (A k j)
      have h3 : Lq (if a = k then d else -d) ≤ M := by
        split
        · exact hd
        · rw [Lq_neg]; exact hd
      omega
theorem grun_size {n c K : Nat} {A : Mt} (hK : 1 ≤ K) (hA : ∀ r, r < n → ∀ y, y < c → Lq (A r y) ≤ K) : ∀ j, j ≤ c → (∀ r, r < n → ∀ y, y < c → Lq ((grun n A j).1 r y) ≤ K * 5 ^ (grun n A j).2.1.length) ∧ Lq (grun n A j).2.2 ≤ K * 5 ^ (grun n A j).2.1.length := by
  intro j
  induction j with
  | zero =>
    intro _
    refine ⟨fun r hr y hy => ?_, ?_⟩
    · show Lq (A r y) ≤ K * 1
      have := hA r hr y hy
      omega
    · show Lq 1 ≤ K * 1
      have := Lq_one
      omega
  | succ j ih =>
    intro hj
    obtain ⟨h1, h2⟩ := ih (by omega)
    exact gstep_size hK (grun_RR n A j).le (by omega) h1 h2
theorem grun_bound {n c K : Nat} {A : Mt} (hK : 1 ≤ K) (hA : ∀ r, r < n → ∀ y, y < c → Lq (A r y) ≤ K) {j : Nat} (hj : j ≤ c) : (∀ r, r < n → ∀ y, y < c → Lq ((grun n A j).1 r y) ≤ K * 5 ^ n) ∧ Lq (grun n A j).2.2 ≤ K * 5 ^ n := by
  obtain ⟨h1, h2⟩ := grun_size hK hA j hj
  have h3 : K * 5 ^ (grun n A j).2.1.length ≤ K * 5 ^ n := Nat.mul_le_mul_left K (Nat.pow_le_pow_right (by decide) (grun_RR n A j).le)
  exact ⟨fun r hr y hy => Nat.le_trans (h1 r hr y hy) h3, Nat.le_trans h2 h3⟩
def GB (n c M : Nat) (A : Mt) : Prop := ∀ j, j ≤ c → (∀ r, r < n → ∀ y, y < c → Lq ((grun n A j).1 r y) ≤ M) ∧ Lq (grun n A j).2.2 ≤ M
theorem grun_GB {n c K : Nat} {A : Mt} (hK : 1 ≤ K) (hA : ∀ r, r < n → ∀ y, y < c → Lq (A r y) ≤ K) : GB n c (K * 5 ^ n) A := fun _ hj => grun_bound hK hA hj
theorem s_run {n c M : Nat} {A : Mt} (hn : 0 < n) (hn2 : n ≤ 200) (hc : c ≤ 200) (hM : M < 1000000) (hA : GB n c M A) :
    ∃ x, CL F 55 [eT (tab n c A)] [] = some x ∧ ∃ h, x = (.tup [.ptr 0 0 0 0, eI 0], h) ∧ WH n c (grun n A c) h := by
  obtain ⟨x, b1, h0, rfl, b2⟩ := s_begin (A := A) hn hn2 hc
  refine CL_XE (F := F) (f := 55) rfl rfl ?_
  have h1 := s_Size (tab n c A)
  rw [tab_wide hn, tab_len] at h1
  have hstep : ∀ j, j < c → ∀ h, WH n c (grun n A j) h → ∃ x, CL F 83 [.ptr 0 0 0 0, eI j] h = some x ∧ ∃ h', x = (.tup [], h') ∧ WH n c (grun n A (j + 1)) h' := fun j hj h hw => by
    obtain ⟨g1, g2⟩ := hA j (by omega)
    exact s_step hw (by omega) (by omega) hj (grun_RR n A j).le (M := M) hM g1 (by omega)
  replace b2 : WH n c (grun n A 0) h0 := b2
  clear hA
  refine go3 ?_
  refine X_up c (fun j s => ∃ j8 j24 h, s = ⟨[(0, eT (tab n c A)), (2, .nilp), (3, eI 0), (4, .ptr 0 0 0 0), (5, eI 0), (7, eI c), (8, j8), (15, .bool false), (22, eI c), (23, eI j), (24, j24)], h⟩ ∧ WH n c (grun n A j) h) ?_ ?_ 0 (Nat.zero_le _) _ ⟨_, _, _, rfl, b2⟩
  · rintro j s hj ⟨j8, j24, h, rfl, hw⟩ rec
    have hlt := lt_c hj
    obtain ⟨x, hs, h', rfl, hw'⟩ := hstep j hj h hw
    have hi6 : j < 9223372036854775807 := by omega
    have hw6 := i64_nat hi6
    clear hstep b1 hw b2
    refine go3 ?_
    exact rec _ ⟨_, _, _, rfl, hw'⟩
  · rintro s ⟨j8, j24, h, rfl, hw⟩
    have hlt : ¬ ((c : Int) < (c : Int)) := nlt_c
    clear hstep b1 b2
    refine go3 ?_
    exact ⟨_, rfl, _, rfl, hw⟩
theorem s_run0 : CL F 55 [.lst []] [] = some (.tup [.ptr 0 0 0 0, eI 0], [some ⟨0, 5, [aW .nil .nil 1]⟩]) := by
  refine CL_X (F := F) (f := 55) rfl rfl ?_
  have b1 := s_begin0
  have h1 : CP (CL F) 27 [.lst []] = some (.tup [eI 0, eI 0]) := s_Size []
  refine go3 ?_
  refine X_round ?_
  refine go3 ?_
  trivial
theorem s_Reduce0 : CP (CL F) 12 [.lst []] = some (.tup [.lst [], .lst [], eI 0]) := by
  refine CP_X (F := F) (f := 12) rfl rfl ?_
  have b1 := s_run0
  refine go3 ?_
  trivial
theorem s_Reduce {n c M : Nat} {A : Mt} (hn2 : n ≤ 200) (hc : c ≤ 200) (h0 : n = 0 → c = 0) (hM : M < 1000000) (hA : GB n c M A) :
    CP (CL F) 12 [eT (tab n c A)] = some (.tup [eT (tab n c (grun n A c).1), .lst (ui (ivl (grun n A c).2.1)), eI 0]) := by
  rcases Nat.eq_zero_or_pos n with e | e
  · subst e
    rw [h0 rfl]
    exact s_Reduce0
  · obtain ⟨x, b1, h, rfl, b2⟩ := s_run e hn2 hc hM hA
    refine CP_X (F := F) (f := 12) rfl rfl ?_
    obtain ⟨y, vt, pr, g, rfl, hp⟩ := b2
    have z1 := tab_len n c (grun n A c).1
    have z2 : List.take n (tab n c (grun n A c).1) = tab n c (grun n A c).1 := take_len_g _ z1.symm
    have z3 := ivl_len (grun n A c).2.1
    have z4 : List.take (grun n A c).2.1.length (ivl (grun n A c).2.1) = ivl (grun n A c).2.1 := take_len_g _ z3.symm
    generalize (grun n A c).2.1 = piv at *
    generalize (grun n A c).2.2 = d at *
    generalize tab n c (grun n A c).1 = T at *
    generalize tab n c A = T0 at *
    rcases hp with ⟨rfl, rfl⟩ | ⟨vp, g1, g2, rfl, rfl⟩
    · clear hA
      refine go3 ?_
      trivial
    · clear hA
      refine go3 ?_
      trivial
end Go.S

end
section
set_option linter.unusedVariables false
namespace Go.S
open Go Go.AM Go.RowKit Go.K
def runsTrue2 (F : Nat → Option AFunc) (n f : Nat) : Bool := match callN F n f [] [] with
  | some (.bool b, _) => b
  | _ => false
theorem CP_run2 {F : Nat → Option AFunc} {f : Nat} (n : Nat) (h : runsTrue2 F n f = true) : CP (CL F) f [] = some (.bool true) := by
  unfold runsTrue2 at h
  split at h
  · next b g hb =>
    subst h
    exact CP_raw (CL_of n hb) rfl
  · cases h
end Go.S

end
section
set_option linter.unusedVariables false
set_option linter.unusedSimpArgs false
set_option maxRecDepth 100000
namespace Go.S
open Go Go.AM Go.RowKit Go.K
theorem s_works14 : CP (CL F) 16 [] = some (.bool true) := CP_run2 300 (by decide +kernel)
theorem s_Rank {t : List (List Rat)} {s : AV} {l : List Int} {e : Int} (h : CP (CL F) 12 [eT t] = some (.tup [s, .lst (ui l), eI e])) : CP (CL F) 13 [eT t] = some (.tup [eI l.length, eI e]) := by
  refine CP_X (F := F) (f := 13) rfl rfl ?_
  refine go3 ?_
  trivial
theorem ent_size {t : List (List Rat)} {K : Nat} (h : ∀ r ∈ t, ∀ q ∈ r, Lq q ≤ K) (he : ∀ r ∈ t, r.length = wide t) : ∀ r, r < t.length → ∀ y, y < wide t → Lq (ent t r y) ≤ K := fun r hr y hy => h _ (getD_mem hr) _ (getD_mem (by rw [he _ (getD_mem hr)]; exact hy))
set_option maxHeartbeats 4000000
end Go.S

end
section
set_option linter.unusedVariables false
set_option linter.unusedSimpArgs false
set_option maxRecDepth 100000
namespace Go.S
open Go Go.AM Go.RowKit Go.K
def colR (t : List (List Rat)) (j : Nat) : List Rat := t.map fun r => r.getD j default
theorem fz_tab {H : Heap} {b id v : Nat} {cs : List AV} {g : Heap} {t : List (List Rat)} {ks : List Nat} (R : RowsIn b g eQ cs t ks) (hH : ∀ k, H[b + k]? = g[k]?) (hb : H[id]? = some (some ⟨v, 1, cs⟩)) (m : Nat) : frz H (m + 5) (.ref id v 1 0 t.length) = some (eT t) := by
  have a1 := R.frz (fun x => E_eQ.pl x) hH (m + 1)
  have b1 : blk H id v = some ⟨v, 1, cs⟩ := by
    unfold blk
    rw [hb]
    exact if_pos rfl
  have c1 : sub cs 0 t.length = cs := by unfold sub; rw [List.drop_zero]; exact List.take_of_length_le (by rw [R.1]; omega)
  show (blk H id v).bind (fun b => ((sub b.xs 0 t.length).mapM (Go.AM.frz H (m + 4))).map AV.lst) = _
  rw [b1]
  show ((sub cs 0 t.length).mapM (Go.AM.frz H (m + 4))).map AV.lst = _
  rw [c1, a1]
  rfl
def ownC (b : Nat) (c j : Nat) : List AV := (List.range j).map fun k => AV.ref (b + (k + 1)) 0 3 0 c
def ownB (t : List (List Rat)) (j : Nat) : Heap := (List.range j).map fun k => some (⟨0, 3, em eQ (t.getD k default)⟩ : Blk)
theorem ownC_len (b c j : Nat) : (ownC b c j).length = j := by simp [ownC]
theorem ownB_len (t : List (List Rat)) (j : Nat) : (ownB t j).length = j := by simp [ownB]
theorem ownC_succ (b c j : Nat) : ownC b c (j + 1) = ownC b c j ++ [AV.ref (b + (j + 1)) 0 3 0 c] := by simp [ownC, List.range_succ]
theorem ownB_succ (t : List (List Rat)) (j : Nat) : ownB t (j + 1) = ownB t j ++ [some ⟨0, 3, em eQ (t.getD j default)⟩] := by simp [ownB, List.range_succ]
theorem s_own_raw {t : List (List Rat)} {c : Nat} (hl : t.length ≤ 1000000) (hc : 0 < c) (hc2 : c ≤ 1000000) (ht : ∀ r ∈ t, r.length = c) (h : Heap) :
    CL F 68 [eT t] h = some (.ref h.length 0 1 0 t.length, h ++ (some ⟨0, 1, ownC h.length c t.length⟩ :: ownB t t.length)) := by
  refine CL_X (F := F) (f := 68) rfl rfl ?_
  have h2 : t.length ≤ 11728124029610 := by omega
  refine go3 ?_
  refine X_up t.length (fun i s => ∃ j4 j5 j12, s = ⟨[(0, eT t), (2, .nil), (3, .ref h.length 0 1 0 t.length), (4, j4), (5, j5), (9, eT t), (10, eI t.length), (11, eI i), (12, j12)], h ++ (some ⟨0, 1, ownC h.length c i ++ List.replicate (t.length - i) .nil⟩ :: ownB t i)⟩) ?_ ?_ 0 (Nat.zero_le _) _ ⟨_, _, _, rfl⟩
  · rintro i s hi ⟨j4, j5, j12, rfl⟩ rec
    have hlt := lt_c hi
    have g1 := em_getN (f := eR) t i hi
    have hr := ht _ (getD_mem hi)
    have k1 := fun h => s_clone' (l := t.getD i default) (by omega) h (fun e => by rw [e] at hr; simp at hr; omega)
    simp only [ownC_succ, ownB_succ] at rec
    have hb := ownB_len t i
    obtain ⟨m, hm⟩ : ∃ m, t.length - i = m + 1 := ⟨t.length - i - 1, by omega⟩
    have a1 : (ownC h.length c i ++ List.replicate (t.length - i) AV.nil)[i]? = some .nil := by rw [hm, List.getElem?_append_right (by rw [ownC_len]; omega), ownC_len]; simp
    have a2 : (ownC h.length c i ++ List.replicate (t.length - i) AV.nil).set i (AV.ref (h.length + (i + 1)) 0 3 0 c) = ownC h.length c i ++ [AV.ref (h.length + (i + 1)) 0 3 0 c] ++ List.replicate (t.length - (i + 1)) .nil := by
      rw [hm, List.set_append_right _ _ (by rw [ownC_len]; omega), ownC_len, show t.length - (i + 1) = m by omega, Nat.sub_self]
      simp [List.replicate_succ]
    generalize t.getD i default = r at *
    have hw := i64_nat (n := i) (by omega)
    clear hm ht hc hc2
    refine go3 ?_
    exact rec _ ⟨eI i, eR r, .bool true, by simp⟩
  · rintro s ⟨j4, j5, j12, rfl⟩
    have hlt : ¬ ((t.length : Int) < (t.length : Int)) := nlt_c
    have he : List.replicate (t.length - t.length) AV.nil = [] := by simp
    clear ht
    refine go3 ?_
    trivial
theorem s_own_raw0 {t : List (List Rat)} (hl : t.length ≤ 1000000) (ht : ∀ r ∈ t, r = []) (h : Heap) :
    CL F 68 [eT t] h = some (.ref h.length 0 1 0 t.length, h ++ [some ⟨0, 1, List.replicate t.length .zero⟩]) := by
  refine CL_X (F := F) (f := 68) rfl rfl ?_
  have h2 : t.length ≤ 11728124029610 := by omega
  have k1 := fun h => s_clone_nil h
  have e0 : em eQ [] = [] := rfl
  refine go3 ?_
  refine X_up t.length (fun i s => ∃ j4 j5 j12, s = ⟨[(0, eT t), (2, .nil), (3, .ref h.length 0 1 0 t.length), (4, j4), (5, j5), (9, eT t), (10, eI t.length), (11, eI i), (12, j12)], h ++ [some ⟨0, 1, List.replicate i .zero ++ List.replicate (t.length - i) .nil⟩]⟩) ?_ ?_ 0 (Nat.zero_le _) _ ⟨_, _, _, rfl⟩
  · rintro i s hi ⟨j4, j5, j12, rfl⟩ rec
    have hlt := lt_c hi
    have g1 := em_getN (f := eR) t i hi
    rw [ht _ (getD_mem hi)] at g1
    obtain ⟨m, hm⟩ : ∃ m, t.length - i = m + 1 := ⟨t.length - i - 1, by omega⟩
    have a1 : (List.replicate i AV.zero ++ List.replicate (t.length - i) AV.nil)[i]? = some .nil := by rw [hm, List.getElem?_append_right (by simp)]; simp
    have a2 : (List.replicate i AV.zero ++ List.replicate (t.length - i) AV.nil).set i AV.zero = List.replicate (i + 1) AV.zero ++ List.replicate (t.length - (i + 1)) .nil := by
      rw [hm, List.set_append_right _ _ (by simp), show t.length - (i + 1) = m by omega, List.length_replicate, Nat.sub_self]
      rw [List.replicate_succ (n := m), List.set_cons_zero, List.replicate_succ' (n := i), List.append_assoc]
      rfl
    have hw := i64_nat (n := i) (by omega)
    clear hm ht
    refine go3 ?_
    exact rec _ ⟨_, _, _, rfl⟩
  · rintro s ⟨j4, j5, j12, rfl⟩
    have hlt : ¬ ((t.length : Int) < (t.length : Int)) := nlt_c
    have he : List.replicate (t.length - t.length) AV.nil = [] := by simp
    clear ht
    refine go3 ?_
    trivial
theorem own_rows {t : List (List Rat)} {c b : Nat} (ht : ∀ r ∈ t, r.length = c) : RowsIn (b + 1) (ownB t t.length) eQ (ownC b c t.length) t (List.range t.length) := by
  refine ⟨ownC_len _ _ _, by simp, fun i hi => ?_⟩
  have e1 : (ownC b c t.length).getD i default = AV.ref (b + (i + 1)) 0 3 0 c := by simp [ownC, List.getD, hi]
  have e3 : (List.range t.length).getD i default = i := by simp [List.getD, hi]
  rw [e1, e3]
  refine ⟨0, [], by rw [ht _ (getD_mem hi)]; congr 1; omega, by simp [ownB, hi]⟩
theorem s_own {t : List (List Rat)} {c : Nat} (hl : t.length ≤ 1000000) (hc2 : c ≤ 1000000) (ht : ∀ r ∈ t, r.length = c) : CP (CL F) 68 [eT t] = some (eT t) := by
  rcases Nat.eq_zero_or_pos c with rfl | hc
  · have h0 : ∀ r ∈ t, r = [] := fun r hr => List.eq_nil_of_length_eq_zero (ht r hr)
    refine CP_raw (s_own_raw0 hl h0 []) ?_
    have e : em eR t = List.replicate t.length (AV.lst []) := by
      refine List.eq_replicate_iff.2 ⟨em_len _, fun x hx => ?_⟩
      obtain ⟨r, hr, rfl⟩ := List.mem_map.1 hx
      rw [h0 r hr]; rfl
    show (((sub (List.replicate t.length AV.zero) 0 t.length).mapM (Go.AM.frz _ 6)).map AV.lst) = _
    have c1 : sub (List.replicate t.length AV.zero) 0 t.length = List.replicate t.length AV.zero := by unfold sub; rw [List.drop_zero]; exact List.take_of_length_le (by simp)
    rw [c1, mapM_some (G := fun _ => AV.lst []) _ fun x hx => by rw [List.eq_of_mem_replicate hx]; rfl]
    show some (AV.lst _) = some (AV.lst (em eR t))
    rw [e]
    simp
  · refine CP_raw (s_own_raw hl hc hc2 ht []) ?_
    exact fz_tab (H := some ⟨0, 1, ownC 0 c t.length⟩ :: ownB t t.length) (id := 0) (v := 0) (g := ownB t t.length) (own_rows (b := 0) ht) (fun k => by rw [Nat.add_comm]; rfl) rfl 2
end Go.S

end
section
set_option linter.unusedVariables false
set_option linter.unusedSimpArgs false
set_option maxRecDepth 100000
namespace Go.S
open Go Go.AM Go.RowKit Go.K
section
variable {α : Type} {n : Nat} {f g : Nat → α}
end
theorem may_spec {t : List (List Rat)} : may t = true ↔ t.length ≤ 200 ∧ wide t ≤ 200 ∧ ∀ r ∈ t, r.length = wide t := by
  unfold may
  simp only [Bool.and_eq_true, decide_eq_true_eq, even_iff, and_assoc]
end Go.S

end
section
set_option linter.unusedVariables false
set_option linter.unusedSimpArgs false
set_option maxRecDepth 100000
namespace Go.S
open Go Go.AM Go.RowKit Go.K
def partsTo (r : List Rat) (b : List (List Rat)) : Nat → List (List Rat)
  | 0 => []
  | k + 1 => partsTo r b k ++ if r.getD k default = 0 then [] else [(b.getD k default).map (· * r.getD k default)]
def rowMul (r : List Rat) (b : List (List Rat)) (c : Nat) : List Rat := rowf c fun j => sm r.length fun k => r.getD k default * (b.getD k default).getD j default
def mulR (a b : List (List Rat)) : List (List Rat) := a.map fun r => rowMul r b (wide b)
theorem partsTo_len (r : List Rat) (b : List (List Rat)) : ∀ k, (partsTo r b k).length ≤ k := by
  intro k
  induction k with
  | zero => exact Nat.le_refl _
  | succ k ih =>
    show (partsTo r b k ++ _).length ≤ _
    rw [List.length_append]
    split
    · simp; omega
    · simp; omega
theorem partsTo_mem {r : List Rat} {b : List (List Rat)} {s : List Rat} : ∀ {k}, s ∈ partsTo r b k → ∃ i, i < k ∧ s = (b.getD i default).map (· * r.getD i default) := by
  intro k
  induction k with
  | zero => intro h; cases h
  | succ k ih =>
    intro h
    rcases List.mem_append.1 h with h | h
    · obtain ⟨i, hi, e⟩ := ih h
      exact ⟨i, by omega, e⟩
    · split at h
      · cases h
      · exact ⟨k, by omega, by simpa using h⟩
theorem rowf_addR (c : Nat) (f g : Nat → Rat) : addR (rowf c f) (rowf c g) = rowf c fun j => f j + g j := rowf_zip _
theorem sum_parts {r : List Rat} {b : List (List Rat)} {c : Nat} (hb : ∀ s ∈ b, s.length = c) : ∀ k, k ≤ r.length → k ≤ b.length → sumR (List.replicate c 0) (partsTo r b k) = rowf c fun j => sm k fun i => r.getD i default * (b.getD i default).getD j default := by
  intro k
  induction k with
  | zero =>
    intro _ _
    refine List.ext_getElem (by simp [sumR, partsTo, rowf]) fun i h1 h2 => ?_
    simp [sumR, partsTo, rowf, sm]
  | succ k ih =>
    intro h1 h2
    have e : (b.getD k default) = rowf c fun j => (b.getD k default).getD j default := by
      have := rowf_of (b.getD k default)
      rw [hb _ (getD_mem (by omega))] at this
      exact this.symm
    show sumR _ (partsTo r b k ++ _) = rowf c fun j => sm k _ + r.getD k default * (b.getD k default).getD j default
    split
    · next h =>
      rw [List.append_nil, ih (by omega) (by omega), h]
      exact rowf_congr fun j _ => by grind
    · rw [sumR_snoc, ih (by omega) (by omega)]
      rw [show (b.getD k default).map (· * r.getD k default) = rowf c fun j => (b.getD k default).getD j default * r.getD k default from by
        rw [← rowf_map (f := fun j => (b.getD k default).getD j default) (· * r.getD k default), ← e]]
      rw [rowf_addR]
      exact rowf_congr fun j _ => by grind
theorem s_times {a b : List (List Rat)} (ha : a.length ≤ 1000) (hb : b.length ≤ 1000) (hw : wide a = b.length) (hc : wide b ≤ 200) (ea : ∀ r ∈ a, r.length = wide a) (eb : ∀ r ∈ b, r.length = wide b) {M : Nat} (hM : M ≤ 1000) (la : ∀ r ∈ a, ∀ q ∈ r, Lq q ≤ M) (lb : ∀ r ∈ b, ∀ q ∈ r, Lq q ≤ M) :
    CP (CL F) 67 [eT a, eT b] = some (.tup [eT (mulR a b), eI 0]) := by
  refine CP_X (F := F) (f := 67) rfl rfl ?_
  have h1 := s_Size a
  have h2 := s_Size b
  rw [hw] at h1
  have h3 : a.length ≤ 11728124029610 := by omega
  have z := s_vect_Zero (n := wide b) hc
  generalize hW : wide b = c at *
  refine go3 ?_
  refine X_up a.length (fun i s => ∃ j11 j12 j13 j14 j16 j17 j37 j53 j54 j55 j56 j62 g, s = ⟨[(0, eT a), (1, eT b), (4, .nil), (5, eI 0), (6, eI b.length), (7, eI c), (9, eI b.length), (10, .ref 0 0 1 0 a.length), (11, j11), (12, j12), (13, j13), (14, j14), (16, j16), (17, j17), (30, .bool false), (34, eT a), (35, eI a.length), (36, eI i), (37, j37), (53, j53), (54, j54), (55, j55), (56, j56), (62, j62)], some ⟨0, 1, em eR ((a.take i).map fun r => rowMul r b c) ++ List.replicate (a.length - i) .nil⟩ :: g⟩) ?_ ?_ 0 (Nat.zero_le _) _ ⟨_, _, _, _, _, _, _, _, _, _, _, _, [], rfl⟩
  · rintro i s hi ⟨j11, j12, j13, j14, j16, j17, j37, j53, j54, j55, j56, j62, g, rfl⟩ rec
    have hlt := lt_c hi
    have g1 := em_getN (f := eR) a i hi
    have hr := ea _ (getD_mem hi)
    have lr := la _ (getD_mem hi)
    obtain ⟨m, hm⟩ : ∃ m, a.length - i = m + 1 := ⟨a.length - i - 1, by omega⟩
    have hg := fill_get (f := eR) ((a.take i).map fun r => rowMul r b c) m .nil
    have hs := fill_set (f := eR) ((a.take i).map fun r => rowMul r b c) m .nil (rowMul (a.getD i default) b c)
    have hlen : ((a.take i).map fun r => rowMul r b c).length = i := by simp; omega
    rw [hlen] at hg hs
    rw [← hm, show m = a.length - (i + 1) by omega, show ((a.take i).map fun r => rowMul r b c) ++ [rowMul (a.getD i default) b c] = (a.take (i + 1)).map fun r => rowMul r b c by rw [take_succ_getD a i hi]; simp] at hs
    rw [← hm] at hg
    generalize a.getD i default = r at *
    have hrb : r.length = b.length := by rw [hr, hw]
    have hcap : ¬ ((b.length : Int) + 1 < 0) := by omega
    have hsum := sum_parts (r := r) (b := b) (c := c) eb r.length (Nat.le_refl _) (by omega)
    rw [show (rowf c fun j => sm r.length fun i => r.getD i default * (b.getD i default).getD j default) = rowMul r b c from rfl] at hsum
    have hpl := partsTo_len r b r.length
    have hadd := s_vect_Add (r0 := List.replicate c 0) (rs := partsTo r b r.length) (M := 2 * M + 1) (by simp; omega) (by omega) (fun s hs => by
      obtain ⟨i, hi, rfl⟩ := partsTo_mem hs
      rw [List.length_map, List.length_replicate, eb _ (getD_mem (by omega))]) (fun q hq => by
      rw [List.eq_of_mem_replicate hq]
      have := Lq_zero
      omega) (fun s hs q hq => by
      obtain ⟨i, hi, rfl⟩ := partsTo_mem hs
      obtain ⟨x, hx, rfl⟩ := List.mem_map.1 hq
      have h1 := lb _ (getD_mem (l := b) (i := i) (by omega)) x hx
      have h2 := lr _ (getD_mem (l := r) (i := i) (by omega))
      have := Lq_mul x (r.getD i default)
      omega) (by
      have : (partsTo r b r.length).length + 1 ≤ 1001 := by omega
      have h2 : 2 * M + 1 + 1 ≤ 2002 := by omega
      calc _ ≤ 1001 * 2002 := Nat.mul_le_mul this h2
        _ < _ := by decide)
    rw [hsum] at hadd
    have z1 : [eR (List.replicate c 0)] = em eR [List.replicate c 0] := rfl
    have z2 : (em eR [List.replicate c 0]).all okCell = true := rfl
    have w2 : b.length + 1 ≤ 11728124029610 := by omega
    have w3 : (0 : Int) ≤ ((b.length + 1 : Nat) : Int) := by omega
    have hlim : (partsTo r b r.length).length + 1 ≤ 5864062014805 := by omega
    have w0 : b.length < 9223372036854775807 := by omega
    have w1 : wrap64 ((b.length : Int) + 1) = ((b.length + 1 : Nat) : Int) := i64_nat w0
    clear hm hlen ea la hpl
    refine go3 ?_
    refine X_up b.length (fun k s => ∃ j16 j17 j56 j62 v ps g', ps = partsTo r b k ∧ s = ⟨[(0, eT a), (1, eT b), (4, .nil), (5, eI 0), (6, eI b.length), (7, eI c), (9, eI b.length), (10, .ref 0 0 1 0 a.length), (11, eI i), (12, eR r), (13, .ref (g.length + 1) v 1 0 (ps.length + 1)), (14, eR (List.replicate c 0)), (16, j16), (17, j17), (30, .bool false), (34, eT a), (35, eI a.length), (36, eI i), (37, .bool true), (53, eR r), (54, eI b.length), (55, eI k), (56, j56), (62, j62)], some ⟨0, 1, em eR ((a.take i).map fun r => rowMul r b c) ++ List.replicate (a.length - i) .nil⟩ :: (g ++ (some ⟨v, 1, em eR (List.replicate c 0 :: ps)⟩ :: g'))⟩) ?_ ?_ 0 (Nat.zero_le _) _ ⟨_, _, _, _, 1, [], _, rfl, rfl⟩
    · rintro k s hk ⟨j16, j17, j56, j62, v, ps, g', hps, rfl⟩ rec2
      clear w1
      have hlt2 := lt_c hk
      have q1 := em_getN (f := eQ) r k (by omega)
      have q2 := em_getN (f := eR) b k hk
      have q3 := s_rat_Sign (r.getD k default)
      have lx := lr _ (getD_mem (l := r) (i := k) (by omega))
      have ly := lb _ (getD_mem hk)
      have eb' := eb _ (getD_mem hk)
      have q4 := s_vect_Scale (l := b.getD k default) (c := r.getD k default) (by omega) (M := M) (by omega) ly (by omega)
      have pl : ps.length ≤ k := by rw [hps]; exact partsTo_len r b k
      have hlim2 : ps.length + 1 < 5864062014805 := by omega
      have hw2 := i64_nat (n := k) (by omega)
      clear hadd hsum hlim w2 w3 hcap hg hs
      by_cases hx : r.getD k default = 0
      · have q5 : sgn (r.getD k default).num = 0 := (sgn_num_zero _).2 hx
        have hp : partsTo r b (k + 1) = ps := by
          show partsTo r b k ++ _ = ps
          rw [if_pos hx, List.append_nil, hps]
        generalize r.getD k default = x at *
        generalize b.getD k default = bk at *
        rw [q5] at q3
        clear eb lb lr hx hps
        refine go3 ?_
        exact rec2 _ ⟨_, _, _, _, _, ps, _, hp.symm, rfl⟩
      · have q5 : ¬ (sgn (r.getD k default).num = 0) := fun h => hx ((sgn_num_zero _).1 h)
        have hp : partsTo r b (k + 1) = ps ++ [(b.getD k default).map (· * r.getD k default)] := by
          show partsTo r b k ++ _ = _
          rw [if_neg hx, hps]
        generalize r.getD k default = x at *
        generalize b.getD k default = bk at *
        clear eb lb lr hx hps
        refine go3 ?_
        rw [show ps.length + 1 = (ps ++ [bk.map (· * x)]).length by simp]
        exact rec2 _ ⟨_, _, _, _, _, ps ++ [bk.map (· * x)], _, hp.symm, rfl⟩
    · rintro s ⟨j16, j17, j56, j62, v, ps, g', hps, rfl⟩
      clear w1
      have hlt2 : ¬ ((b.length : Int) < (b.length : Int)) := nlt_c
      rw [hrb, ← hps] at hadd
      have hw := i64_nat (n := i) (by omega)
      clear eb lb lr hps hsum hlim w2 w3 hcap
      refine go3 ?_
      exact rec _ ⟨_, _, _, _, _, _, _, _, _, _, _, _, _, rfl⟩
  · rintro s ⟨j11, j12, j13, j14, j16, j17, j37, j53, j54, j55, j56, j62, g, rfl⟩
    have hlt : ¬ ((a.length : Int) < (a.length : Int)) := nlt_c
    have he : List.replicate (a.length - a.length) AV.nil = [] := by simp
    have ht : List.take a.length (a.map fun r => rowMul r b c) = mulR a b := by unfold mulR; rw [hW]; exact take_len_g _ (by simp)
    clear ea eb la lb
    refine go3 ?_
    trivial
theorem mulR_len (a b : List (List Rat)) : (mulR a b).length = a.length := by simp [mulR]
theorem mulR_row {a b : List (List Rat)} : ∀ r ∈ mulR a b, r.length = wide b := fun r hr => by
  obtain ⟨s, _, rfl⟩ := List.mem_map.1 hr
  exact rowf_len _ _
theorem s_Mul2 {a b : List (List Rat)} (ha : may a = true) (hb : may b = true) (h : wide a = b.length) {M : Nat} (hM : M ≤ 1000) (la : ∀ r ∈ a, ∀ q ∈ r, Lq q ≤ M) (lb : ∀ r ∈ b, ∀ q ∈ r, Lq q ≤ M) : CP (CL F) 23 [.lst (em eT [a, b])] = some (.tup [eT (mulR a b), eI 0]) := by
  refine CP_X (F := F) (f := 23) rfl rfl ?_
  obtain ⟨a1, a2, a3⟩ := may_spec.1 ha
  obtain ⟨b1, b2, b3⟩ := may_spec.1 hb
  have hk := s_checks (l := [a, b]) (by simp) fun t ht => by simp at ht; rcases ht with rfl | rfl <;> omega
  rw [show [a, b].all may = true by simp [ha, hb]] at hk
  have hl : (em eT [a, b]).length = 2 := rfl
  have g0 : (em eT [a, b])[0]? = some (eT a) := rfl
  have hdr : List.drop 1 (em eT [a, b]) = [eT b] := rfl
  have hok : okS 1 (em eT [a, b]) = true := rfl
  have hn : nth [b] (0 : Int) = b := rfl
  have t1 := s_times (by omega) (by omega) h b2 a3 b3 hM la lb
  have o1 := s_own (t := mulR a b) (c := wide b) (by rw [mulR_len]; omega) (by omega) mulR_row
  have hw : wrap64 (0 + 1) = 1 := by rw [show (0 : Int) + 1 = 1 from rfl, w64 (by omega) (by omega)]
  clear h ha hb la lb a1 a2 a3 b1 b2 b3
  refine go3 ?_
  refine X_round ?_
  refine go3 ?_
  refine X_round ?_
  refine go3 ?_
  trivial
end Go.S

end
section
set_option linter.unusedVariables false
set_option linter.unusedSimpArgs false
set_option maxRecDepth 100000
namespace Go.S
open Go Go.AM Go.RowKit Go.K
theorem dotTo_sm (a b : List Rat) : ∀ k, dotTo a b k = sm k fun i => a.getD i default * b.getD i default := by
  intro k
  induction k with
  | zero => rfl
  | succ k ih => show dotTo a b k + _ = _ ; rw [ih]; rfl
theorem colR_getD {t : List (List Rat)} {j k : Nat} (h : k < t.length) : (colR t j).getD k default = (t.getD k default).getD j default := by
  simp [colR, List.getD, List.getElem?_eq_getElem h]
theorem dot_col {r : List Rat} {b : List (List Rat)} {c j : Nat} (h : r.length = b.length) (hj : j < c) : dot r (colR b j) = (rowMul r b c).getD j default := by
  unfold rowMul
  rw [rowf_get hj]
  unfold dot
  rw [dotTo_sm]
  exact sm_congr fun k hk => by rw [colR_getD (by omega)]
theorem mulR_size {a b : List (List Rat)} {M : Nat} (ea : ∀ r ∈ a, r.length = b.length) (eb : ∀ r ∈ b, r.length = wide b) (la : ∀ r ∈ a, ∀ q ∈ r, Lq q ≤ M) (lb : ∀ r ∈ b, ∀ q ∈ r, Lq q ≤ M) : ∀ r ∈ mulR a b, ∀ q ∈ r, Lq q ≤ 1 + b.length * (2 * M + 1) := by
  intro r hr q hq
  obtain ⟨s, hs, rfl⟩ := List.mem_map.1 hr
  obtain ⟨j, hj, rfl⟩ := mem_rowf.1 hq
  have e := dot_col (r := s) (b := b) (c := wide b) (j := j) (ea s hs) hj
  unfold rowMul at e
  rw [rowf_get hj] at e
  rw [← e]
  have h := dotTo_size (a := s) (b := colR b j) (M := M) (la s hs) (fun q hq => by
    obtain ⟨x, hx, rfl⟩ := List.mem_map.1 hq
    exact lb x hx _ (getD_mem (by rw [eb x hx]; exact hj))) s.length (Nat.le_refl _) (by simp [colR, ea s hs])
  rw [ea s hs] at h
  unfold dot
  rw [ea s hs]
  exact h
end Go.S

end
section
set_option linter.unusedVariables false
set_option linter.unusedSimpArgs false
set_option maxRecDepth 100000
namespace Go.S
open Go Go.AM Go.RowKit Go.K
theorem RowsIn.same {b : Nat} {g g' : Heap} {f : Rat → AV} {cs : List AV} {t : List (List Rat)} {ks : List Nat} (h : RowsIn b g f cs t ks) (h2 : ∀ k ∈ ks, g'[k]? = g[k]?) : RowsIn b g' f cs t ks := by
  refine ⟨h.1, h.2.1, fun i hi => ?_⟩
  obtain ⟨v, ys, h3, h4⟩ := h.2.2 i hi
  refine ⟨v, ys, h3, ?_⟩
  rw [h2 _ (getD_mem (by rw [h.2.1]; exact hi))]
  exact h4
set_option maxHeartbeats 4000000
end Go.S

end
section
set_option linter.unusedVariables false
set_option linter.unusedSimpArgs false
set_option maxRecDepth 100000
namespace Go.S
open Go Go.AM Go.RowKit Go.K
theorem tab_wide' {n c : Nat} {A : Mt} (h : 0 < n) : wide (tab n c A) = c := by
  unfold wide
  rw [show (tab n c A).getD 0 [] = rowf c (A 0) from tab_get h, rowf_len]
theorem tab_wide0 {n c : Nat} {A : Mt} (h : n = 0 → c = 0) : wide (tab n c A) = c := by
  rcases Nat.eq_zero_or_pos n with e | e
  · subst e; rw [h rfl]; rfl
  · exact tab_wide' e
theorem mul_tab {n m k : Nat} {A B : Mt} (h : m = 0 → k = 0) : mulR (tab n m A) (tab m k B) = tab n k (mm m A B) := by
  unfold mulR
  rw [tab_wide0 h]
  unfold tab
  rw [List.map_map]
  refine List.map_congr_left fun i hi => ?_
  show rowMul (rowf m (A i)) (tab m k B) k = rowf k (mm m A B i)
  unfold rowMul
  rw [rowf_len]
  refine rowf_congr fun j hj => sm_congr fun x hx => ?_
  rw [rowf_get hx, tab_get hx, rowf_get hj]
theorem ident_tab (n : Nat) : ident n = tab n n idm := by
  unfold ident tab
  refine List.map_congr_left fun i hi => ?_
  have hi' : i < n := by simpa using hi
  unfold unitR
  refine List.ext_getElem (by simp [rowf]) fun k h1 h2 => ?_
  rw [List.getElem_set]
  by_cases e : i = k
  · subst e; simp [rowf, idm]
  · simp [rowf, idm, e]
theorem tab_may' {n c : Nat} {A : Mt} (hn : n ≤ 200) (hc : c ≤ 200) (h : n = 0 → c = 0) : may (tab n c A) = true := by
  rw [may_spec, tab_len, tab_wide0 h]
  exact ⟨hn, hc, tab_row⟩
def Sz (M : Nat) (t : List (List Rat)) : Prop := ∀ r ∈ t, ∀ q ∈ r, Lq q ≤ M
theorem s_Mul2' {n m k : Nat} {A B : Mt} (hn : n ≤ 200) (hm : m ≤ 200) (hk : k ≤ 200) (h1 : n = 0 → m = 0) (h2 : m = 0 → k = 0) {M : Nat} (hM : M ≤ 1000) (la : Sz M (tab n m A)) (lb : Sz M (tab m k B)) :
    CP (CL F) 23 [.lst (em eT [tab n m A, tab m k B])] = some (.tup [eT (tab n k (mm m A B)), eI 0]) ∧ Sz (1 + m * (2 * M + 1)) (tab n k (mm m A B)) := by
  have e := mul_tab (n := n) (A := A) (B := B) h2
  have s := s_Mul2 (tab_may' (A := A) hn hm h1) (tab_may' (A := B) hm hk h2) (by rw [tab_wide0 h1, tab_len]) hM la lb
  have z := mulR_size (a := tab n m A) (b := tab m k B) (M := M) (fun r hr => by rw [tab_row r hr, tab_len]) (fun r hr => by rw [tab_row r hr, tab_wide0 h2]) la lb
  rw [e] at s z
  rw [tab_len] at z
  exact ⟨s, z⟩
end Go.S

end
section
set_option linter.unusedVariables false
set_option linter.unusedSimpArgs false
namespace Go.S
theorem piv_ge {n j : Nat} {S : Mt} {piv : List Nat} (H : RR n j S piv) : ∀ i, i < piv.length → i ≤ piv.getD i default := by
  intro i
  induction i with
  | zero => intro _; exact Nat.zero_le _
  | succ i ih =>
    intro h
    have := ih (by omega)
    have := H.mono i (i + 1) (by omega) h
    omega
theorem piv_le {n : Nat} {S : Mt} {piv : List Nat} (H : RR n n S piv) (hl : piv.length = n) : ∀ d i, i + d + 1 = n → piv.getD i default ≤ i := by
  intro d
  induction d with
  | zero =>
    intro i h
    have := H.lt i (by omega)
    omega
  | succ d ih =>
    intro i h
    have h1 := ih (i + 1) (by omega)
    have h2 := H.mono i (i + 1) (by omega) (by omega)
    omega
theorem full_id {n : Nat} {S : Mt} {piv : List Nat} (H : RR n n S piv) (hl : piv.length = n) : ∀ i c, i < n → c < n → S i c = if i = c then 1 else 0 := by
  have hp : ∀ i, i < n → piv.getD i default = i := fun i hi => by
    have h1 := piv_ge H i (by omega)
    have h2 := piv_le H hl (n - 1 - i) i (by omega)
    omega
  intro i c hi hc
  have e := hp c hc
  by_cases h : i = c
  · subst h
    have := H.one i (by omega)
    rw [e] at this
    rw [if_pos rfl, this]
  · have := H.col c (by omega) i hi h
    rw [e] at this
    rw [if_neg h, this]
def gdet (n : Nat) (A : Mt) : Rat := if (grun n A n).2.1.length < n then 0 else (grun n A n).2.2
theorem det_mm {n : Nat} {A B : Mt} : det n (mm n A B) = gdet n A * det n B := by
  have H := grun_RR n A n
  have R := grun_Rop n A n
  unfold gdet
  generalize (grun n A n).2.2 = d at *
  generalize (grun n A n).1 = S at *
  generalize (grun n A n).2.1 = piv at *
  have L : LinR (fun (f : Nat → Rat) (j : Nat) => sm n fun k => f k * B k j) := ⟨fun f g k c => by
    show sm n (fun x => (f x + k * g x) * B x c) = sm n (fun x => f x * B x c) + k * sm n (fun x => g x * B x c)
    rw [← sm_mul, ← sm_add]
    exact sm_congr fun x _ => by grind⟩
  have h1 : det n (mm n A B) = d * det n (mm n S B) := R.det L
  rw [h1]
  by_cases hl : piv.length < n
  · rw [if_pos hl]
    have : det n (mm n S B) = 0 := det_row0 (r := piv.length) hl fun c hc => sm_zero' fun k hk => by
      rw [H.rest piv.length (Nat.le_refl _) hl k hk]; grind
    rw [this]; grind
  · rw [if_neg hl]
    have hl2 : piv.length = n := by have := H.le; omega
    have hS := full_id H hl2
    have : det n (mm n S B) = det n B := det_congr fun i c hi hc => by
      unfold mm
      rw [sm_one hi fun k hk hne => by rw [hS i k hi hk, if_neg (Ne.symm hne)]; grind, hS i i hi hi, if_pos rfl]; grind
    rw [this]
theorem det_gdet (n : Nat) (A : Mt) : det n A = gdet n A := by
  have h := det_mm (n := n) (A := A) (B := idm)
  have h1 : det n (mm n A idm) = det n A := det_congr fun i c hi hc => mm_one_r i hc
  have h2 : det n idm = 1 := det_id n fun i c hi hc => rfl
  rw [h1, h2] at h
  rw [h]; grind
end Go.S

end
section
set_option linter.unusedVariables false
set_option linter.unusedSimpArgs false
set_option maxRecDepth 100000
namespace Go.S
open Go Go.AM Go.RowKit Go.K
theorem s_square {t : List (List Rat)} (ht : t.length ≤ 1000000) : CP (CL F) 65 [eT t] = some (eI (if may t = true ∧ t.length = wide t then 0 else 8)) := by
  refine CP_X (F := F) (f := 65) rfl rfl ?_
  have h1 := s_Size t
  have h2 := s_Check (t := t) ht
  by_cases m : may t = true
  · rw [m, if_pos rfl] at h2
    by_cases e : t.length = wide t
    · rw [if_pos ⟨m, e⟩]
      have e2 : ¬ ((t.length : Int) ≠ (wide t : Int)) := by omega
      have e3 : ((t.length : Int) = (wide t : Int)) := by omega
      rw [e3] at h1
      clear e e2 e3 m
      have e2 : ¬ ((wide t : Int) ≠ (wide t : Int)) := fun h => h rfl
      refine go3 ?_
      trivial
    · rw [if_neg (fun h => e h.2)]
      have e2 : ((t.length : Int) ≠ (wide t : Int)) := by omega
      have e3 : ¬ ((t.length : Int) = (wide t : Int)) := by omega
      clear e m
      refine go3 ?_
      trivial
  · rw [if_neg m] at h2
    rw [if_neg (fun h => m h.1)]
    clear m
    refine go3 ?_
    trivial
abbrev aF (t : List (List Rat)) (l : List Int) (d : Rat) : AV := .fad (.agg [eT t, .lst (ui l), .bool (decide (d.num < 0)), eN (ab d.num), eN (d.den : Int)])
theorem frz_rows {H : Heap} {id v n : Nat} {t : List (List Rat)} (h : H[id]? = some (some ⟨v, 1, em eR t⟩)) (hn : t.length = n) (m : Nat) : Go.AM.frz H (m + 2) (.ref id v 1 0 n) = some (eT t) := by
  have b1 : blk H id v = some ⟨v, 1, em eR t⟩ := by
    unfold blk
    rw [h]
    exact if_pos rfl
  show (blk H id v).bind (fun b => ((sub b.xs 0 n).mapM (Go.AM.frz H (m + 1))).map AV.lst) = _
  rw [b1]
  show ((sub (em eR t) 0 n).mapM (Go.AM.frz H (m + 1))).map AV.lst = _
  rw [← hn, sub_full, mapM_some (G := fun x => x) _ fun x hx => by
    obtain ⟨r, _, rfl⟩ := List.mem_map.1 hx
    rfl]
  simp
theorem frz_ints {H : Heap} {id v n : Nat} {l : List Int} (h : H[id]? = some (some ⟨v, 1, ui l⟩)) (hn : l.length = n) (m : Nat) : Go.AM.frz H (m + 2) (.ref id v 1 0 n) = some (.lst (ui l)) := by
  have b1 : blk H id v = some ⟨v, 1, ui l⟩ := by
    unfold blk
    rw [h]
    exact if_pos rfl
  show (blk H id v).bind (fun b => ((sub b.xs 0 n).mapM (Go.AM.frz H (m + 1))).map AV.lst) = _
  rw [b1]
  show ((sub (ui l) 0 n).mapM (Go.AM.frz H (m + 1))).map AV.lst = _
  have e : sub (ui l) 0 n = ui l := by unfold sub; rw [List.drop_zero]; exact List.take_of_length_le (by simp [ui]; omega)
  rw [e, mapM_some (G := fun x => x) _ fun x hx => by
    obtain ⟨r, _, rfl⟩ := List.mem_map.1 hx
    rfl]
  simp
theorem s_run_pure {n c M : Nat} {A : Mt} (hn : 0 < n) (hn2 : n ≤ 200) (hc : c ≤ 200) (hM : M < 1000000) (hA : GB n c M A) :
    CP (CL F) 55 [eT (tab n c A)] = some (.tup [aF (tab n c (grun n A c).1) (ivl (grun n A c).2.1) (grun n A c).2.2, eI 0]) := by
  obtain ⟨x, b1, h, rfl, y, vt, pr, g, rfl, hp⟩ := s_run hn hn2 hc hM hA
  refine CP_raw b1 ?_
  have e1 : Go.AM.frz (some ⟨0, 5, [aW (.ref 2 vt 1 0 n) pr (grun n A c).2.2]⟩ :: y :: some ⟨vt, 1, em eR (tab n c (grun n A c).1)⟩ :: g) 4 (.ref 2 vt 1 0 n) = some (eT (tab n c (grun n A c).1)) := frz_rows rfl (tab_len _ _ _) 2
  have e2 : Go.AM.frz (some ⟨0, 5, [aW (.ref 2 vt 1 0 n) pr (grun n A c).2.2]⟩ :: y :: some ⟨vt, 1, em eR (tab n c (grun n A c).1)⟩ :: g) 4 pr = some (.lst (ui (ivl (grun n A c).2.1))) := by
    rcases hp with ⟨h1, rfl⟩ | ⟨vp, g1, g2, rfl, rfl⟩
    · rw [h1]; rfl
    · refine frz_ints ?_ (ivl_len _) 2
      show (g1 ++ some ⟨vp, 1, ui (ivl (grun n A c).2.1)⟩ :: g2)[g1.length]? = _
      rw [get_app0]; rfl
  generalize hH : (some ⟨0, 5, [aW (.ref 2 vt 1 0 n) pr (grun n A c).2.2]⟩ :: y :: some ⟨vt, 1, em eR (tab n c (grun n A c).1)⟩ :: g : Heap) = H at *
  have b2 : blk H 0 0 = some ⟨0, 5, [aW (.ref 2 vt 1 0 n) pr (grun n A c).2.2]⟩ := by subst hH; rfl
  have e3 : Go.AM.frz H 6 (.ptr 0 0 0 0) = some (aF (tab n c (grun n A c).1) (ivl (grun n A c).2.1) (grun n A c).2.2) := by
    show (if 0 = 0 then (blk H 0 0).bind fun b => (b.xs[0]?).bind fun e => (Go.AM.frz H 5 e).map AV.fad else none) = _
    rw [if_pos rfl, b2]
    show (Go.AM.frz H 5 (aW (.ref 2 vt 1 0 n) pr (grun n A c).2.2)).map AV.fad = _
    show ((([AV.ref 2 vt 1 0 n, pr, .bool (decide ((grun n A c).2.2.num < 0)), eN (ab (grun n A c).2.2.num), eN ((grun n A c).2.2.den : Int)].mapM (Go.AM.frz H 4)).map AV.agg)).map AV.fad = _
    rw [List.mapM_cons, e1, List.mapM_cons, e2]
    rfl
  show ([AV.ptr 0 0 0 0, eI 0].mapM (Go.AM.frz H 6)).map AV.tup = _
  rw [List.mapM_cons, e3]
  rfl
theorem s_run_pure0 : CP (CL F) 55 [.lst []] = some (.tup [aF [] [] 1, eI 0]) := CP_raw s_run0 rfl
theorem s_gDet {n M : Nat} {A : Mt} (hn2 : n ≤ 200) (hM : M < 1000000) (hA : GB n n M A) : CP (CL F) 22 [eT (tab n n A)] = some (.tup [eQ (gdet n A), eI 0]) := by
  have h1 := s_square (t := tab n n A) (by rw [tab_len]; omega)
  have hm := tab_may (A := A) hn2 hn2
  have hw : wide (tab n n A) = n := by
    rcases Nat.eq_zero_or_pos n with e | e
    · subst e; rfl
    · exact tab_wide e
  rw [if_pos ⟨hm, by rw [tab_len, hw]⟩] at h1
  have hl := tab_len n n A
  have h0 := s_rat_Of (a := 0) (by decide) (by decide)
  rw [show ((0 : Int) : Rat) = 0 from rfl] at h0
  have hr : CP (CL F) 55 [eT (tab n n A)] = some (.tup [aF (tab n n (grun n A n).1) (ivl (grun n A n).2.1) (grun n A n).2.2, eI 0]) := by
    rcases Nat.eq_zero_or_pos n with e | e
    · subst e; exact s_run_pure0
    · exact s_run_pure e hn2 hn2 hM hA
  have z3 := ivl_len (grun n A n).2.1
  have b0 : (false || true) = true := rfl
  have b1 : ∀ x : Bool, (true || x) = true := fun _ => rfl
  refine CP_X (F := F) (f := 22) rfl rfl ?_
  unfold gdet
  generalize (grun n A n).2.2 = d at *
  generalize (grun n A n).2.1 = piv at *
  generalize tab n n (grun n A n).1 = S at *
  generalize tab n n A = T at *
  by_cases hlt : piv.length < n
  · rw [if_pos hlt]
    have e1 := lt_c hlt
    clear hA hm hw hlt
    refine go3 ?_
    trivial
  · rw [if_neg hlt]
    have e1 : ¬ ((piv.length : Int) < (n : Int)) := by omega
    clear hA hm hw hlt
    refine go3 ?_
    trivial
theorem s_gDet_bad {t : List (List Rat)} (ht : t.length ≤ 1000000) (h : ¬ (may t = true ∧ t.length = wide t)) : CP (CL F) 22 [eT t] = some (.tup [.agg [.bool false, .lst [], .lst []], eI 8]) := by
  have h1 := s_square ht
  rw [if_neg h] at h1
  refine CP_X (F := F) (f := 22) rfl rfl ?_
  clear h
  refine go3 ?_
  trivial
end Go.S

end
section
set_option linter.unusedVariables false
set_option linter.unusedSimpArgs false
set_option maxRecDepth 100000
namespace Go.S
open Go Go.AM Go.RowKit Go.K
def dB (K : Nat) : Nat → Nat
  | 0 => 1
  | n + 1 => 1 + (n + 1) * (K + dB K n + 2)
theorem Lq_psg (j : Nat) : Lq (psg j) ≤ 1 := by
  unfold psg
  split
  · exact Lq_one
  · rw [show (-1 : Rat) = -(1 : Rat) from rfl, Lq_neg]; exact Lq_one
theorem sm_size {f : Nat → Rat} {M : Nat} : ∀ j, (∀ i, i < j → Lq (f i) ≤ M) → Lq (sm j f) ≤ 1 + j * (M + 1) := by
  intro j
  induction j with
  | zero => intro _; show Lq 0 ≤ _; have := Lq_zero; omega
  | succ j ih =>
    intro h
    have h1 := ih fun i hi => h i (by omega)
    have h2 := h j (by omega)
    have h3 := Lq_add (sm j f) (f j)
    show Lq (sm j f + f j) ≤ _
    rw [Nat.succ_mul]
    omega
theorem det_term {K n : Nat} {A : Mt} {j : Nat} (hj : Lq (A 0 j) ≤ K) (hd : Lq (det n (cut A j)) ≤ dB K n) : Lq (psg j * A 0 j * det n (cut A j)) ≤ K + dB K n + 1 := by
  have h1 := Lq_mul (psg j * A 0 j) (det n (cut A j))
  have h2 := Lq_mul (psg j) (A 0 j)
  have h3 := Lq_psg j
  omega
theorem det_size {K : Nat} : ∀ n {A : Mt}, (∀ i, i < n → ∀ c, c < n → Lq (A i c) ≤ K) → Lq (det n A) ≤ dB K n := by
  intro n
  induction n with
  | zero => intro A _; exact Lq_one
  | succ n ih =>
    intro A h
    rw [det_succ]
    have := sm_size (f := fun j => psg j * A 0 j * det n (cut A j)) (M := K + dB K n + 1) (n + 1) fun j hj => det_term (h 0 (by omega) j hj) (ih fun i hi c hc => h (i + 1) (by omega) (sk j c) (sk_lt hc))
    exact this
theorem rowf_cut {n j : Nat} (f : Nat → Rat) (hj : j < n + 1) : (rowf (n + 1) f).take j ++ (rowf (n + 1) f).drop (j + 1) = rowf n fun c => f (sk j c) := by
  rw [rowf_take (by omega), rowf_drop, rowf_app, show j + (n + 1 - (j + 1)) = n by omega]
  refine rowf_congr fun c hc => ?_
  unfold sk
  split
  · rfl
  · congr 1; omega
theorem s_refDet {K : Nat} : ∀ n {A : Mt}, n ≤ 100 → (∀ i, i < n → ∀ c, c < n → Lq (A i c) ≤ K) → K + dB K n < 10000000 → CP (CL F) 34 [rT (tab n n A)] = some (rQ (det n A)) := by
  intro n
  induction n with
  | zero =>
    intro A _ _ _
    refine CP_X (F := F) (f := 34) rfl rfl ?_
    have h1 := s_r08_Int (n := 1) (by decide) (by decide)
    rw [show ((1 : Int) : Rat) = 1 from rfl] at h1
    have h2 : em rR (tab 0 0 A) = [] := rfl
    have h3 : det 0 A = 1 := rfl
    refine go3 ?_
    trivial
  | succ n ih =>
    intro A hn hA hb
    have hdB : dB K (n + 1) = 1 + (n + 1) * (K + dB K n + 2) := rfl
    have hmono : K + dB K n + 2 ≤ (n + 1) * (K + dB K n + 2) := Nat.le_mul_of_pos_left _ (by omega)
    have ih' := fun j (hj : j < n + 1) => ih (A := cut A j) (by omega) (fun i hi c hc => hA (i + 1) (by omega) (sk j c) (sk_lt hc)) (by omega)
    have hds := fun j (hj : j < n + 1) => det_size n (A := cut A j) (fun i hi c hc => hA (i + 1) (by omega) (sk j c) (sk_lt hc))
    have hts := fun j (hj : j < n + 1) => det_term (hA 0 (by omega) j hj) (hds j hj)
    have hss := fun j (hj : j ≤ n + 1) => sm_size (f := fun j => psg j * A 0 j * det n (cut A j)) (M := K + dB K n + 1) j fun i hi => hts i (by omega)
    have hsb : ∀ j, j ≤ n + 1 → Lq (sm j fun j => psg j * A 0 j * det n (cut A j)) < 10000000 := fun j hj => by
      have h1 := hss j hj
      have h2 : j * (K + dB K n + 1 + 1) ≤ (n + 1) * (K + dB K n + 2) := Nat.mul_le_mul_right _ hj
      omega
    have hl := tab_len (n + 1) (n + 1) A
    have h1 := s_r08_Int (n := 1) (by decide) (by decide)
    have h0 := s_r08_Int (n := 0) (by decide) (by decide)
    rw [show ((0 : Int) : Rat) = 0 from rfl] at h0
    have hl0 : ¬ (((n + 1 : Nat) : Int) = 0) := by omega
    have hlt0 : ((0 : Int) < ((n + 1 : Nat) : Int)) := by omega
    have g0 := em_getN (f := rR) (tab (n + 1) (n + 1) A) 0 (by rw [tab_len]; omega)
    rw [tab_get (by omega)] at g0
    have gi : ∀ i, i < n + 1 → (em rR (tab (n + 1) (n + 1) A))[i]? = some (rR (rowf (n + 1) (A i))) := fun i hi => by
      have := em_getN (f := rR) (tab (n + 1) (n + 1) A) i (by rw [tab_len]; exact hi)
      rwa [tab_get hi] at this
    have rl0 := rowf_len (n + 1) (A 0)
    have gj : ∀ j, j < n + 1 → (em rQ (rowf (n + 1) (A 0)))[j]? = some (rQ (A 0 j)) := fun j hj => by
      have := em_getN (f := rQ) (rowf (n + 1) (A 0)) j (by rw [rowf_len]; exact hj)
      rwa [rowf_get hj] at this
    rw [det_succ]
    refine CP_X (F := F) (f := 34) rfl rfl ?_
    generalize tab (n + 1) (n + 1) A = T at *
    generalize hN : n + 1 = N at *
    clear ih hss
    refine go3 ?_
    refine X_up N (fun j s => ∃ j5 j6 j7 j16 j25 j30 j63 g, s = ⟨[(0, rT T), (2, .ptr 0 0 0 0), (3, .ptr 1 0 0 0), (4, eI j), (5, j5), (6, j6), (7, j7), (10, .bool false), (16, j16), (25, j25), (30, j30), (63, j63)], some ⟨0, 3, [.agg [.bool false, .nil, .nil]]⟩ :: some ⟨0, 3, [rQ (sm j fun j => psg j * A 0 j * det n (cut A j))]⟩ :: g⟩) ?_ ?_ 0 (Nat.zero_le _) _ ⟨_, _, _, _, _, _, _, [], rfl⟩
    · rintro j s hj ⟨j5, j6, j7, j16, j25, j30, j63, g, rfl⟩ rec
      have hlt := lt_c hj
      have hj1 : j < n + 1 := by omega
      have q1 := gj j hj
      have q2 := s_r08_Zero (A 0 j)
      have hsm : sm (j + 1) (fun j => psg j * A 0 j * det n (cut A j)) = sm j (fun j => psg j * A 0 j * det n (cut A j)) + psg j * A 0 j * det n (cut A j) := rfl
      have hS := hsb j (by omega)
      have hj6 : j < 9223372036854775807 := by omega
      have rlN : (rowf N (A 0)).length = N := rowf_len _ _
      rw [hsm] at rec
      generalize sm j (fun j => psg j * A 0 j * det n (cut A j)) = S at *
      by_cases hz : A 0 j = 0
      · rw [decide_eq_true hz] at q2
        have hs0 : S + psg j * A 0 j * det n (cut A j) = S := by rw [hz]; grind
        rw [hs0] at rec
        have hw := i64_nat hj6
        generalize rowf N (A 0) = r0 at *
        generalize A 0 j = x at *
        clear gi gj hsb hts hds ih' hA hz hs0 hsm hmono hdB
        refine go3 ?_
        exact rec _ ⟨_, _, _, _, _, _, _, _, rfl⟩
      · rw [decide_eq_false hz] at q2
        have hd := ih' j hj
        have hD := hds j hj
        have hx := hA 0 (by omega) j (by omega)
        have m1 := s_r08_Mul (a := A 0 j) (b := det n (cut A j)) (by omega) (by omega)
        have m2 := s_r08_Neg (A 0 j * det n (cut A j))
        have hxd := Lq_mul (A 0 j) (det n (cut A j))
        have rows : ∀ i, i < n → ∃ r, (em rR T)[i + 1]? = some (rR r) ∧ r.length = N ∧ r.take j ++ r.drop (j + 1) = (tab n n (cut A j)).getD i default := fun i hi => by
          refine ⟨rowf N (A (i + 1)), gi (i + 1) (by omega), rowf_len _ _, ?_⟩
          rw [tab_get hi, ← hN]
          exact rowf_cut (A (i + 1)) hj1
        have tl := tab_len n n (cut A j)
        have tr : ∀ i, i < n → ((tab n n (cut A j)).getD i default).length = n := fun i hi => by rw [tab_get hi, rowf_len]
        generalize tab n n (cut A j) = Sm at *
        generalize rowf N (A 0) = r0 at *
        generalize hdet : det n (cut A j) = D at *
        clear gi gj hsb hts hds ih' hA hsm
        refine go3 ?_
        refine X_up n (fun i s => ∃ j30 v g', s = ⟨[(0, rT T), (2, .ptr 0 0 0 0), (3, .ptr 1 0 0 0), (4, eI j), (5, .ref (g.length + 1 + 1) v 1 0 i), (6, eI (i + 1 : Nat)), (7, j7), (10, .bool false), (16, .bool true), (25, .bool false), (30, j30), (63, j63)], some ⟨0, 3, [.agg [.bool false, .nil, .nil]]⟩ :: some ⟨0, 3, [rQ S]⟩ :: (g ++ (some ⟨v, 1, em rR (Sm.take i)⟩ :: g'))⟩) ?_ ?_ 0 (Nat.zero_le _) _ ⟨_, _, [], rfl⟩
        · rintro i s hi ⟨j30, v, g', rfl⟩ rec2
          obtain ⟨r, u1, u2, u3⟩ := rows i hi
          have c1 : (((i + 1 : Nat) : Int) < (N : Int)) := by omega
          have c2 : ((j : Int) ≤ (N : Int)) := by omega
          have c4 : ((j + 1 : Nat) : Int) ≤ (N : Int) := by omega
          have tj : (List.take j r).length = j := by rw [List.length_take]; omega
          have td : (List.drop (j + 1) r).length = N - (j + 1) := by rw [List.length_drop]; omega
          have td2 : List.take (N - (j + 1)) (List.drop (j + 1) r) = List.drop (j + 1) r := take_len_g _ td.symm
          have tj2 : List.take j (List.take j r) = List.take j r := take_len_g _ tj.symm
          have tt : List.take (j + (N - (j + 1))) (List.take j r ++ List.drop (j + 1) r) = List.take j r ++ List.drop (j + 1) r := take_len_g _ (by rw [List.length_append, tj, td])
          have l1 : j ≤ 2513169434916 := by omega
          have l2 : j + (N - (j + 1)) ≤ 2513169434916 := by omega
          have hs := (take_succ_getD Sm i (by omega)).symm
          have tt2 : List.take (j + (N - (j + 1))) (Sm.getD i default) = Sm.getD i default := take_len_g _ (by rw [tr i hi]; omega)
          have hlen2 : (Sm.take i).length = i := by simp; omega
          have ht : List.take i (Sm.take i) = Sm.take i := take_len_g _ hlen2.symm
          have hi6 : i + 1 < 9223372036854775807 := by omega
          have hlim : i < 5864062014805 := by omega
          clear rec hlen2 rows tr
          have hw := i64_nat hi6
          have hwj := i64_nat hj6
          refine go3 ?_
          exact rec2 _ ⟨_, _, _, rfl⟩
        · rintro s ⟨j30, v, g', rfl⟩
          have c1 : ¬ ((N : Int) < (N : Int)) := nlt_c
          have ht : List.take n Sm = Sm := take_len_g _ tl.symm
          have lx : Lq (A 0 j * D) < 30000000 := by omega
          have ln : Lq (-(A 0 j * D)) < 30000000 := by rw [Lq_neg]; exact lx
          have hrem : Int.tmod (j : Int) 2 = ((j % 2 : Nat) : Int) := rfl
          have a1 := s_r08_Add (a := S) (b := A 0 j * D) (by omega) lx
          have a2 := s_r08_Add (a := S) (b := -(A 0 j * D)) (by omega) ln
          have hN0 : ((2 : Int) = 0) = False := by simp
          clear rows tr
          by_cases hp : j % 2 = 1
          · have e1 : (((j % 2 : Nat) : Int) = 1) := by omega
            have e2 : psg j * A 0 j * D = -(A 0 j * D) := by unfold psg; rw [if_neg (by omega)]; grind
            rw [e2] at rec
            have hw := i64_nat hj6
            generalize A 0 j * D = XD at *
            generalize A 0 j = x at *
            clear e2
            refine go3 ?_
            exact rec _ ⟨_, _, _, _, _, _, _, _, rfl⟩
          · have e1 : ¬ (((j % 2 : Nat) : Int) = 1) := by omega
            have e2 : psg j * A 0 j * D = A 0 j * D := by unfold psg; rw [if_pos (by omega)]; grind
            rw [e2] at rec
            have hw := i64_nat hj6
            generalize A 0 j * D = XD at *
            generalize A 0 j = x at *
            clear e2
            refine go3 ?_
            exact rec _ ⟨_, _, _, _, _, _, _, _, rfl⟩
    · rintro s ⟨j5, j6, j7, j16, j25, j30, j63, g, rfl⟩
      have hlt : ¬ ((N : Int) < (N : Int)) := nlt_c
      clear gi gj hsb hts hds ih' hA
      generalize sm N (fun j => psg j * A 0 j * det n (cut A j)) = S at *
      refine go3 ?_
      trivial
end Go.S

end
section
set_option linter.unusedVariables false
set_option linter.unusedSimpArgs false
namespace Go.S
def Agree (c : Nat) (A B : Mt) : Prop := ∀ r x, x < c → B r x = A r x
theorem fnd_agree {n c j a : Nat} {A B : Mt} (h : Agree c A B) (hj : j < c) (ha : a ≤ n) : fnd n B j a = fnd n A j a := by
  obtain ⟨k1, k2, k3, k4⟩ := fnd_spec (n := n) (A := A) (j := j) ha
  exact fnd_uniq k1 k2 (fun i h1 h2 => by rw [h i j hj]; exact k3 i h1 h2) fun hk => by rw [h _ j hj]; exact k4 hk
theorem gstep_agree {n c j : Nat} {A B : Mt} {piv : List Nat} {d : Rat} (h : Agree c A B) (hj : j < c) (ha : piv.length ≤ n) : Agree c (gstep n j (A, piv, d)).1 (gstep n j (B, piv, d)).1 ∧ (gstep n j (B, piv, d)).2 = (gstep n j (A, piv, d)).2 := by
  unfold gstep
  simp only
  rw [fnd_agree h hj ha]
  generalize fnd n A j piv.length = k at *
  by_cases hk : k = n
  · rw [if_pos hk, if_pos hk]; exact ⟨h, rfl⟩
  · rw [if_neg hk, if_neg hk]
    refine ⟨fun r x hx => ?_, ?_⟩
    · have hp : ∀ r x, x < c → pivR B piv.length k j r x = pivR A piv.length k j r x := fun r x hx => by
        unfold pivR setr swp
        by_cases e : r = piv.length
        · rw [if_pos e, if_pos e]
          show (B k j)⁻¹ * B k x = (A k j)⁻¹ * A k x
          rw [h k j hj, h k x hx]
        · rw [if_neg e, if_neg e, if_neg e, h _ x hx]
      simp only
      unfold elimTo
      rw [hp r x hx, hp r j hj, hp _ x hx]
    · simp only
      rw [h k j hj]
theorem grun_agree {n c : Nat} {A B : Mt} (h : Agree c A B) : ∀ j, j ≤ c → Agree c (grun n A j).1 (grun n B j).1 ∧ (grun n B j).2 = (grun n A j).2 := by
  intro j
  induction j with
  | zero => intro _; exact ⟨h, rfl⟩
  | succ j ih =>
    intro hj
    obtain ⟨h1, h2⟩ := ih (by omega)
    have hl := (grun_RR n A j).le
    show Agree c (gstep n j (grun n A j)).1 (gstep n j (grun n B j)).1 ∧ (gstep n j (grun n B j)).2 = (gstep n j (grun n A j)).2
    generalize grun n A j = s at *
    generalize grun n B j = s' at *
    obtain ⟨A', p, d⟩ := s
    obtain ⟨B', p', d'⟩ := s'
    simp only [Prod.mk.injEq] at h2
    obtain ⟨rfl, rfl⟩ := h2
    exact gstep_agree h1 (by omega) hl
def bes (n : Nat) (A : Mt) : Mt := fun i c => if c < n then A i c else idm i (c - n)
theorem bes_agree (n : Nat) (A : Mt) : Agree n A (bes n A) := fun r x hx => by unfold bes; rw [if_pos hx]
def invM (n : Nat) (A : Mt) : Mt := fun i c => (grun n (bes n A) n).1 i (n + c)
theorem inv_full {n : Nat} {A : Mt} (hf : (grun n A n).2.1.length = n) : ∀ i c, i < n → c < n → (grun n (bes n A) n).1 i c = if i = c then 1 else 0 := by
  have h := (grun_agree (n := n) (bes_agree n A) n (Nat.le_refl _)).2
  refine full_id (grun_RR n (bes n A) n) ?_
  rw [h]; exact hf
theorem inv_left {n : Nat} {A : Mt} (hf : (grun n A n).2.1.length = n) : ∀ i c, i < n → c < n → mm n (invM n A) A i c = idm i c := by
  have hI := inv_full hf
  intro i c hi hc
  have S : Sub (fun f => f c = sm n fun k => f (n + k) * A k c) := ⟨fun f g k h1 h2 => by
      rw [sm_congr (g := fun x => f (n + x) * A x c + k * (g (n + x) * A x c)) fun x _ => by grind, sm_add, sm_mul, ← h1, ← h2], fun f k h => by
      rw [sm_congr (g := fun x => k * (f (n + x) * A x c)) fun x _ => by grind, sm_mul, ← h]⟩
  have h0 : ∀ i, i < n → bes n A i c = sm n fun k => bes n A i (n + k) * A k c := fun i hi => by
    rw [sm_one hi fun k hk hne => by
      unfold bes idm
      rw [if_neg (by omega), if_neg (by omega)]; grind]
    unfold bes idm
    rw [if_pos hc, if_neg (by omega), if_pos (by omega)]; grind
  have h1 := ((grun_Rop n (bes n A) n).sub S).1 h0 i hi
  rw [hI i c hi hc] at h1
  exact h1.symm
theorem inv_right {n : Nat} {A : Mt} (hf : (grun n A n).2.1.length = n) : ∀ i c, i < n → c < n → mm n A (invM n A) i c = idm i c := by
  have hI := inv_full hf
  intro i c hi hc
  have S : Sub (fun f => f (n + c) = sm n fun y => f y * invM n A y c) := ⟨fun f g k h1 h2 => by
      rw [sm_congr (g := fun x => f x * invM n A x c + k * (g x * invM n A x c)) fun x _ => by grind, sm_add, sm_mul, ← h1, ← h2], fun f k h => by
      rw [sm_congr (g := fun x => k * (f x * invM n A x c)) fun x _ => by grind, sm_mul, ← h]⟩
  have h0 : ∀ i, i < n → (grun n (bes n A) n).1 i (n + c) = sm n fun y => (grun n (bes n A) n).1 i y * invM n A y c := fun i hi => by
    rw [sm_one hi fun k hk hne => by rw [hI i k hi hk, if_neg (Ne.symm hne)]; grind, hI i i hi hi, if_pos rfl]
    unfold invM; grind
  have h1 := ((grun_Rop n (bes n A) n).sub S).2 h0 i hi
  have e1 : bes n A i (n + c) = idm i c := by
    unfold bes
    rw [if_neg (by omega), Nat.add_sub_cancel_left]
  rw [e1] at h1
  rw [h1]
  exact sm_congr fun y hy => by unfold bes; rw [if_pos hy]
theorem gdet_zero {n : Nat} {A : Mt} : gdet n A = 0 ↔ (grun n A n).2.1.length < n := by
  unfold gdet
  constructor
  · intro h
    by_cases hl : (grun n A n).2.1.length < n
    · exact hl
    · rw [if_neg hl] at h
      have hl2 : (grun n A n).2.1.length = n := by have := (grun_RR n A n).le; omega
      have h1 := det_mm (n := n) (A := invM n A) (B := A)
      have h2 : det n (mm n (invM n A) A) = 1 := det_id n fun i c hi hc => inv_left hl2 i c hi hc
      have h3 : det n A = 0 := by rw [det_gdet]; unfold gdet; rw [if_neg hl]; exact h
      rw [h2, h3] at h1
      have h4 : (1 : Rat) = 0 := by rw [h1]; grind
      exact absurd h4 (by decide)
  · intro h; rw [if_pos h]
end Go.S

end
section
set_option linter.unusedVariables false
set_option linter.unusedSimpArgs false
set_option maxRecDepth 100000
namespace Go.S
open Go Go.AM Go.RowKit Go.K
theorem s_Grow {n : Nat} (hn : 0 < n) (hn2 : n ≤ 1000000) (h : Heap) : CL F 122 [.nil, eI n] h = some (.ref h.length 0 3 0 0, h ++ [some ⟨0, 3, List.replicate n zQ⟩]) := by
  refine CL_X (F := F) (f := 122) rfl rfl ?_
  have h1 : ¬ ((n : Int) < 0) := by omega
  have h2 : ((0 : Int) < (n : Int)) := by omega
  have h3 : (n : Int) ≤ 2513169434916 := by omega
  have h4 : n ≤ 2513169434916 := by omega
  have h5 : (List.replicate n zQ).isEmpty = false := by cases n with | zero => omega | succ n => rfl
  have h6 : okS 3 (List.replicate n zQ) = true := by
    unfold okS
    rw [List.all_eq_true]
    intro x hx
    rw [List.eq_of_mem_replicate hx]; rfl
  have h7 : (List.replicate n zQ).length = n := by simp
  have w1 : wrap64 (-0) = 0 := by rw [Int.neg_zero, w64 (by omega) (by omega)]
  have w2 : wrap64 ((n : Int) - 0) = n := by rw [Int.sub_zero, w64 (by omega) (by omega)]
  refine go3 ?_
  trivial
theorem s_Grow0 (h : Heap) : CL F 122 [.nil, eI 0] h = some (.nil, h) := by
  refine CL_X (F := F) (f := 122) rfl rfl ?_
  have w1 : wrap64 (-0) = 0 := by rw [Int.neg_zero, w64 (by omega) (by omega)]
  have w2 : wrap64 (0 - 0) = 0 := by rw [show (0 : Int) - 0 = 0 from rfl, w64 (by omega) (by omega)]
  refine go3 ?_
  trivial
theorem s_Concat0 : CP (CL F) 82 [.lst [.lst [], .lst []]] = some (.lst []) := by
  refine CP_X (F := F) (f := 82) rfl rfl ?_
  have gr := s_Grow0 []
  have w0 : wrap64 (0 + 0) = 0 := by rw [show (0 : Int) + 0 = 0 from rfl, w64 (by omega) (by omega)]
  have w1 : wrap64 (0 + 1) = 1 := by rw [show (0 : Int) + 1 = 1 from rfl, w64 (by omega) (by omega)]
  have w2 : wrap64 (1 + 1) = 2 := by rw [show (1 : Int) + 1 = 2 from rfl, w64 (by omega) (by omega)]
  refine go3 ?_
  refine X_round ?_
  refine go3 ?_
  refine X_round ?_
  refine go3 ?_
  refine X_round ?_
  refine go3 ?_
  refine X_round ?_
  refine go3 ?_
  refine X_round ?_
  refine go3 ?_
  refine X_round ?_
  refine go3 ?_
  trivial
theorem s_Concat {a b : List Rat} (ha : a.length ≤ 1000) (hb : b.length ≤ 1000) : CP (CL F) 82 [.lst (em eR [a, b])] = some (eR (a ++ b)) := by
  have g0 : (em eR [a, b])[0]? = some (eR a) := rfl
  have g1 : (em eR [a, b])[1]? = some (eR b) := rfl
  have hl : (em eR [a, b]).length = 2 := rfl
  have c1 : ¬ ((a.length : Int) < 0) := by omega
  have c2 : ¬ (((a.length + b.length : Nat) : Int) < 0) := by omega
  have l1 : a.length ≤ 2513169434916 := by omega
  have l2 : a.length + b.length ≤ 2513169434916 := by omega
  have l3 : b.length ≤ 2513169434916 := by omega
  have ht : List.take (a.length + b.length) (a ++ b) = a ++ b := take_len_g _ (by simp)
  have ht1 : List.take a.length a = a := List.take_length
  have w1 : wrap64 (0 + 1) = 1 := by rw [show (0 : Int) + 1 = 1 from rfl, w64 (by omega) (by omega)]
  have w2 : wrap64 (1 + 1) = 2 := by rw [show (1 : Int) + 1 = 2 from rfl, w64 (by omega) (by omega)]
  have w3 : wrap64 (0 + (a.length : Int)) = a.length := by rw [Int.zero_add, w64 (by omega) (by omega)]
  have w4 : wrap64 ((a.length : Int) + (b.length : Int)) = ((a.length + b.length : Nat) : Int) := by rw [w64 (by omega) (by omega)]; omega
  rcases Nat.eq_zero_or_pos (a.length + b.length) with e | e
  · have ea : a = [] := List.eq_nil_of_length_eq_zero (by clear w1 w2 w3 w4; omega)
    have eb : b = [] := List.eq_nil_of_length_eq_zero (by clear w1 w2 w3 w4; omega)
    subst ea
    subst eb
    exact s_Concat0
  · refine CP_X (F := F) (f := 82) rfl rfl ?_
    have gr := s_Grow e (by clear w1 w2 w3 w4; omega) []
    have hne : a = [] → (em eQ b).isEmpty = false := fun h => by
      subst h
      cases b with
      | nil => simp at e
      | cons x b => rfl
    have z0 : ∀ xs : List AV, sub xs 0 0 = [] := fun xs => by simp [sub]
    have z1 := sub_full (f := eQ) a
    clear e
    refine go3 ?_
    refine X_round ?_
    refine go3 ?_
    refine X_round ?_
    refine go3 ?_
    refine X_round ?_
    refine go3 ?_
    refine X_round ?_
    refine go3 ?_
    refine X_round ?_
    refine go3 ?_
    refine X_round ?_
    refine go3 ?_
    trivial
end Go.S

end
section
set_option linter.unusedVariables false
set_option linter.unusedSimpArgs false
set_option maxRecDepth 100000
namespace Go.S
open Go Go.AM Go.RowKit Go.K
theorem s_findI {n c : Nat} {A : Mt} {d : Rat} {pr : AV} {g0 : Heap} {vt : Nat} {g : Heap} {a j : Nat} (ha : a ≤ n) (hn : n ≤ 1000000) (hj : j < c) :
    CL F 123 [.ptr (g0.length + 1) 0 0 0, eI a, eI j] (some ⟨vt, 1, em eR (tab n c A)⟩ :: (g0 ++ some ⟨0, 5, [aW (.ref 0 vt 1 0 n) pr d]⟩ :: g)) = some (eI (fnd n A j a), (some ⟨vt, 1, em eR (tab n c A)⟩ :: (g0 ++ some ⟨0, 5, [aW (.ref 0 vt 1 0 n) pr d]⟩ :: g))) := by
  refine CL_X (F := F) (f := 123) rfl rfl ?_
  obtain ⟨k1, k2, k3, k4⟩ := fnd_spec (n := n) (A := A) (j := j) ha
  generalize hk : fnd n A j a = k at *
  have hl : (em eR (tab n c A)).length = n := by rw [em_len, tab_len]
  refine go3 ?_
  refine X_upto (k - a) (fun i s => ∃ j15 j29, s = ⟨[(0, .ptr (g0.length + 1) 0 0 0), (1, eI a), (2, eI j), (6, eI 0), (7, eI (a + i : Nat)), (15, j15), (29, j29)], (some ⟨vt, 1, em eR (tab n c A)⟩ :: (g0 ++ some ⟨0, 5, [aW (.ref 0 vt 1 0 n) pr d]⟩ :: g))⟩) ?_ 0 (Nat.zero_le _) _ ⟨_, _, rfl⟩
  rintro i s hi ⟨j15, j29, rfl⟩ rec
  by_cases hin : a + i < n
  · have g1 := em_getN (f := eR) (tab n c A) (a + i) (by rw [tab_len]; exact hin)
    rw [tab_get hin] at g1
    have g2 := em_getN (f := eQ) (rowf c (A (a + i))) j (by rw [rowf_len]; exact hj)
    rw [rowf_get hj] at g2
    have hrl := rowf_len c (A (a + i))
    have sg := s_rat_Sign (A (a + i) j)
    have c1 : (((a + i : Nat) : Int) < (n : Int)) := by omega
    have c2 : ((j : Int) < (c : Int)) := by omega
    by_cases e : i < k - a
    · have z : A (a + i) j = 0 := k3 (a + i) (by omega) (by omega)
      have z2 : sgn (A (a + i) j).num = 0 := (sgn_num_zero _).2 z
      rw [z2] at sg
      have hw : wrap64 (((a + i : Nat) : Int) + 1) = ((a + (i + 1) : Nat) : Int) := i64_nat (by omega)
      generalize A (a + i) j = y at *
      generalize rowf c (A (a + i)) = r at *
      generalize a + i = ai at *
      clear hk k1 k2 k3 k4 z z2 hi
      refine go3 ?_
      exact rec _ e ⟨_, _, rfl⟩
    · have hik : a + i = k := by omega
      have z : A (a + i) j ≠ 0 := by rw [hik]; exact k4 (by omega)
      have z2 : ¬ (sgn (A (a + i) j).num = 0) := fun h => z ((sgn_num_zero _).1 h)
      subst hik
      generalize A (a + i) j = y at *
      generalize rowf c (A (a + i)) = r at *
      generalize a + i = ai at *
      clear hk k1 k2 k3 k4 z hi rec e
      refine go3 ?_
      trivial
  · have hik : a + i = k := by omega
    have hkn : k = n := by omega
    have c1 : ¬ (((a + i : Nat) : Int) < (n : Int)) := by omega
    subst hkn
    rw [hik] at c1
    rw [hik]
    clear hk k1 k2 k3 k4 hi rec hik hin ha hj
    refine go3 ?_
    trivial
theorem s_swapI {n c : Nat} {A : Mt} {d : Rat} {pr : AV} {g0 : Heap} {vt : Nat} {g : Heap} {a k : Nat} (ha : a < n) (hk : k < n) (hd : Lq d < 100000000) :
    CL F 124 [.ptr (g0.length + 1) 0 0 0, eI a, eI k] (some ⟨vt, 1, em eR (tab n c A)⟩ :: (g0 ++ some ⟨0, 5, [aW (.ref 0 vt 1 0 n) pr d]⟩ :: g)) = some (.tup [], (some ⟨vt, 1, em eR (tab n c (swp A a k))⟩ :: (g0 ++ some ⟨0, 5, [aW (.ref 0 vt 1 0 n) pr (if a = k then d else -d)]⟩ :: g))) := by
  refine CL_X (F := F) (f := 124) rfl rfl ?_
  by_cases e : a = k
  · subst e
    rw [if_pos rfl, swp_self]
    refine go3 ?_
    trivial
  · rw [if_neg e]
    have e1 : ¬ ((a : Int) = (k : Int)) := by omega
    have g1 := em_getN (f := eR) (tab n c A) a (by rw [tab_len]; exact ha)
    have g2 := em_getN (f := eR) (tab n c A) k (by rw [tab_len]; exact hk)
    rw [tab_get ha] at g1
    rw [tab_get hk] at g2
    have s1 : ((tab n c A).set a (rowf c (A k))).set k (rowf c (A a)) = tab n c (swp A a k) := by
      rw [tab_set ha, tab_set hk]
      refine congrArg (tab n c) ?_
      funext i y
      unfold setr swp
      by_cases h1 : i = k
      · subst h1; rw [if_pos rfl, if_neg (Ne.symm e), if_pos rfl]
      · rw [if_neg h1]
        by_cases h2 : i = a
        · subst h2; rw [if_pos rfl, if_pos rfl]
        · rw [if_neg h2, if_neg h2, if_neg h1]
    have g3 : (em eR ((tab n c A).set a (rowf c (A k))))[k]? = some (eR (rowf c (A k))) := by
      rw [← em_set, List.getElem?_set_ne e]; exact g2
    have c1 : ((a : Int) < (n : Int)) := by omega
    have c2 : ((k : Int) < (n : Int)) := by omega
    have hl : (em eR (tab n c A)).length = n := by rw [em_len, tab_len]
    have nn := s_rat_Neg hd
    generalize rowf c (A k) = rk at *
    generalize rowf c (A a) = ra at *
    generalize tab n c (swp A a k) = T2 at *
    generalize tab n c A = T1 at *
    clear e
    refine go3 ?_
    trivial
def PVI (g0 g : Heap) (piv : List Nat) (pr : AV) : Prop := (piv = [] ∧ pr = .nil) ∨ ∃ vp g1 g2, g = g1 ++ some ⟨vp, 1, ui (ivl piv)⟩ :: g2 ∧ pr = .ref (g0.length + (g1.length + 1) + 1) vp 1 0 piv.length
theorem PVI.len {g0 g : Heap} {piv : List Nat} {pr : AV} (h : PVI g0 g piv pr) : lenA false pr = some (eI piv.length) := by
  rcases h with ⟨rfl, rfl⟩ | ⟨vp, g1, g2, _, rfl⟩ <;> rfl
def WHI (g0 : Heap) (n c : Nat) (s : Mt × List Nat × Rat) (h : Heap) : Prop := ∃ vt pr g, h = (some ⟨vt, 1, em eR (tab n c s.1)⟩ :: (g0 ++ some ⟨0, 5, [aW (.ref 0 vt 1 0 n) pr s.2.2]⟩ :: g)) ∧ PVI g0 g s.2.1 pr
theorem s_stepI {g0 : Heap} {n c j : Nat} {s : Mt × List Nat × Rat} {h : Heap} (H : WHI g0 n c s h) (hn : n ≤ 1000) (hc : c ≤ 1000) (hj : j < c) (hle : s.2.1.length ≤ n) {M : Nat} (hM : M < 1000000) (hA : ∀ r, r < n → ∀ y, y < c → Lq (s.1 r y) ≤ M) (hd : Lq s.2.2 < 10000000) :
    ∃ x, CL F 83 [.ptr (g0.length + 1) 0 0 0, eI j] h = some x ∧ ∃ h', x = (.tup [], h') ∧ WHI g0 n c (gstep n j s) h' := by
  obtain ⟨A, piv, d⟩ := s
  obtain ⟨vt, pr, g, rfl, hpv⟩ := H
  simp only at hpv hle hA hd
  have hlen := hpv.len
  unfold lenA at hlen
  refine CL_XE (F := F) (f := 83) rfl rfl ?_
  obtain ⟨k1, k2, k3, k4⟩ := fnd_spec (n := n) (A := A) (j := j) hle
  have hf := s_findI (n := n) (c := c) (A := A) (d := d) (pr := pr) (g0 := g0) (vt := vt) (g := g) (a := piv.length) (j := j) hle (by omega) hj
  have hgs : gstep n j (A, piv, d) = if fnd n A j piv.length = n then (A, piv, d) else (elimTo (pivR A piv.length (fnd n A j piv.length) j) piv.length j n, piv ++ [j], (if piv.length = fnd n A j piv.length then d else -d) * A (fnd n A j piv.length) j) := rfl
  rw [hgs]
  clear hgs
  generalize fnd n A j piv.length = k at *
  by_cases hk : k = n
  · subst hk
    rw [if_pos rfl]
    clear k1 k2 k3 k4 hA hd hle
    refine go3 ?_
    exact ⟨_, rfl, _, rfl, _, _, _, rfl, hpv⟩
  · rw [if_neg hk]
    have hkn : k < n := by omega
    have hp := k4 hkn
    have hkc : ¬ ((k : Int) = (n : Int)) := by omega
    generalize ha : piv.length = a at *
    have han : a < n := by omega
    have hs := s_swapI (n := n) (c := c) (A := A) (d := d) (pr := pr) (g0 := g0) (vt := vt) (g := g) (a := a) (k := k) han hkn (by omega)
    have hdd : Lq (if a = k then d else -d) < 10000000 := by
      split
      · exact hd
      · rw [Lq_neg]; exact hd
    generalize (if a = k then d else -d) = d1 at *
    have hB : swp A a k a = A k := by unfold swp; rw [if_pos rfl]
    have hrow : rowf c (swp A a k a) = rowf c (A k) := by rw [hB]
    have g1 := em_getN (f := eR) (tab n c (swp A a k)) a (by rw [tab_len]; exact han)
    rw [tab_get han, hrow] at g1
    have g2 := em_getN (f := eQ) (rowf c (A k)) j (by rw [rowf_len]; exact hj)
    rw [rowf_get hj] at g2
    have m1 := s_rat_Mul (a := d1) (b := A k j) (by omega) (by have := hA k hkn j hj; omega)
    have m2 := s_rat_Inv (a := A k j) hp (by have := hA k hkn j hj; omega)
    have m3 := s_vect_Scale (l := rowf c (A k)) (c := (A k j)⁻¹) (by rw [rowf_len]; omega) (M := M) (by omega) (fun q hq => by
      obtain ⟨y, hy, rfl⟩ := mem_rowf.1 hq
      exact hA k hkn y hy) (by
      have := hA k hkn j hj
      have := Lq_inv (A k j) hp
      omega)
    have e1 : (rowf c (A k)).map (· * (A k j)⁻¹) = rowf c fun x => (A k j)⁻¹ * A k x := by
      rw [rowf_map]
      exact rowf_congr fun y _ => Rat.mul_comm _ _
    rw [e1] at m3
    have s1 : (tab n c (swp A a k)).set a (rowf c fun x => (A k j)⁻¹ * A k x) = tab n c (pivR A a k j) := tab_set han
    have c1 : ((a : Int) < (n : Int)) := by omega
    have c2 : ((j : Int) < (c : Int)) := by omega
    have hrl := rowf_len c (A k)
    have hl : (em eR (tab n c (swp A a k))).length = n := by rw [em_len, tab_len]
    have bn : ∀ r, r < n → r ≠ a → ∀ y, y < c → Lq (pivR A a k j r y) ≤ M := fun r hr hne y hy => by
      unfold pivR setr
      rw [if_neg hne]
      unfold swp
      rw [if_neg hne]
      split
      · exact hA a han y hy
      · exact hA r hr y hy
    have ba : ∀ y, y < c → Lq (pivR A a k j a y) ≤ 2 * M := fun y hy => by
      unfold pivR setr
      rw [if_pos rfl]
      have := hA k hkn y hy
      have := hA k hkn j hj
      have := Lq_inv (A k j) hp
      have := Lq_mul (A k j)⁻¹ (A k y)
      show Lq ((A k j)⁻¹ * A k y) ≤ 2 * M
      omega
    generalize (A k j)⁻¹ = iv at *
    generalize A k j = p at *
    generalize rowf c (A k) = rk at *
    generalize rowf c (fun x => iv * A k x) = rs at *
    generalize tab n c (swp A a k) = T1 at *
    generalize pivR A a k j = E at *
    clear hk k1 k2 k3 k4 hA hd hdd hle hp hB hrow e1 hkn
    refine go3 ?_
    refine X_up n (fun i s => ∃ j9 j75 j93 g', s = ⟨[(0, .ptr (g0.length + 1) 0 0 0), (1, eI j), (4, eI a), (5, eI k), (6, .ptr (g0.length + (g.length + 1) + 1) 0 0 0), (7, .ptr (g0.length + (g.length + 1 + 1) + 1) 0 0 0), (9, j9), (25, .bool false), (73, eI n), (74, eI i), (75, j75), (93, j93)], (some ⟨vt, 1, em eR (tab n c (elimTo E a j i))⟩ :: (g0 ++ some ⟨0, 5, [.agg [.ref 0 vt 1 0 n, pr, .bool (decide ((d1 * p).num < 0)), eN (ab (d1 * p).num), eN (d1 * p).den]]⟩ :: (g ++ g')))⟩) ?_ ?_ 0 (Nat.zero_le _) _ ⟨_, _, _, _, by rw [elimTo_zero]; rfl⟩
    · rintro i s hi ⟨j9, j75, j93, g', rfl⟩ rec
      have hlt := lt_c hi
      have hl := (em_len (f := eR) (tab n c (elimTo E a j i))).trans (tab_len n c _)
      have hi6 : i < 9223372036854775807 := by omega
      by_cases hia : i = a
      · subst hia
        rw [elimTo_self] at rec
        have c3 : ¬ ((i : Int) ≠ (i : Int)) := by omega
        have hw := i64_nat hi6
        clear bn ba hf hs
        refine go3 ?_
        exact rec _ ⟨_, _, _, _, rfl⟩
      · have c3 : ((i : Int) ≠ (a : Int)) := by omega
        have c4 : ¬ ((i : Int) = (a : Int)) := by omega
        have q1 := em_getN (f := eR) (tab n c (elimTo E a j i)) i (by rw [tab_len]; exact hi)
        rw [tab_get hi, elimTo_ge E (Nat.le_refl i)] at q1
        have q2 := em_getN (f := eQ) (rowf c (E i)) j (by rw [rowf_len]; exact hj)
        rw [rowf_get hj] at q2
        have q3 := em_getN (f := eR) (tab n c (elimTo E a j i)) a (by rw [tab_len]; exact han)
        rw [tab_get han, elimTo_at] at q3
        have q4 := s_rat_Sign (E i j)
        have rl1 := rowf_len c (E i)
        have b1 := bn i hi hia
        by_cases hz : E i j = 0
        · have q5 : sgn (E i j).num = 0 := (sgn_num_zero _).2 hz
          have q6 : tab n c (elimTo E a j i) = tab n c (elimTo E a j (i + 1)) := tab_congr fun r hr y hy => by
            rw [elimTo_succ E hia]
            unfold setr
            split
            · next e =>
              rw [e, hz]
              grind
            · rfl
          rw [q5] at q4
          rw [← q6] at rec
          generalize tab n c (elimTo E a j i) = T2 at *
          generalize rowf c (E i) = ri at *
          generalize rowf c (E a) = ra at *
          generalize E i j = z at *
          have hw := i64_nat hi6
          clear bn ba hf hs hz b1 q6
          refine go3 ?_
          exact rec _ ⟨_, _, _, _, rfl⟩
        · have q5 : ¬ (sgn (E i j).num = 0) := fun h => hz ((sgn_num_zero _).1 h)
          have q6 := s_vect_Less (a := rowf c (E i)) (b := rowf c (E a)) (k := E i j) (by rw [rowf_len]; omega) (by rw [rowf_len, rowf_len]) (M := 2 * M) (by omega) (fun q hq => by
            obtain ⟨y, hy, rfl⟩ := mem_rowf.1 hq
            have := b1 y hy
            omega) (fun q hq => by
            obtain ⟨y, hy, rfl⟩ := mem_rowf.1 hq
            exact ba y hy) (by have := b1 j hj; omega)
          have q7 : (tab n c (elimTo E a j i)).set i (lessR (rowf c (E i)) (E i j) (rowf c (E a))) = tab n c (elimTo E a j (i + 1)) := by
            have e : lessR (rowf c (E i)) (E i j) (rowf c (E a)) = rowf c fun x => elimTo E a j i i x + -(E i j) * elimTo E a j i a x := by
              unfold lessR
              rw [rowf_zip, elimTo_ge E (Nat.le_refl i), elimTo_at]
              exact rowf_congr fun y _ => by grind
            rw [e, elimTo_succ E hia, tab_set hi]
          generalize lessR (rowf c (E i)) (E i j) (rowf c (E a)) = rn at *
          generalize tab n c (elimTo E a j (i + 1)) = T3 at *
          generalize tab n c (elimTo E a j i) = T2 at *
          generalize rowf c (E i) = ri at *
          generalize rowf c (E a) = ra at *
          generalize E i j = z at *
          have hw := i64_nat hi6
          clear bn ba hf hs hz b1
          refine go3 ?_
          exact rec _ ⟨_, _, _, _, rfl⟩
    · rintro s ⟨j9, j75, j93, g', rfl⟩
      have hlt : ¬ ((n : Int) < (n : Int)) := nlt_c
      have hi6 : piv.length + 1 < 17592186044416 := by omega
      rcases hpv with ⟨rfl, rfl⟩ | ⟨vp, g1, g2, rfl, rfl⟩
      · have z1 : (ui [(j : Int)]).isEmpty = false := rfl
        clear bn ba hf hs
        refine go3 ?_
        exact ⟨_, rfl, _, rfl, _, _, _, rfl, .inr ⟨0, g ++ (g' ++ [some ⟨0, 1, ui [(j : Int)]⟩]), [], by simp [ivl], by simp⟩⟩
      · have z1 : (ui [(j : Int)]).isEmpty = false := rfl
        have z2 : (ivl piv).length = a := by rw [ivl_len, ha]
        have z3 := ivl_snoc piv j
        have z4 : List.take a (ivl piv) = ivl piv := take_len_g _ z2.symm
        rw [ha] at hi6
        have z5 : (piv ++ [j]).length = a + 1 := by simp [ha]
        clear bn ba hf hs
        refine go3 ?_
        exact ⟨_, rfl, _, rfl, _, _, _, rfl, .inr ⟨vp + 1, g1, _, by rw [z3], by rw [z5]⟩⟩
end Go.S

end
section
set_option linter.unusedVariables false
set_option linter.unusedSimpArgs false
set_option maxRecDepth 100000
namespace Go.S
open Go Go.AM Go.RowKit Go.K
theorem s_Inverse_bad {t : List (List Rat)} (ht : t.length ≤ 1000000) (h : ¬ (may t = true ∧ t.length = wide t)) : CP (CL F) 33 [eT t] = some (.tup [.lst [], eI 8]) := by
  have h1 := s_square ht
  rw [if_neg h] at h1
  refine CP_X (F := F) (f := 33) rfl rfl ?_
  clear h
  refine go3 ?_
  trivial
theorem s_Inverse_rank {t : List (List Rat)} {r : Int} (ht : t.length ≤ 1000000) (h : may t = true ∧ t.length = wide t) (hr : CP (CL F) 13 [eT t] = some (.tup [.int .i64 r, eI 0])) (hlt : r < t.length) : CP (CL F) 33 [eT t] = some (.tup [.lst [], eI 7]) := by
  have h1 := s_square ht
  rw [if_pos h] at h1
  refine CP_X (F := F) (f := 33) rfl rfl ?_
  clear h
  refine go3 ?_
  trivial
theorem bes_row {n i : Nat} {A : Mt} : rowf n (A i) ++ rowf n (idm i) = rowf (n + n) (bes n A i) := rowf_app n n (A i) (idm i)
def mixT (n : Nat) (S : Mt) (i : Nat) : List (List Rat) := (tab n n fun i c => S i (n + c)).take i ++ (tab n (n + n) S).drop i
theorem s_Inverse {n M : Nat} {A : Mt} (hn : 0 < n) (hn2 : n ≤ 100) (hM : M < 1000000) (hB : GB n (n + n) M (bes n A)) (hr : CP (CL F) 13 [eT (tab n n A)] = some (.tup [eI n, eI 0])) :
    CP (CL F) 33 [eT (tab n n A)] = some (.tup [eT (tab n n (invM n A)), eI 0]) := by
  have h1 := s_square (t := tab n n A) (by rw [tab_len]; omega)
  rw [if_pos ⟨tab_may (by omega) (by omega), by rw [tab_len, tab_wide hn]⟩] at h1
  have hid := s_Ident (n := n) (by omega)
  rw [ident_tab] at hid
  have h2 : n ≤ 11728124029610 := by omega
  have hl := tab_len n n A
  have hnn : ¬ ((n : Int) < (n : Int)) := nlt_c
  have ho := s_rat_Of (a := 1) (by decide) (by decide)
  rw [show ((1 : Int) : Rat) = 1 from rfl] at ho
  have fp : ∀ (a b : List Rat) (h : Heap), fzR (Go.AM.frz h 6) (some (some ⟨0, 1, [eR a, eR b]⟩)) 0 0 2 = some (.lst (em eR [a, b])) := fun a b h => em_fz6 (h := h) (v := 0) (off := 0) (len := 2) E_eR [a, b]
  have up : ∀ (a b : List Rat) (h : Heap) (i : Nat), usR (used h 6) (some (some ⟨0, 1, [eR a, eR b]⟩)) i 0 0 2 = [i] := fun a b h i => em_us6 (h := h) (id := i) (v := 0) (off := 0) (len := 2) E_eR [a, b]
  have rows : ∀ i, i < n → ∃ x y z, (em eR (tab n n A))[i]? = some (eR x) ∧ (em eR (tab n n idm))[i]? = some (eR y) ∧ CP (CL F) 82 [.lst (em eR [x, y])] = some (eR z) ∧ (tab n (n + n) (bes n A)).getD i default = z := fun i hi => by
    refine ⟨rowf n (A i), rowf n (idm i), rowf (n + n) (bes n A i), ?_, ?_, ?_, tab_get hi⟩
    · have := em_getN (f := eR) (tab n n A) i (by rw [tab_len]; exact hi)
      rwa [tab_get hi] at this
    · have := em_getN (f := eR) (tab n n idm) i (by rw [tab_len]; exact hi)
      rwa [tab_get hi] at this
    · have := s_Concat (a := rowf n (A i)) (b := rowf n (idm i)) (by rw [rowf_len]; omega) (by rw [rowf_len]; omega)
      rwa [bes_row] at this
  have hBl := tab_len n (n + n) (bes n A)
  refine CP_X (F := F) (f := 33) rfl rfl ?_
  unfold invM
  have hstep : ∀ (g0 : Heap) j, j < n → ∀ h, WHI g0 n (n + n) (grun n (bes n A) j) h → ∃ x, CL F 83 [.ptr (g0.length + 1) 0 0 0, eI j] h = some x ∧ ∃ h', x = (.tup [], h') ∧ WHI g0 n (n + n) (grun n (bes n A) (j + 1)) h' := fun g0 j hj h hw => by
    obtain ⟨g1, g2⟩ := hB j (by omega)
    exact s_stepI hw (by omega) (by omega) (by omega) (grun_RR n (bes n A) j).le (M := M) hM g1 (by omega)
  have hW0 : ∀ (g0 : Heap), WHI g0 n (n + n) (grun n (bes n A) 0) (some ⟨0, 1, em eR (tab n (n + n) (bes n A))⟩ :: (g0 ++ some ⟨0, 5, [aW (.ref 0 0 1 0 n) .nil 1]⟩ :: [])) := fun g0 => ⟨0, .nil, [], rfl, .inl ⟨rfl, rfl⟩⟩
  clear hB
  generalize hBB : tab n (n + n) (bes n A) = B at *
  generalize tab n n A = T0 at *
  generalize tab n n idm = I0 at *
  refine go3 ?_
  refine X_up n (fun i s => ∃ j11 j40 g, s = ⟨[(0, eT T0), (2, .nil), (3, eI 0), (4, eI 0), (5, eI n), (6, eI n), (8, eT I0), (10, .ref 0 0 1 0 n), (11, j11), (12, .undef), (13, .undef), (14, .undef), (18, .bool false), (29, .bool false), (38, eI n), (39, eI i), (40, j40), (60, .undef), (61, .undef), (62, .undef), (69, .undef), (70, .undef), (71, .undef)], some ⟨0, 1, em eR (B.take i) ++ List.replicate (n - i) .nil⟩ :: g⟩) ?_ ?_ 0 (Nat.zero_le _) _ ⟨_, _, [], rfl⟩
  · rintro i s hi ⟨j11, j40, g, rfl⟩ rec
    have hlt := lt_c hi
    obtain ⟨x, y, z, g1, g2, cc, hz⟩ := rows i hi
    obtain ⟨m, hm⟩ : ∃ m, n - i = m + 1 := ⟨n - i - 1, by omega⟩
    have hg := fill_get (f := eR) (B.take i) m .nil
    have hs := fill_set (f := eR) (B.take i) m .nil z
    have hlen : (B.take i).length = i := by simp; omega
    rw [hlen] at hg hs
    rw [← hm, show m = n - (i + 1) by omega, ← hz, ← take_succ_getD B i (by omega)] at hs
    rw [← hm] at hg
    rw [hz] at hs
    have hi6 : i < 9223372036854775807 := by omega
    clear hm hlen rows hstep hW0 hz
    have hw := i64_nat hi6
    refine go3 ?_
    exact rec _ ⟨_, _, _, rfl⟩
  · rintro s ⟨j11, j40, g, rfl⟩
    have he : List.replicate (n - n) AV.nil = [] := by simp
    have ht : List.take n B = B := take_len_g _ hBl.symm
    have hW := hW0 g
    have hst := hstep g
    clear rows hstep hW0
    refine go3 ?_
    refine X_up n (fun j s => ∃ j13 j62 h, s = ⟨[(0, eT T0), (2, .nil), (3, eI 0), (4, eI 0), (5, eI n), (6, eI n), (8, eT I0), (10, .ref 0 0 1 0 n), (11, j11), (12, .ptr (g.length + 1) 0 0 0), (13, j13), (14, .undef), (18, .bool false), (29, .bool false), (38, eI n), (39, eI n), (40, .bool false), (60, eI n), (61, eI j), (62, j62), (69, .undef), (70, .undef), (71, .undef)], h⟩ ∧ WHI g n (n + n) (grun n (bes n A) j) h) ?_ ?_ 0 (Nat.zero_le _) _ ⟨_, _, _, rfl, hW⟩
    · rintro j s hj ⟨j13, j62, h, rfl, hw⟩ rec
      have hlt := lt_c hj
      obtain ⟨x, hs, h', rfl, hw'⟩ := hst j hj h hw
      have hi6 : j < 9223372036854775807 := by omega
      have hw6 := i64_nat hi6
      clear hst hw hW
      refine go3 ?_
      exact rec _ ⟨_, _, _, rfl, hw'⟩
    · rintro s ⟨j13, j62, h, rfl, vt, pr, g2, rfl, hpv⟩
      generalize (grun n (bes n A) n).2.2 = d at *
      generalize (grun n (bes n A) n).1 = S at *
      have hm0 : mixT n S 0 = tab n (n + n) S := by simp [mixT]
      have hmn : mixT n S n = tab n n fun i c => S i (n + c) := by
        unfold mixT
        rw [List.take_of_length_le (by rw [tab_len]; exact Nat.le_refl _), List.drop_eq_nil_of_le (by rw [tab_len]; exact Nat.le_refl _), List.append_nil]
      have hml : ∀ i, i ≤ n → (mixT n S i).length = n := fun i hi => by
        unfold mixT
        rw [List.length_append, List.length_take, List.length_drop, tab_len, tab_len]; omega
      have hmg : ∀ i, i < n → (mixT n S i).getD i default = rowf (n + n) (S i) := fun i hi => by
        unfold mixT
        have hl1 : ((tab n n fun i c => S i (n + c)).take i).length = i := by rw [List.length_take, tab_len]; omega
        rw [List.getD_eq_getElem?_getD, List.getElem?_append_right (by omega), hl1, Nat.sub_self, List.getElem?_drop, Nat.add_zero, ← List.getD_eq_getElem?_getD]
        exact tab_get hi
      have hms : ∀ i, i < n → (mixT n S i).set i (rowf n fun c => S i (n + c)) = mixT n S (i + 1) := fun i hi => by
        unfold mixT
        have hl1 : ((tab n n fun i c => S i (n + c)).take i).length = i := by rw [List.length_take, tab_len]; omega
        rw [List.set_append_right _ _ (by omega), hl1, Nat.sub_self, take_succ_getD _ i (by rw [tab_len]; exact hi), drop_getD (tab n (n + n) S) i (by rw [tab_len]; exact hi), tab_get (A := S) hi, tab_get (A := fun i c => S i (n + c)) hi, List.set_cons_zero, List.append_assoc]
        rfl
      rw [← hm0, ← hmn]
      clear hst hW hm0 hpv
      refine go3 ?_
      refine X_up n (fun i s => ∃ j14 j71, s = ⟨[(0, eT T0), (2, .nil), (3, eI 0), (4, eI 0), (5, eI n), (6, eI n), (8, eT I0), (10, .ref 0 0 1 0 n), (11, j11), (12, .ptr (g.length + 1) 0 0 0), (13, j13), (14, j14), (18, .bool false), (29, .bool false), (38, eI n), (39, eI n), (40, .bool false), (60, eI n), (61, eI n), (62, .bool false), (69, eI n), (70, eI i), (71, j71)], some ⟨vt, 1, em eR (mixT n S i)⟩ :: (g ++ some ⟨0, 5, [aW (.ref 0 vt 1 0 n) pr d]⟩ :: g2)⟩) ?_ ?_ 0 (Nat.zero_le _) _ ⟨_, _, rfl⟩
      · rintro i s hi ⟨j14, j71, rfl⟩ rec
        have hlt := lt_c hi
        have q1 := em_getN (f := eR) (mixT n S i) i (by rw [hml i (by omega)]; exact hi)
        rw [hmg i hi] at q1
        have q2 := hms i hi
        have q3 : List.drop n (rowf (n + n) (S i)) = rowf n fun c => S i (n + c) := by rw [rowf_drop, Nat.add_sub_cancel_left]
        have q4 := rowf_len (n + n) (S i)
        have q5 := rowf_len n fun c => S i (n + c)
        have q6 : ((n : Int) ≤ ((n + n : Nat) : Int)) := by omega
        have q7 : n + n - n = n := by omega
        have q8 : List.take n (rowf n fun c => S i (n + c)) = rowf n fun c => S i (n + c) := take_len_g _ q5.symm
        have hi6 : i < 9223372036854775807 := by omega
        generalize rowf n (fun c => S i (n + c)) = r2 at *
        generalize rowf (n + n) (S i) = r1 at *
        generalize mixT n S (i + 1) = M2 at *
        generalize mixT n S i = M1 at *
        clear hml hmg hms hmn
        have hw := i64_nat hi6
        refine go3 ?_
        exact rec _ ⟨_, _, rfl⟩
      · rintro s ⟨j14, j71, rfl⟩
        have hx2 : List.take n (tab n n fun i c => S i (n + c)) = tab n n fun i c => S i (n + c) := take_len_g _ (tab_len _ _ _).symm
        clear hml hmg hms
        refine go3 ?_
        trivial
end Go.S

end
section
set_option linter.unusedVariables false
set_option linter.unusedSimpArgs false
set_option maxRecDepth 100000
namespace Go.S
open Go Go.AM Go.RowKit Go.K
theorem Sz.same {M : Nat} {t : List (List Rat)} (h : Sz M t) {c : Nat} (hr : ∀ r ∈ t, r.length = c) (hc : c ≤ 1000000) (hl : t.length ≤ 1000000) (hM : M < 100000000) : CP (CL F) 21 [eT t, eT t] = some (.bool true) := by
  have := s_mSame (a := t) (b := t) hl fun r h' => ⟨by rw [hr r h']; exact hc, fun q hq => Nat.lt_of_le_of_lt (h r h' q hq) hM⟩
  rwa [decide_eq_true rfl] at this
theorem Sz.idm (n : Nat) : Sz 1 (tab n n idm) := fun r hr q hq => by
  obtain ⟨i, hi, j, hj, rfl⟩ := mem_tab2 hr hq
  unfold Go.S.idm
  split
  · exact Lq_one
  · exact Lq_zero
set_option maxHeartbeats 4000000
end Go.S

end
section
set_option linter.unusedVariables false
set_option linter.unusedSimpArgs false
set_option maxRecDepth 100000
namespace Go.S
open Go Go.AM Go.RowKit Go.K
theorem Sz.ent {n c M : Nat} {A : Mt} (h : Sz M (tab n c A)) : ∀ r, r < n → ∀ y, y < c → Lq (A r y) ≤ M := fun r hr y hy => h _ (mem_tab.2 ⟨r, hr, rfl⟩) _ (mem_rowf.2 ⟨y, hy, rfl⟩)
theorem gdet_size {n M : Nat} {A : Mt} (hM : 1 ≤ M) (h : GB n n M A) : Lq (gdet n A) ≤ M := by
  unfold gdet
  split
  · have := Lq_zero; omega
  · exact (h n (Nat.le_refl _)).2
set_option maxHeartbeats 4000000
end Go.S

end
section
set_option linter.unusedVariables false
set_option linter.unusedSimpArgs false
set_option maxRecDepth 100000
namespace Go.S
open Go Go.AM Go.RowKit Go.K
theorem s_Inverse0 : CP (CL F) 33 [.lst []] = some (.tup [.lst [], eI 0]) := by
  refine CP_X (F := F) (f := 33) rfl rfl ?_
  have h1 := s_square (t := []) (by simp)
  rw [if_pos ⟨rfl, rfl⟩] at h1
  replace h1 : CP (CL F) 65 [.lst []] = some (eI 0) := h1
  have hr : CP (CL F) 13 [.lst []] = some (.tup [eI 0, eI 0]) := s_Rank (t := []) (l := []) s_Reduce0
  have hid : CP (CL F) 38 [eI 0] = some (.tup [.lst [], eI 0]) := s_Ident (n := 0) (by omega)
  have ho := s_rat_Of (a := 1) (by decide) (by decide)
  refine go3 ?_
  refine X_round ?_
  refine go3 ?_
  refine X_round ?_
  refine go3 ?_
  refine X_round ?_
  refine go3 ?_
  trivial
set_option maxHeartbeats 4000000
theorem law_GaussDets {t : List (List XQ)} (ht : ∀ l ∈ t, ∀ x ∈ l, x.ok) : CP (CL F) 6 [.lst (em eXL t)] = some (.bool true) := by
  refine CP_X (F := F) (f := 6) rfl rfl ?_
  obtain ⟨p, p1, p2, p3⟩ := s_Few12 ht (most := 4) (by decide)
  replace p3 : CP (CL F) 11 [.lst (em eXL t), eI 4] = some (.tup [eT p, rT p]) := p3
  have lp : p.length ≤ 4 := by omega
  have wp : wide p ≤ 4 := by
    unfold wide
    cases p with
    | nil => simp
    | cons r p => exact (p2 r (List.mem_cons_self ..)).1
  have mp : may p = even p := by
    have h1 : p.length ≤ 200 := by omega
    have h2 : wide p ≤ 200 := by omega
    simp [may, h1, h2]
  have k1 := s_Check (t := p) (by omega)
  have k2 := s_Size p
  have w := s_works14
  by_cases hsq : may p = true ∧ p.length = wide p
  · obtain ⟨hm, hw⟩ := hsq
    rw [hm, if_pos rfl] at k1
    have ev := even_iff.1 (by rw [← mp, hm])
    have hp : p = tab p.length p.length (ent p) := by
      have := (tab_of ev).symm
      rwa [← hw] at this
    have hA : ∀ r, r < p.length → ∀ y, y < p.length → Lq (ent p r y) ≤ 1 := fun r hr y hy => ent_size (K := 1) (fun r hr => (p2 r hr).2) ev r hr y (by omega)
    rw [← hw] at k2
    generalize ent p = A at *
    generalize hln : p.length = n at *
    have pow : ∀ {K : Nat}, K * 5 ^ n ≤ K * 625 := fun {K} => Nat.mul_le_mul_left K (by
      have : 5 ^ n ≤ 5 ^ 4 := Nat.pow_le_pow_right (by decide) lp
      omega)
    have gA : GB n n 625 A := fun j hj => by
      obtain ⟨g1, g2⟩ := grun_GB (Nat.le_refl 1) hA j hj
      exact ⟨fun r hr y hy => Nat.le_trans (g1 r hr y hy) pow, Nat.le_trans g2 pow⟩
    have gB : GB n (n + n) 625 (bes n A) := fun j hj => by
      obtain ⟨g1, g2⟩ := grun_GB (n := n) (c := n + n) (A := bes n A) (Nat.le_refl 1) (fun r hr y hy => by
        unfold bes
        split
        · next h => exact hA r hr y h
        · unfold idm
          split
          · exact Lq_one
          · exact Lq_zero) j hj
      exact ⟨fun r hr y hy => Nat.le_trans (g1 r hr y hy) pow, Nat.le_trans g2 pow⟩
    have d1 := s_gDet (by omega) (M := 625) (by decide) gA
    have hdb : 1 + dB 1 n < 10000000 := by
      match n, lp with
      | 0, _ => decide
      | 1, _ => decide
      | 2, _ => decide
      | 3, _ => decide
      | 4, _ => decide
    have d2 := s_refDet (K := 1) n (A := A) (by omega) hA hdb
    rw [det_gdet] at d2
    have hgl := gdet_size (by decide) gA
    have d3 := s_r08_Back (q := gdet n A) (by omega)
    have d4 := s_r08_Same (a := gdet n A) (b := gdet n A) (by omega)
    rw [decide_eq_true rfl] at d4
    have d5 := s_r08_Zero (gdet n A)
    have rr := s_Rank (s_Reduce (n := n) (c := n) (A := A) (by omega) (by omega) (fun h => h) (M := 625) (by decide) gA)
    rw [ivl_len] at rr
    rw [← hp] at d1 d2 rr
    have sq : may p = true ∧ p.length = wide p := ⟨hm, by rw [hln, hw]⟩
    by_cases hz : gdet n A = 0
    · rw [decide_eq_true hz] at d5
      have i1 := s_Inverse_rank (t := p) (by omega) sq rr (by rw [hln]; have := gdet_zero.1 hz; omega)
      clear p1 p2 wp mp ev hA pow gA gB hdb hgl rr sq hp hz hw hm
      refine go3 ?_
      trivial
    · rw [decide_eq_false hz] at d5
      have hf : (grun n A n).2.1.length = n := by
        have h1 := (grun_RR n A n).le
        have h2 : ¬ ((grun n A n).2.1.length < n) := fun h => hz (gdet_zero.2 h)
        omega
      rw [hf] at rr
      have inv : CP (CL F) 33 [eT p] = some (.tup [eT (tab n n (invM n A)), eI 0]) := by
        rcases Nat.eq_zero_or_pos n with e | e
        · subst e; rw [hp]; exact s_Inverse0
        · have := s_Inverse e (by omega) (M := 625) (by decide) gB (by rw [← hp]; exact rr)
          rwa [← hp] at this
      have sA : Sz 625 (tab n n A) := fun r hr q hq => by
        obtain ⟨i, hi, j, hj, rfl⟩ := mem_tab2 hr hq
        have := hA i hi j hj
        omega
      have sI : Sz 625 (tab n n (invM n A)) := fun r hr q hq => by
        obtain ⟨i, hi, j, hj, rfl⟩ := mem_tab2 hr hq
        exact (gB n (by omega)).1 i hi (n + j) (by omega)
      have m1 := (s_Mul2' (A := A) (B := invM n A) (n := n) (m := n) (k := n) (by omega) (by omega) (by omega) (fun h => h) (fun h => h) (M := 625) (by decide) sA sI).1
      have m2 := (s_Mul2' (A := invM n A) (B := A) (n := n) (m := n) (k := n) (by omega) (by omega) (by omega) (fun h => h) (fun h => h) (M := 625) (by decide) sI sA).1
      rw [show tab n n (mm n A (invM n A)) = tab n n idm from tab_congr fun i hi c hc => inv_right hf i c hi hc, ← hp] at m1
      rw [show tab n n (mm n (invM n A) A) = tab n n idm from tab_congr fun i hi c hc => inv_left hf i c hi hc, ← hp] at m2
      have one := s_Ident (n := n) (by omega)
      rw [ident_tab] at one
      have same := (Sz.idm n).same tab_row (by omega) (by rw [tab_len]; omega) (by decide)
      have fp : ∀ (a b : List (List Rat)) (h : Heap), fzR (Go.AM.frz h 6) (some (some ⟨0, 1, [eT a, eT b]⟩)) 0 0 2 = some (.lst (em eT [a, b])) := fun a b h => em_fz6 (h := h) (v := 0) (off := 0) (len := 2) E_eT [a, b]
      have up : ∀ (a b : List (List Rat)) (h : Heap) (i : Nat), usR (used h 6) (some (some ⟨0, 1, [eT a, eT b]⟩)) i 0 0 2 = [i] := fun a b h i => em_us6 (h := h) (id := i) (v := 0) (off := 0) (len := 2) E_eT [a, b]
      generalize tab n n (invM n A) = V at *
      generalize tab n n idm = I0 at *
      clear p1 p2 wp mp ev hA pow gA gB hdb hgl rr sq hp hz hw hm sA sI hf
      refine go3 ?_
      trivial
  · have d1 := s_gDet_bad (t := p) (by omega) hsq
    have d2 := s_Inverse_bad (t := p) (by omega) hsq
    by_cases hm : may p = true
    · rw [hm, if_pos rfl] at k1
      have e1 : ¬ ((p.length : Int) = (wide p : Int)) := by
        intro h; exact hsq ⟨hm, by omega⟩
      clear p1 p2 lp wp mp hsq hm
      refine go3 ?_
      trivial
    · rw [if_neg hm] at k1
      clear p1 p2 lp wp mp hsq hm
      refine go3 ?_
      trivial
end Go.S

end
