/- A part of the proof of the law MatrixChecks: an abstract machine for the functions' code with its soundness, words, lemmas (assembled by a program). -/
import Derived.Test.YtpmbcdakpmceiaaGreatCMatrixChecks4
set_option linter.unusedVariables false
set_option linter.unusedSimpArgs false
set_option linter.unusedSectionVars false
section
set_option linter.unusedVariables false
set_option linter.unusedSimpArgs false
set_option maxRecDepth 100000
namespace Go.S
open Go Go.AM Go.RowKit Go.K
abbrev eT (t : List (List Rat)) : AV := .lst (em eR t)
abbrev rT (t : List (List Rat)) : AV := .lst (em rR t)
def wide (t : List (List Rat)) : Nat := (t.getD 0 []).length
def even (t : List (List Rat)) : Bool := t.all fun r => decide (r.length = wide t)
theorem even_iff {t : List (List Rat)} : even t = true ↔ ∀ r ∈ t, r.length = wide t := by simp [even]
theorem findIdx_spec {α : Type} [Inhabited α] {l : List α} {p : α → Bool} {i : Nat} (hi : i < l.length) (h1 : p (l.getD i default) = true) (h2 : ∀ j, j < i → p (l.getD j default) = false) : l.findIdx p = i := by
  rw [List.findIdx_eq hi]
  refine ⟨by rw [List.getD_eq_getElem?_getD, List.getElem?_eq_getElem hi] at h1; simpa using h1, fun j hj => ?_⟩
  have := h2 j hj
  rw [List.getD_eq_getElem?_getD, List.getElem?_eq_getElem (by omega)] at this
  simpa using this
theorem findIdx_none {α : Type} [Inhabited α] {l : List α} {p : α → Bool} (h : ∀ j, j < l.length → p (l.getD j default) = false) : ¬ l.findIdx p < l.length := by
  rw [List.findIdx_lt_length]
  rintro ⟨x, hx, hp⟩
  obtain ⟨j, hj, rfl⟩ := List.getElem_of_mem hx
  have := h j (by omega)
  rw [List.getD_eq_getElem?_getD, List.getElem?_eq_getElem hj] at this
  simp [hp] at this
theorem s_IndexRow {t : List (List Rat)} {g : Nat} {c : Int} {p : List Rat → Bool} (hl : t.length ≤ 1000000) (hg : ∀ x ∈ t, CP (CL F) g [eR x, .fad (.int .i64 c)] = some (.bool (p x))) :
    CP (CL F) 83 [eT t, .fn g [] [.fad (.int .i64 c)]] = some (eI (if t.findIdx p < t.length then (t.findIdx p : Int) else -1)) := by
  refine CP_X (F := F) (f := 83) rfl rfl ?_
  have c1 : ∀ h, fz h (.fn g [] [.fad (.int .i64 c)]) = some (.fn g [] [.fad (.int .i64 c)]) := fun _ => rfl
  have c2 : ∀ h, used h deep (.fn g [] [.fad (.int .i64 c)]) = [] := fun _ => rfl
  have c3 : ∀ h, fz h (.fad (.int .i64 c)) = some (.fad (.int .i64 c)) := fun _ => rfl
  have c4 : ∀ h, used h deep (.fad (.int .i64 c)) = [] := fun _ => rfl
  refine go3 ?_
  refine X_upto t.length (fun i s => ∃ j4 j5 j9 j16 g', (∀ j, j < i → p (t.getD j default) = false) ∧ s = ⟨[(0, eT t), (1, .fn g [] [.fad (.int .i64 c)]), (4, j4), (5, j5), (7, eI t.length), (8, eI i), (9, j9), (16, j16)], g'⟩) ?_ 0 (Nat.zero_le _) _ ⟨_, _, _, _, _, fun j hj => by omega, rfl⟩
  rintro i s hi ⟨j4, j5, j9, j16, g', hall, rfl⟩ rec
  by_cases hlt : i < t.length
  · have hlt2 := lt_c hlt
    have g1 := em_getN (f := eR) t i hlt
    have hc := hg _ (getD_mem (l := t) (i := i) hlt)
    cases hp : p (t.getD i default) with
    | true =>
      rw [findIdx_spec hlt hp hall, if_pos hlt]
      rw [hp] at hc
      clear hall hg rec hi hp
      refine go3 ?_
      trivial
    | false =>
      rw [hp] at hc
      have hnext : ∀ j, j < i + 1 → p (t.getD j default) = false := fun j hj => by
        rcases Nat.lt_or_ge j i with h | h
        · exact hall j h
        · have : j = i := by omega
          subst this; exact hp
      have hw := i64_nat (n := i) (by omega)
      clear hall hg hp
      refine go3 ?_
      exact rec _ hlt ⟨_, _, _, _, _, hnext, rfl⟩
  · have hl3 : ¬ ((i : Int) < (t.length : Int)) := by omega
    have he := findIdx_none (l := t) (p := p) fun j hj => hall j (by omega)
    rw [if_neg he]
    clear hall hg rec he
    refine go3 ?_
    trivial
theorem s_ContainsRow {t : List (List Rat)} {g : Nat} {c : Int} {p : List Rat → Bool} (hl : t.length ≤ 1000000) (hg : ∀ x ∈ t, CP (CL F) g [eR x, .fad (.int .i64 c)] = some (.bool (p x))) :
    CP (CL F) 48 [eT t, .fn g [] [.fad (.int .i64 c)]] = some (.bool (t.any p)) := by
  refine CP_X (F := F) (f := 48) rfl rfl ?_
  have c1 : ∀ h, fz h (.fn g [] [.fad (.int .i64 c)]) = some (.fn g [] [.fad (.int .i64 c)]) := fun _ => rfl
  have c2 : ∀ h, used h deep (.fn g [] [.fad (.int .i64 c)]) = [] := fun _ => rfl
  have h1 := s_IndexRow hl hg
  clear hg
  by_cases h : t.findIdx p < t.length
  · have ha : t.any p = true := by
      rw [List.any_eq_true]
      rw [List.findIdx_lt_length] at h
      exact h
    rw [if_pos h] at h1
    rw [ha]
    have h2 : (0 : Int) ≤ (t.findIdx p : Int) := by omega
    clear ha h
    refine go3 ?_
    trivial
  · have ha : t.any p = false := by
      rw [← Bool.not_eq_true, List.any_eq_true, ← List.findIdx_lt_length]
      exact h
    rw [if_neg h] at h1
    rw [ha]
    clear ha h
    refine go3 ?_
    trivial
theorem s_Size (t : List (List Rat)) : CP (CL F) 9 [eT t] = some (.tup [eI t.length, eI (wide t)]) := by
  refine CP_X (F := F) (f := 9) rfl rfl ?_
  cases t with
  | nil =>
    have h : wide [] = 0 := rfl
    have h0 : em eR [] = [] := rfl
    refine go3 ?_
    trivial
  | cons r t =>
    have h : wide (r :: t) = r.length := rfl
    have h1 : ¬ (((r :: t).length : Int) = 0) := by simp; omega
    have g1 := em_getN (f := eR) (r :: t) 0 (by simp)
    rw [show (r :: t).getD 0 default = r from rfl] at g1
    generalize r :: t = x at *
    refine go3 ?_
    trivial
theorem s_Wide (t : List (List Rat)) : CP (CL F) 13 [rT t] = some (eI (wide t)) := by
  refine CP_X (F := F) (f := 13) rfl rfl ?_
  cases t with
  | nil =>
    have h : wide [] = 0 := rfl
    have h0 : em rR [] = [] := rfl
    refine go3 ?_
    trivial
  | cons r t =>
    have h : wide (r :: t) = r.length := rfl
    have h1 : ¬ (((r :: t).length : Int) = 0) := by simp; omega
    have g1 := em_getN (f := rR) (r :: t) 0 (by simp)
    rw [show (r :: t).getD 0 default = r from rfl] at g1
    generalize r :: t = x at *
    refine go3 ?_
    trivial
theorem s_Check1 (r : List Rat) (c : Int) : CP (CL F) 49 [eR r, .fad (.int .i64 c)] = some (.bool (decide ((r.length : Int) ≠ c))) := by
  refine CP_X (F := F) (f := 49) rfl rfl ?_
  have c3 : ∀ h, fz h (.fad (.int .i64 c)) = some (.fad (.int .i64 c)) := fun _ => rfl
  refine go3 ?_
  simp
def may (t : List (List Rat)) : Bool := decide (t.length ≤ 200) && decide (wide t ≤ 200) && even t
theorem s_Check {t : List (List Rat)} (hl : t.length ≤ 1000000) : CP (CL F) 11 [eT t] = some (eI (if may t then 0 else 8)) := by
  refine CP_X (F := F) (f := 11) rfl rfl ?_
  have h0 := s_Size t
  have h1 := s_ContainsRow (t := t) (g := 49) (c := wide t) hl fun x _ => s_Check1 x _
  have h2 : t.any (fun x => decide ((x.length : Int) ≠ (wide t : Int))) = !even t := by
    unfold even
    rw [List.not_all_eq_any_not]
    congr 1
    funext r
    by_cases h : r.length = wide t
    · simp [h]
    · simp [h]; omega
  have c5 : ∀ g, fz (some ⟨0, 1, [eI (wide t)]⟩ :: g) (.fn 49 [] [.ptr 0 0 0 0]) = some (.fn 49 [] [.fad (eI (wide t))]) := fun _ => rfl
  have c6 : ∀ g, used (some ⟨0, 1, [eI (wide t)]⟩ :: g) deep (.fn 49 [] [.ptr 0 0 0 0]) = [0] := fun _ => rfl
  rw [h2] at h1
  clear h2
  by_cases a1 : t.length ≤ 200
  · have b1 : ¬ ((200 : Int) < (t.length : Int)) := by omega
    by_cases a2 : wide t ≤ 200
    · have b2 : ¬ ((200 : Int) < (wide t : Int)) := by omega
      cases h3 : even t with
      | true =>
        have h4 : may t = true := by simp [may, a1, a2, h3]
        rw [h3] at h1
        rw [Bool.not_true] at h1
        rw [h4, if_pos rfl]
        clear h3 h4 a1 a2
        refine go3 ?_
        trivial
      | false =>
        have h4 : may t = false := by simp [may, a1, a2, h3]
        rw [h3] at h1
        rw [Bool.not_false] at h1
        rw [h4, if_neg (by decide)]
        clear h3 h4 a1 a2
        refine go3 ?_
        trivial
    · have b2 : (200 : Int) < (wide t : Int) := by omega
      have h4 : may t = false := by simp [may, a2]
      rw [h4, if_neg (by decide)]
      clear h4 a1 a2
      refine go3 ?_
      trivial
  · have b1 : (200 : Int) < (t.length : Int) := by omega
    have h4 : may t = false := by simp [may, a1]
    rw [h4, if_neg (by decide)]
    clear h4 a1
    refine go3 ?_
    trivial
end Go.S

end
section
set_option linter.unusedVariables false
set_option linter.unusedSimpArgs false
set_option maxRecDepth 100000
namespace Go.S
open Go Go.AM Go.RowKit Go.K
theorem CL_XE {F : Nat → Option AFunc} {f np nt : Nat} {ks : List Nat} {res : List (Nat × Option (Nat × Bool))} {body : ACode} {args : List AV} {h : Heap} {P : AV × Heap → Prop} (hf : F f = some ⟨np, nt, ks, res, body⟩) (hn : args.length = np)
    (H : X F ks (fun e s => ∃ x, FinR res x e s ∧ P x) body ⟨args0 0 args, h⟩ .done) : ∃ x, CL F f args h = some x ∧ P x := by
  obtain ⟨e, s', h1, x, ⟨he, hr⟩, hp⟩ := H
  exact ⟨x, CL_run hf hn h1 he hr, hp⟩
theorem s_Few_raw {l : List XQ} (hx : ∀ x ∈ l, x.ok) {most : Nat} (hm : most ≤ 1000000) : ∃ qs : List Rat, qs.length = min l.length most ∧ (∀ q ∈ qs, Lq q ≤ 1) ∧ ∀ h, ∃ v w g, CL F 23 [.lst (em eX l), eI most] h = some (.tup [.ref h.length v 3 0 qs.length, .ref (h.length + 1) w 3 0 qs.length], h ++ (some ⟨v, 3, em eQ qs⟩ :: some ⟨w, 3, em rQ qs⟩ :: g)) := by
  have hex : ∃ f : XQ → Rat, ∀ x ∈ l, Lq (f x) ≤ 1 ∧ CP (CL F) 34 [eX x, eI 1] = some (eQ (f x)) := by
    classical
    refine ⟨fun x => if h : x ∈ l then (s_r08_CleanX (hx x h) (m := 1) (by decide) (by decide)).choose else 0, fun x h => ?_⟩
    simp only [h, dif_pos]
    exact (s_r08_CleanX (hx x h) (m := 1) (by decide) (by decide)).choose_spec
  obtain ⟨f, hf⟩ := hex
  refine ⟨(l.take most).map f, by simp; omega, fun q hq => by
    obtain ⟨x, hx, rfl⟩ := List.mem_map.1 hq
    exact (hf x (List.mem_of_mem_take hx)).1, fun h => ?_⟩
  suffices H : ∃ x, CL F 23 [.lst (em eX l), eI most] h = some x ∧ ∃ v w g, x = (.tup [.ref h.length v 3 0 ((l.take most).map f).length, .ref (h.length + 1) w 3 0 ((l.take most).map f).length], h ++ (some ⟨v, 3, em eQ ((l.take most).map f)⟩ :: some ⟨w, 3, em rQ ((l.take most).map f)⟩ :: g)) by
    obtain ⟨x, h1, v, w, g, rfl⟩ := H
    exact ⟨v, w, g, h1⟩
  refine CL_XE (F := F) (f := 23) rfl rfl ?_
  have c1 := @cells_eX
  have c2 := @agg_eX
  have c3 := @fz_eX
  have c4 := @us_eX
  have c5 := @shut_eX
  clear hx
  refine go3 ?_
  refine X_upto (min l.length most) (fun i s => ∃ j4 j5 j9 j20 v w g, s = ⟨[(0, .lst (em eX l)), (1, eI most), (4, j4), (5, j5), (6, .ref h.length v 3 0 i), (7, .ref (h.length + 1) w 3 0 i), (8, eI i), (9, j9), (20, j20)], h ++ (some ⟨v, 3, em eQ ((l.take i).map f)⟩ :: some ⟨w, 3, em rQ ((l.take i).map f)⟩ :: g)⟩) ?_ 0 (Nat.zero_le _) _ ⟨_, _, _, _, _, _, [], rfl⟩
  rintro i s hi ⟨j4, j5, j9, j20, v, w, g, rfl⟩ rec
  have hlen : ((l.take i).map f).length = i := by simp; omega
  have ht : List.take i ((l.take i).map f) = (l.take i).map f := take_len_g _ hlen.symm
  by_cases h1 : i < l.length
  · have h1' := lt_c h1
    by_cases h2 : i < most
    · have h2' := lt_c h2
      have hi2 : i < min l.length most := by omega
      have hg0 := em_getN (f := eX) l i h1
      obtain ⟨f1, f2⟩ := hf _ (getD_mem h1)
      have k1 := s_r08_Of (q := f (l.getD i default)) (by omega)
      have hs : (l.take i).map f ++ [f (l.getD i default)] = (l.take (i + 1)).map f := by rw [take_succ_getD l i h1]; simp
      have hlim : i + 1 ≤ 2513169434916 := by omega
      have hlim2 : i < 2513169434916 := by omega
      have hw := i64_nat (n := i) (by omega)
      clear hf f1 hlen hi
      refine go3 ?_
      exact rec _ hi2 ⟨_, _, _, _, _, _, _, rfl⟩
    · have h2' : ¬ ((i : Int) < (most : Int)) := by omega
      have hi2 : i = most := by omega
      subst hi2
      clear hf rec hi h1
      refine go3 ?_
      exact ⟨_, rfl, _, _, _, rfl⟩
  · have h1' : ¬ ((i : Int) < (l.length : Int)) := by omega
    have hi2 : l.take most = l := List.take_of_length_le (by omega)
    have hi3 : l.take i = l := List.take_of_length_le (by omega)
    rw [hi3] at hlen
    have ht2 : List.take i (l.map f) = l.map f := take_len_g _ hlen.symm
    rw [hi2, hi3]
    clear hf rec hi h1 hi2 hi3
    refine go3 ?_
    exact ⟨_, rfl, _, _, _, rfl⟩
def RowAt (b : Nat) (g : Heap) (f : Rat → AV) (c : AV) (r : List Rat) (k : Nat) : Prop := ∃ v ys, c = .ref (b + k) v 3 0 r.length ∧ g[k]? = some (some ⟨v, 3, em f r ++ ys⟩)
def RowsIn (b : Nat) (g : Heap) (f : Rat → AV) (cs : List AV) (t : List (List Rat)) (ks : List Nat) : Prop :=
  cs.length = t.length ∧ ks.length = t.length ∧ ∀ i, i < t.length → RowAt b g f (cs.getD i default) (t.getD i default) (ks.getD i default)
theorem RowAt.lt {b : Nat} {g : Heap} {f : Rat → AV} {c : AV} {r : List Rat} {k : Nat} (h : RowAt b g f c r k) : k < g.length := by
  obtain ⟨v, ys, rfl, h⟩ := h
  exact (List.getElem?_eq_some_iff.1 h).1
theorem RowAt.grow {b : Nat} {g : Heap} {f : Rat → AV} {c : AV} {r : List Rat} {k : Nat} (h : RowAt b g f c r k) (g' : Heap) : RowAt b (g ++ g') f c r k := by
  obtain ⟨v, ys, h1, h2⟩ := h
  refine ⟨v, ys, h1, ?_⟩
  rw [List.getElem?_append_left (List.getElem?_eq_some_iff.1 h2).1]
  exact h2
theorem RowAt.set {b : Nat} {g : Heap} {f : Rat → AV} {c : AV} {r : List Rat} {k : Nat} (h : RowAt b g f c r k) {j : Nat} (hj : j ≠ k) (x : Option Blk) : RowAt b (g.set j x) f c r k := by
  obtain ⟨v, ys, h1, h2⟩ := h
  refine ⟨v, ys, h1, ?_⟩
  rw [List.getElem?_set_ne hj]
  exact h2
theorem getD_snoc_lt {α : Type} [Inhabited α] {l : List α} {x : α} {i : Nat} (h : i < l.length) : (l ++ [x]).getD i default = l.getD i default := by
  simp [List.getD, List.getElem?_append_left h]
theorem getD_snoc_eq {α : Type} [Inhabited α] {l : List α} {x : α} : (l ++ [x]).getD l.length default = x := by simp [List.getD]
theorem RowsIn.grow {b : Nat} {g : Heap} {f : Rat → AV} {cs : List AV} {t : List (List Rat)} {ks : List Nat} (h : RowsIn b g f cs t ks) (g' : Heap) : RowsIn b (g ++ g') f cs t ks :=
  ⟨h.1, h.2.1, fun i hi => (h.2.2 i hi).grow g'⟩
theorem RowsIn.snoc {b : Nat} {g : Heap} {f : Rat → AV} {cs : List AV} {t : List (List Rat)} {ks : List Nat} (h : RowsIn b g f cs t ks) {c : AV} {r : List Rat} {k : Nat} (h1 : RowAt b g f c r k) : RowsIn b g f (cs ++ [c]) (t ++ [r]) (ks ++ [k]) := by
  obtain ⟨a1, a2, a3⟩ := h
  refine ⟨by simp [a1], by simp [a2], fun i hi => ?_⟩
  by_cases hl : i < t.length
  · rw [getD_snoc_lt (by omega), getD_snoc_lt hl, getD_snoc_lt (by omega)]
    exact a3 i hl
  · have : i = t.length := by simp at hi; omega
    subst this
    rw [getD_snoc_eq]
    rw [← a1, getD_snoc_eq, a1, ← a2, getD_snoc_eq]
    exact h1
theorem RowsIn.lt {b : Nat} {g : Heap} {f : Rat → AV} {cs : List AV} {t : List (List Rat)} {ks : List Nat} (h : RowsIn b g f cs t ks) : ∀ k ∈ ks, k < g.length := fun k hk => by
  obtain ⟨i, hi, rfl⟩ := List.getElem_of_mem hk
  have := (h.2.2 i (by have := h.2.1; omega)).lt
  rw [List.getD_eq_getElem?_getD, List.getElem?_eq_getElem hi] at this
  exact this
abbrev eXL (l : List XQ) : AV := .lst (em eX l)
theorem s_Few12_raw {t : List (List XQ)} (hx : ∀ l ∈ t, ∀ x ∈ l, x.ok) {most : Nat} (hm : most ≤ 1000000) : ∃ qs : List (List Rat), qs.length = min t.length most ∧ (∀ r ∈ qs, r.length ≤ most ∧ ∀ q ∈ r, Lq q ≤ 1) ∧
    ∀ h, ∃ v w cs ds ks ls g, CL F 8 [.lst (em eXL t), eI most] h = some (.tup [.ref h.length v 1 0 qs.length, .ref (h.length + 1) w 1 0 qs.length], h ++ (some ⟨v, 1, cs⟩ :: some ⟨w, 1, ds⟩ :: g)) ∧
      RowsIn (h.length + 2) g eQ cs qs ks ∧ RowsIn (h.length + 2) g rQ ds qs ls ∧ (ks ++ ls).Nodup := by
  have hex : ∃ f : List XQ → List Rat, ∀ l ∈ t, (f l).length = min l.length most ∧ (∀ q ∈ f l, Lq q ≤ 1) ∧ ∀ h, ∃ v w g, CL F 23 [eXL l, eI most] h = some (.tup [.ref h.length v 3 0 (f l).length, .ref (h.length + 1) w 3 0 (f l).length], h ++ (some ⟨v, 3, em eQ (f l)⟩ :: some ⟨w, 3, em rQ (f l)⟩ :: g)) := by
    classical
    refine ⟨fun l => if h : l ∈ t then (s_Few_raw (hx l h) hm).choose else [], fun l h => ?_⟩
    simp only [h, dif_pos]
    exact (s_Few_raw (hx l h) hm).choose_spec
  obtain ⟨f, hf⟩ := hex
  refine ⟨(t.take most).map f, by simp; omega, fun r hr => ?_, fun h => ?_⟩
  · obtain ⟨l, hl, rfl⟩ := List.mem_map.1 hr
    obtain ⟨h1, h2, _⟩ := hf l (List.mem_of_mem_take hl)
    exact ⟨by omega, h2⟩
  suffices H : ∃ x, CL F 8 [.lst (em eXL t), eI most] h = some x ∧ ∃ v w cs ds ks ls g, x = (.tup [.ref h.length v 1 0 ((t.take most).map f).length, .ref (h.length + 1) w 1 0 ((t.take most).map f).length], h ++ (some ⟨v, 1, cs⟩ :: some ⟨w, 1, ds⟩ :: g)) ∧
      RowsIn (h.length + 2) g eQ cs ((t.take most).map f) ks ∧ RowsIn (h.length + 2) g rQ ds ((t.take most).map f) ls ∧ (ks ++ ls).Nodup by
    obtain ⟨x, h1, v, w, cs, ds, ks, ls, g, rfl, h2⟩ := H
    exact ⟨v, w, cs, ds, ks, ls, g, h1, h2⟩
  refine CL_XE (F := F) (f := 8) rfl rfl ?_
  clear hx
  refine go3 ?_
  refine X_upto (min t.length most) (fun i s => ∃ j4 j5 j9 j10 j21 v w cs ds ks ls g, RowsIn (h.length + 2) g eQ cs ((t.take i).map f) ks ∧ RowsIn (h.length + 2) g rQ ds ((t.take i).map f) ls ∧ (ks ++ ls).Nodup ∧
    s = ⟨[(0, .lst (em eXL t)), (1, eI most), (4, j4), (5, j5), (6, .ref h.length v 1 0 i), (7, .ref (h.length + 1) w 1 0 i), (8, eI i), (9, j9), (10, j10), (21, j21)], h ++ (some ⟨v, 1, cs⟩ :: some ⟨w, 1, ds⟩ :: g)⟩) ?_ 0 (Nat.zero_le _) _
    ⟨_, _, _, _, _, _, _, [], [], [], [], [], ⟨rfl, rfl, fun i hi => by simp at hi⟩, ⟨rfl, rfl, fun i hi => by simp at hi⟩, by simp, rfl⟩
  rintro i s hi ⟨j4, j5, j9, j10, j21, v, w, cs, ds, ks, ls, g, R1, R2, R3, rfl⟩ rec
  have hlen : ((t.take i).map f).length = i := by simp; omega
  have l1 : cs.length = i := by rw [R1.1, hlen]
  have l2 : ds.length = i := by rw [R2.1, hlen]
  have ht1 : List.take i cs = cs := take_len_g _ l1.symm
  have ht2 : List.take i ds = ds := take_len_g _ l2.symm
  have ht3 : sub cs 0 i = cs := by unfold sub; rw [List.drop_zero]; exact ht1
  have ht4 : sub ds 0 i = ds := by unfold sub; rw [List.drop_zero]; exact ht2
  by_cases h1 : i < t.length
  · have h1' := lt_c h1
    by_cases h2 : i < most
    · have h2' := lt_c h2
      have hi2 : i < min t.length most := by omega
      have hg0 := em_getN (f := eXL) t i h1
      obtain ⟨f1, f2, f3⟩ := hf _ (getD_mem h1)
      obtain ⟨v', w', g', f4⟩ := f3 (h ++ (some ⟨v, 1, cs⟩ :: some ⟨w, 1, ds⟩ :: g))
      have hs : (t.take i).map f ++ [f (t.getD i default)] = (t.take (i + 1)).map f := by rw [take_succ_getD t i h1]; simp
      have hlim : i + 1 ≤ 5864062014805 := by omega
      have hlim2 : i < 5864062014805 := by omega
      have hw := i64_nat (n := i) (by omega)
      generalize hr : f (t.getD i default) = r at *
      clear hf f1 f2 f3 hlen hi
      refine go3 ?_
      refine rec _ hi2 ⟨_, _, _, _, _, _, _, _, _, ks ++ [g.length], ls ++ [g.length + 1], _, ?_, ?_, ?_, rfl⟩
      · rw [← hs]
        refine (R1.grow _).snoc ?_
        refine ⟨v', [], by congr 1; omega, ?_⟩
        rw [get_app0, List.append_nil]
        rfl
      · rw [← hs]
        refine (R2.grow _).snoc ?_
        refine ⟨w', [], by congr 1; omega, ?_⟩
        rw [get_app, List.append_nil]
        rfl
      · have q1 := R1.lt
        have q2 := R2.lt
        rw [List.nodup_append] at R3 ⊢
        obtain ⟨n1, n2, n3⟩ := R3
        refine ⟨?_, ?_, ?_⟩
        · rw [List.nodup_append]
          exact ⟨n1, by simp, fun a ha b hb => by have := q1 a ha; simp at hb; omega⟩
        · rw [List.nodup_append]
          exact ⟨n2, by simp, fun a ha b hb => by have := q2 a ha; simp at hb; omega⟩
        · intro a ha b hb
          simp only [List.mem_append, List.mem_singleton] at ha hb
          rcases ha with ha | rfl
          · rcases hb with hb | rfl
            · exact n3 a ha b hb
            · have := q1 a ha; omega
          · rcases hb with hb | rfl
            · have := q2 b hb; omega
            · omega
    · have h2' : ¬ ((i : Int) < (most : Int)) := by omega
      have hi2 : i = most := by omega
      subst hi2
      clear hf rec hi h1
      refine go3 ?_
      exact ⟨_, rfl, _, _, _, _, _, _, _, rfl, R1, R2, R3⟩
  · have h1' : ¬ ((i : Int) < (t.length : Int)) := by omega
    have hi2 : t.take most = t := List.take_of_length_le (by omega)
    have hi3 : t.take i = t := List.take_of_length_le (by omega)
    rw [hi3] at hlen R1 R2
    rw [hi2]
    clear hf rec hi h1 hi2 hi3
    refine go3 ?_
    exact ⟨_, rfl, _, _, _, _, _, _, _, rfl, R1, R2, R3⟩
theorem mapM_some {α β : Type} {F : α → Option β} {G : α → β} : ∀ (l : List α), (∀ x ∈ l, F x = some (G x)) → l.mapM F = some (l.map G) := by
  intro l
  induction l with
  | nil => intro _; rfl
  | cons x l ih =>
    intro h
    rw [List.mapM_cons, h x (List.mem_cons_self ..), ih fun y hy => h y (List.mem_cons_of_mem _ hy)]
    rfl
theorem RowAt.frz {b : Nat} {g H : Heap} {f : Rat → AV} {c : AV} {r : List Rat} {k : Nat} (h : RowAt b g f c r k) (hf : ∀ x, plain1 (f x) = true) (hH : H[b + k]? = g[k]?) (n : Nat) : frz H (n + 3) c = some (.lst (em f r)) := by
  obtain ⟨v, ys, rfl, h2⟩ := h
  show (blk H (b + k) v).bind (fun b => ((sub b.xs 0 r.length).mapM (Go.AM.frz H (n + 2))).map AV.lst) = _
  have h3 : blk H (b + k) v = some ⟨v, 3, em f r ++ ys⟩ := by
    unfold blk
    rw [hH, h2]
    exact if_pos rfl
  rw [h3]
  have h4 : sub (em f r ++ ys) 0 r.length = em f r := by
    unfold sub
    rw [List.drop_zero, List.take_left' (by simp [em])]
  show ((sub (em f r ++ ys) 0 r.length).mapM (Go.AM.frz H (n + 2))).map AV.lst = _
  rw [h4, mapM_some (G := id) _ fun x hx => by
    obtain ⟨q, _, rfl⟩ := List.mem_map.1 hx
    exact (frz_plain1 (hf q)).1]
  simp
theorem RowsIn.frz {b : Nat} {g H : Heap} {f : Rat → AV} {cs : List AV} {t : List (List Rat)} {ks : List Nat} (h : RowsIn b g f cs t ks) (hf : ∀ x, plain1 (f x) = true) (hH : ∀ k, H[b + k]? = g[k]?) (n : Nat) : cs.mapM (frz H (n + 3)) = some (em (fun r => .lst (em f r)) t) := by
  obtain ⟨h1, h2, h3⟩ := h
  have key : ∀ (cs : List AV) (t : List (List Rat)), cs.length = t.length → (∀ i, i < t.length → Go.AM.frz H (n + 3) (cs.getD i default) = some (.lst (em f (t.getD i default)))) → cs.mapM (Go.AM.frz H (n + 3)) = some (em (fun r => .lst (em f r)) t) := by
    intro cs
    induction cs with
    | nil =>
      intro t ht _
      cases t with
      | nil => rfl
      | cons r t => simp at ht
    | cons c cs ih =>
      intro t ht hi
      cases t with
      | nil => simp at ht
      | cons r t =>
        have a0 := hi 0 (by simp)
        have a1 := ih t (by simpa using ht) fun i hi' => hi (i + 1) (by simp; omega)
        rw [List.mapM_cons]
        rw [show Go.AM.frz H (n + 3) c = some (.lst (em f r)) from a0, a1]
        rfl
  exact key cs t h1 fun i hi => (h3 i hi).frz hf (hH _) n
theorem fz_rows2 {h : Heap} {v w : Nat} {cs ds : List AV} {g : Heap} {t : List (List Rat)} {ks ls : List Nat} (R1 : RowsIn (h.length + 2) g eQ cs t ks) (R2 : RowsIn (h.length + 2) g rQ ds t ls) :
    fz (h ++ (some ⟨v, 1, cs⟩ :: some ⟨w, 1, ds⟩ :: g)) (.tup [.ref h.length v 1 0 t.length, .ref (h.length + 1) w 1 0 t.length]) = some (.tup [eT t, rT t]) := by
  have hH : ∀ k, (h ++ (some ⟨v, 1, cs⟩ :: some ⟨w, 1, ds⟩ :: g))[h.length + 2 + k]? = g[k]? := fun k => by
    rw [Nat.add_assoc, get_app, show 2 + k = k + 1 + 1 by omega]
    rfl
  have a1 := R1.frz (fun x => E_eQ.pl x) hH 2
  have a2 := R2.frz (fun x => E_rQ.pl x) hH 2
  have b1 : blk (h ++ (some ⟨v, 1, cs⟩ :: some ⟨w, 1, ds⟩ :: g)) h.length v = some ⟨v, 1, cs⟩ := by
    unfold blk
    rw [get_app0]
    exact if_pos rfl
  have b2 : blk (h ++ (some ⟨v, 1, cs⟩ :: some ⟨w, 1, ds⟩ :: g)) (h.length + 1) w = some ⟨w, 1, ds⟩ := by
    unfold blk
    rw [get_app]
    exact if_pos rfl
  generalize h ++ (some ⟨v, 1, cs⟩ :: some ⟨w, 1, ds⟩ :: g) = H at *
  have c1 : sub cs 0 t.length = cs := by unfold sub; rw [List.drop_zero]; exact List.take_of_length_le (by rw [R1.1]; omega)
  have c2 : sub ds 0 t.length = ds := by unfold sub; rw [List.drop_zero]; exact List.take_of_length_le (by rw [R2.1]; omega)
  have d1 : frz H 6 (.ref h.length v 1 0 t.length) = some (eT t) := by
    show (blk H h.length v).bind (fun b => ((sub b.xs 0 t.length).mapM (Go.AM.frz H 5)).map AV.lst) = _
    rw [b1]
    show ((sub cs 0 t.length).mapM (Go.AM.frz H 5)).map AV.lst = _
    rw [c1, a1]
    rfl
  have d2 : frz H 6 (.ref (h.length + 1) w 1 0 t.length) = some (rT t) := by
    show (blk H (h.length + 1) w).bind (fun b => ((sub b.xs 0 t.length).mapM (Go.AM.frz H 5)).map AV.lst) = _
    rw [b2]
    show ((sub ds 0 t.length).mapM (Go.AM.frz H 5)).map AV.lst = _
    rw [c2, a2]
    rfl
  show ([AV.ref h.length v 1 0 t.length, .ref (h.length + 1) w 1 0 t.length].mapM (Go.AM.frz H 6)).map AV.tup = _
  rw [List.mapM_cons, d1, List.mapM_cons, d2]
  rfl
theorem s_Few12 {t : List (List XQ)} (hx : ∀ l ∈ t, ∀ x ∈ l, x.ok) {most : Nat} (hm : most ≤ 1000000) : ∃ qs : List (List Rat), qs.length = min t.length most ∧ (∀ r ∈ qs, r.length ≤ most ∧ ∀ q ∈ r, Lq q ≤ 1) ∧
    CP (CL F) 8 [.lst (em eXL t), eI most] = some (.tup [eT qs, rT qs]) := by
  obtain ⟨qs, h1, h2, h3⟩ := s_Few12_raw hx hm
  refine ⟨qs, h1, h2, ?_⟩
  obtain ⟨v, w, cs, ds, ks, ls, g, h4, R1, R2, _⟩ := h3 []
  exact CP_raw h4 (fz_rows2 (h := []) R1 R2)
end Go.S

end
section
set_option linter.unusedVariables false
set_option linter.unusedSimpArgs false
set_option maxRecDepth 100000
namespace Go.Proofs.YtpmbcdakpmceiaaGreat.R
open Go Go.AM Go.S Go.RowKit Go.K Go.Proofs
theorem rdT : Rd Tryz.prog 22 (fun l : List (List XQ) => [.lst (em eXL l)]) fun l => ∀ r ∈ l, ∀ x ∈ r, x.ok :=
  (rd_slice Tryz.underlying22 rdR eXL (fun _ => rfl) (s := 1) (by kernel_rfl) (fun _ => rfl) (by decide)).map id (fun _ => rfl) fun l h => h.1
theorem rdI : Rd Tryz.prog 3 (fun n : Int => [.int .i64 n]) fun n => (Lit.int .i64 n).wf = true := rd_int Tryz.underlying3
end Go.Proofs.YtpmbcdakpmceiaaGreat.R

end
section
set_option linter.unusedVariables false
set_option linter.unusedSimpArgs false
set_option maxRecDepth 100000
namespace Go.S
open Go Go.AM Go.RowKit Go.K
theorem getD_inj' {α : Type} [Inhabited α] {l r : List α} {i : Nat} (hne : l.getD i default ≠ r.getD i default) : l ≠ r := fun e => hne (by rw [e])
theorem s_EqualRows {a b : List (List Rat)} {g : Nat} (ha : a.length ≤ 1000000) (hg : ∀ x ∈ a, ∀ y ∈ b, CP (CL F) g [eR x, eR y] = some (.bool (decide (x = y)))) :
    CP (CL F) 50 [eT a, eT b, .fn g [] []] = some (.bool (decide (a = b))) := by
  refine CP_X (F := F) (f := 50) rfl rfl ?_
  by_cases hl : a.length = b.length
  · have hl1 : ¬ ((a.length : Int) ≠ (b.length : Int)) := by omega
    have hl2 : (a.length : Int) = (b.length : Int) := by omega
    refine go3 ?_
    refine X_upto a.length (fun i s => ∃ j6 j7 j8 j9 j18 j30 g', (a.take i = b.take i) ∧ s = ⟨[(0, eT a), (1, eT b), (2, .fn g [] []), (6, j6), (7, j7), (8, j8), (9, j9), (14, .bool false), (15, eT a), (16, eI b.length), (17, eI i), (18, j18), (30, j30)], g'⟩) ?_ 0 (Nat.zero_le _) _ ⟨_, _, _, _, _, _, _, by simp, rfl⟩
    rintro i s hi ⟨j6, j7, j8, j9, j18, j30, g', heq, rfl⟩ rec
    by_cases hlt : i < a.length
    · have hlt1 : (i : Int) < (b.length : Int) := by omega
      have hlt2 : (i : Int) < (a.length : Int) := by omega
      have g1 := em_getN (f := eR) a i (by omega)
      have g2 := em_getN (f := eR) b i (by omega)
      have hc := hg _ (getD_mem (l := a) (i := i) (by omega)) _ (getD_mem (l := b) (i := i) (by omega))
      by_cases hx : a.getD i default = b.getD i default
      · have hx' : decide (a.getD i default = b.getD i default) = true := decide_eq_true hx
        rw [hx'] at hc
        have hnext : a.take (i + 1) = b.take (i + 1) := by rw [take_succ_getD a i hlt, take_succ_getD b i (by omega), heq, hx]
        have hw := i64_nat (n := i) (by omega)
        clear hx hx' heq hg
        refine go3 ?_
        exact rec _ hlt ⟨_, _, _, _, _, _, _, hnext, rfl⟩
      · have hx' : decide (a.getD i default = b.getD i default) = false := decide_eq_false hx
        rw [hx'] at hc
        have hne : decide (a = b) = false := by simpa using getD_inj' hx
        clear hx hx' heq hg rec
        refine go3 ?_
        trivial
    · have hl3 : ¬ ((i : Int) < (b.length : Int)) := by omega
      have he : decide (a = b) = true := by
        rw [List.take_of_length_le (by omega), List.take_of_length_le (by omega)] at heq
        simpa using heq
      clear heq hg rec
      refine go3 ?_
      trivial
  · have hl1 : (a.length : Int) ≠ (b.length : Int) := by omega
    have hl2 : ¬ (a.length : Int) = (b.length : Int) := by omega
    have he : decide (a = b) = false := by simpa using fun e => hl (by rw [e])
    clear hg
    refine go3 ?_
    trivial
theorem s_mSame {a b : List (List Rat)} (ha : a.length ≤ 1000000) (h0 : ∀ r ∈ a, r.length ≤ 1000000 ∧ ∀ q ∈ r, Lq q < 100000000) : CP (CL F) 14 [eT a, eT b] = some (.bool (decide (a = b))) := by
  refine CP_X (F := F) (f := 14) rfl rfl ?_
  have h := s_EqualRows (a := a) (b := b) (g := 29) ha fun x hx y hy => s_vect_Same (h0 x hx).1 (h0 x hx).2
  clear h0
  refine go3 ?_
  trivial
theorem s_Is12 {a q : List (List Rat)} (ha : a.length ≤ 1000000) (h0 : ∀ r ∈ a, r.length ≤ 1000000 ∧ ∀ x ∈ r, Lq x < 100000000) (h1 : ∀ r ∈ q, ∀ x ∈ r, Lq x < 100000000) : CP (CL F) 15 [eT a, rT q] = some (eI (if a = q then 1 else 0)) := by
  refine CP_X (F := F) (f := 15) rfl rfl ?_
  by_cases hl : a.length = q.length
  · have hl1 : ¬ ((a.length : Int) ≠ (q.length : Int)) := by omega
    have hl2 : (a.length : Int) = (q.length : Int) := by omega
    refine go3 ?_
    refine X_upto a.length (fun i s => ∃ j4 j14 j26 g, (a.take i = q.take i) ∧ s = ⟨[(0, eT a), (1, rT q), (4, j4), (5, eI i), (10, .bool false), (14, j14), (26, j26)], g⟩) ?_ 0 (Nat.zero_le _) _ ⟨_, _, _, _, by simp, rfl⟩
    rintro i s hi ⟨j4, j14, j26, g, heq, rfl⟩ rec
    by_cases hlt : i < a.length
    · have hlt1 : (i : Int) < (q.length : Int) := by omega
      have hlt2 : (i : Int) < (a.length : Int) := by omega
      have g1 := em_getN (f := eR) a i (by omega)
      have g2 := em_getN (f := rR) q i (by omega)
      have m1 := h0 _ (getD_mem (l := a) (i := i) (by omega))
      have k1 := s_Is (q := q.getD i default) m1.1 m1.2 (h1 _ (getD_mem (l := q) (i := i) (by omega)))
      clear m1
      by_cases hx : a.getD i default = q.getD i default
      · rw [if_pos hx] at k1
        have hnext : a.take (i + 1) = q.take (i + 1) := by rw [take_succ_getD a i hlt, take_succ_getD q i (by omega), heq, hx]
        have hw := i64_nat (n := i) (by omega)
        clear hx heq h0 h1
        refine go3 ?_
        exact rec _ hlt ⟨_, _, _, _, hnext, rfl⟩
      · rw [if_neg hx] at k1
        have hne : (if a = q then (1 : Int) else 0) = 0 := if_neg (getD_inj' hx)
        rw [hne]
        clear hx heq rec h0 h1 hne
        refine go3 ?_
        trivial
    · have hl3 : ¬ ((i : Int) < (q.length : Int)) := by omega
      have he : (if a = q then (1 : Int) else 0) = 1 := by
        rw [List.take_of_length_le (by omega), List.take_of_length_le (by omega)] at heq
        exact if_pos heq
      rw [he]
      clear heq rec h0 h1 he
      refine go3 ?_
      trivial
  · have hl1 : (a.length : Int) ≠ (q.length : Int) := by omega
    have hl2 : ¬ (a.length : Int) = (q.length : Int) := by omega
    have he : (if a = q then (1 : Int) else 0) = 0 := if_neg fun e => hl (by rw [e])
    rw [he]
    clear h0 h1 he
    refine go3 ?_
    trivial
theorem s_even {q : List (List Rat)} (hq : q.length ≤ 1000000) : CP (CL F) 12 [rT q] = some (.bool (even q)) := by
  refine CP_X (F := F) (f := 12) rfl rfl ?_
  refine go3 ?_
  refine X_upto q.length (fun i s => ∃ j2 j7 j19 g, (∀ j, j < i → (q.getD j default).length = wide q) ∧ s = ⟨[(0, rT q), (2, j2), (3, eI i), (7, j7), (19, j19)], g⟩) ?_ 0 (Nat.zero_le _) _ ⟨_, _, _, _, fun j hj => by omega, rfl⟩
  rintro i s hi ⟨j2, j7, j19, g, hall, rfl⟩ rec
  by_cases hlt : i < q.length
  · have hlt2 := lt_c hlt
    have g1 := em_getN (f := rR) q i hlt
    have g0 := em_getN (f := rR) q 0 (by omega)
    have hw0 : (q.getD 0 default).length = wide q := rfl
    have hpos : (0 : Int) < (q.length : Int) := by omega
    by_cases hx : (q.getD i default).length = wide q
    · have hnext : ∀ j, j < i + 1 → (q.getD j default).length = wide q := fun j hj => by
        rcases Nat.lt_or_ge j i with h | h
        · exact hall j h
        · have : j = i := by omega
          subst this; exact hx
      have hx1 : ¬ (((q.getD i default).length : Int) ≠ (wide q : Int)) := by omega
      have hx2 : ((q.getD i default).length : Int) = (wide q : Int) := by omega
      have hw := i64_nat (n := i) (by omega)
      generalize hr : q.getD i default = r at *
      clear hall hx
      refine go3 ?_
      exact rec _ hlt ⟨_, _, _, _, hnext, rfl⟩
    · have hx1 : (((q.getD i default).length : Int) ≠ (wide q : Int)) := by omega
      have hx2 : ¬ ((q.getD i default).length : Int) = (wide q : Int) := by omega
      have he : even q = false := by
        rw [← Bool.not_eq_true, even_iff]
        exact fun h => hx (h _ (getD_mem hlt))
      generalize hr : q.getD i default = r at *
      clear hall hx rec
      refine go3 ?_
      trivial
  · have hl3 : ¬ ((i : Int) < (q.length : Int)) := by omega
    have he : even q = true := by
      rw [even_iff]
      intro r hr
      obtain ⟨j, hj, rfl⟩ := List.getElem_of_mem hr
      have := hall j (by omega)
      rwa [List.getD_eq_getElem?_getD, List.getElem?_eq_getElem hj] at this
    clear hall rec
    refine go3 ?_
    trivial
def unitR (n i : Nat) : List Rat := (List.replicate n 0).set i 1
def ident (n : Nat) : List (List Rat) := (List.range n).map (unitR n)
theorem s_Ident {n : Nat} (hn : n ≤ 200) : CP (CL F) 10 [eI n] = some (.tup [eT (ident n), eI 0]) := by
  refine CP_X (F := F) (f := 10) rfl rfl ?_
  have h0 : ¬ ((n : Int) < 0) := by omega
  have h1 : ¬ ((200 : Int) < (n : Int)) := by omega
  have h2 : n ≤ 11728124029610 := by omega
  refine go3 ?_
  refine X_up n (fun i s => ∃ j5 j11 j17 g, s = ⟨[(0, eI n), (2, .nil), (3, eI 0), (4, .ref 0 0 1 0 n), (5, j5), (11, j11), (15, eI n), (16, eI i), (17, j17)], some ⟨0, 1, em eR ((List.range i).map (unitR n)) ++ List.replicate (n - i) .nil⟩ :: g⟩) ?_ ?_ 0 (Nat.zero_le _) _ ⟨_, _, _, [], rfl⟩
  · rintro i s hi ⟨j5, j11, j17, g, rfl⟩ rec
    have hl := lt_c hi
    have hu := s_vect_Unit hn hi
    rw [show (List.replicate n (0 : Rat)).set i 1 = unitR n i from rfl] at hu
    obtain ⟨m, hm⟩ : ∃ m, n - i = m + 1 := ⟨n - i - 1, by omega⟩
    have hg := fill_get (f := eR) ((List.range i).map (unitR n)) m .nil
    have hs := fill_set (f := eR) ((List.range i).map (unitR n)) m .nil (unitR n i)
    rw [List.length_map, List.length_range] at hg hs
    rw [← hm, show m = n - (i + 1) by omega, show (List.range i).map (unitR n) ++ [unitR n i] = (List.range (i + 1)).map (unitR n) by rw [List.range_succ]; simp] at hs
    rw [← hm] at hg
    have hw := i64_nat (n := i) (by omega)
    clear hm h0 h1 h2
    refine go3 ?_
    exact rec _ ⟨_, _, _, _, rfl⟩
  · rintro s ⟨j5, j11, j17, g, rfl⟩
    have hl : ¬ ((n : Int) < (n : Int)) := nlt_c
    have he : List.replicate (n - n) AV.nil = [] := by simp
    have ht : List.take n ((List.range n).map (unitR n)) = ident n := take_len_g _ (by simp)
    refine go3 ?_
    trivial
theorem s_Ident_bad {n : Int} (h : n < 0 ∨ 200 < n) : CP (CL F) 10 [.int .i64 n] = some (.tup [.lst [], eI 2]) := by
  refine CP_X (F := F) (f := 10) rfl rfl ?_
  by_cases h1 : n < 0
  · clear h
    refine go3 ?_
    trivial
  · have h2 : 200 < n := by omega
    clear h
    refine go3 ?_
    trivial
end Go.S

end
section
set_option linter.unusedVariables false
set_option linter.unusedSimpArgs false
set_option maxRecDepth 100000
namespace Go.S
open Go Go.AM Go.RowKit Go.K
def runsTrue (F : Nat → Option AFunc) (n f : Nat) : Bool := match callN F n f [] [] with
  | some (.bool b, _) => b
  | _ => false
theorem CP_run {F : Nat → Option AFunc} {f : Nat} (n : Nat) (h : runsTrue F n f = true) : CP (CL F) f [] = some (.bool true) := by
  unfold runsTrue at h
  split at h
  · next b g hb =>
    subst h
    exact CP_raw (CL_of n hb) rfl
  · cases h
theorem s_works12 : CP (CL F) 16 [] = some (.bool true) := CP_run 300 (by decide +kernel)
theorem s_Among {n m : Nat} (hn : n < 1000000) (hm : 0 < m) (hm2 : m < 1000000) : CP (CL F) 17 [eI n, eI m] = some (eI (n % m : Nat)) := by
  refine CP_X (F := F) (f := 17) rfl rfl ?_
  have h1 : ¬ ((m : Int) < 1) := by omega
  have h2 : (m : Int) ≠ 0 := by omega
  have h3 : ¬ (m : Int) = 0 := by omega
  have w1 : IntKind.u64.wrap (n : Int) = n := wu64 (by omega) (by omega)
  have w2 : IntKind.u64.wrap (m : Int) = m := wu64 (by omega) (by omega)
  have w3 : Int.tmod (n : Int) (m : Int) = ((n % m : Nat) : Int) := rfl
  have w4 : wrap64 (((n % m : Nat) : Int)) = ((n % m : Nat) : Int) := by
    have := Nat.mod_lt n hm
    exact w64 (by omega) (by omega)
  refine go3 ?_
  trivial
theorem unit_getD {n : Nat} (hn : 0 < n) : (ident n).getD 0 default = unitR n 0 := by
  cases n with
  | zero => omega
  | succ n => simp [ident, List.getD, List.range_succ_eq_map]
theorem unit_len (n i : Nat) : (unitR n i).length = n := by simp [unitR]
theorem unit_lead {n : Nat} (hn : 0 < n) : lead (unitR n 0) = 0 := by
  cases n with
  | zero => omega
  | succ n =>
    show List.findIdx _ (1 :: List.replicate n 0) = 0
    rw [List.findIdx_cons]
    rfl
theorem unit_get0 {n : Nat} (hn : 0 < n) : (unitR n 0).getD 0 default = 1 := by
  cases n with
  | zero => omega
  | succ n => rfl
set_option maxHeartbeats 4000000 in
theorem law_MatrixChecks {t u : List (List XQ)} (ht : ∀ l ∈ t, ∀ x ∈ l, x.ok) (hu : ∀ l ∈ u, ∀ x ∈ l, x.ok) {n : Int} (_ : (Lit.int .i64 n).wf = true) : CP (CL F) 3 [.lst (em eXL t), .lst (em eXL u), .int .i64 n] = some (.bool true) := by
  refine CP_X (F := F) (f := 3) rfl rfl ?_
  obtain ⟨p, p1, p2, p3⟩ := s_Few12 ht (most := 6) (by decide)
  obtain ⟨q, q1, q2, q3⟩ := s_Few12 hu (most := 6) (by decide)
  replace p3 : CP (CL F) 8 [.lst (em eXL t), eI 6] = some (.tup [eT p, rT p]) := p3
  replace q3 : CP (CL F) 8 [.lst (em eXL u), eI 6] = some (.tup [eT q, rT q]) := q3
  have lp : p.length ≤ 6 := by omega
  have lq : q.length ≤ 6 := by omega
  have wp : wide p ≤ 6 := by
    unfold wide
    cases p with
    | nil => simp
    | cons r p => exact (p2 r (List.mem_cons_self ..)).1
  have m0 : may p = even p := by
    have h1 : p.length ≤ 200 := by omega
    have h2 : wide p ≤ 200 := by omega
    simp [may, h1, h2]
  have sz : ∀ {l : List (List Rat)}, (∀ r ∈ l, r.length ≤ 6 ∧ ∀ q ∈ r, Lq q ≤ 1) → ∀ r ∈ l, r.length ≤ 1000000 ∧ ∀ q ∈ r, Lq q < 100000000 := fun h r hr => ⟨by have := (h r hr).1; omega, fun q hq => by have := (h r hr).2 q hq; omega⟩
  have k1 := s_Size p
  have k2 := s_Check (t := p) (by omega)
  have k3 := s_even (q := p) (by omega)
  have k4 := s_Wide p
  have k5 := s_mSame (a := p) (b := q) (by omega) (sz p2)
  have k6 := s_Is12 (a := p) (q := q) (by omega) (sz p2) fun r hr => (sz q2 r hr).2
  have k7 := s_mSame (a := q) (b := q) (by omega) (sz q2)
  rw [decide_eq_true rfl] at k7
  have w := s_works12
  rw [m0] at k2
  have hl : (em rR p).length = p.length := em_len _
  clear p1 p2 q1 q2 wp m0 sz lp lq
  have K2 : ∃ c : Int, CP (CL F) 11 [eT p] = some (.int .i64 c) ∧ even p = decide (c = 0) := by
    refine ⟨_, k2, ?_⟩
    cases even p <;> rfl
  have K6 : ∃ c : Int, CP (CL F) 15 [eT p, rT q] = some (.int .i64 c) ∧ decide (p = q) = decide (c = 1) := by
    refine ⟨_, k6, ?_⟩
    by_cases h : p = q
    · rw [if_pos h, decide_eq_true h]; rfl
    · rw [if_neg h, decide_eq_false h]; rfl
  clear k2 k6
  obtain ⟨c2, k2, b2⟩ := K2
  obtain ⟨c6, k6, b6⟩ := K6
  rw [b2] at k3
  rw [b6] at k5
  clear b2 b6
  have r1 : (decide (c2 = 0) != decide (c2 = 0)) = false := bne_self_eq_false _
  have r2 : (decide (c6 = 1) != decide (c6 = 1)) = false := bne_self_eq_false _
  by_cases hn : n < 0 ∨ 200 < n
  · have i1 := s_Ident_bad hn
    by_cases h1 : n < 0
    · clear hn
      refine go3 ?_
      trivial
    · have h2 : 200 < n := by omega
      clear hn
      refine go3 ?_
      trivial
  · obtain ⟨m, rfl⟩ : ∃ m : Nat, n = m := ⟨n.toNat, by omega⟩
    have i1 := s_Ident (n := m) (by omega)
    have h1 : ¬ ((m : Int) < 0) := by omega
    have h2 : ¬ ((200 : Int) < m) := by omega
    by_cases h0 : m = 0
    · subst h0
      have i2 : CP (CL F) 17 [.int .i64 0, .int .i64 1] = some (.int .i64 0) := s_Among (n := 0) (m := 1) (by decide) (by decide) (by decide)
      replace i1 : CP (CL F) 10 [.int .i64 0] = some (.tup [.lst [], eI 0]) := i1
      have i3 : mx 0 1 = 1 := rfl
      clear h1 h2
      clear hn
      refine go3 ?_
      trivial
    · have i2 := s_Among (n := m) (m := m) (by omega) (by omega) (by omega)
      rw [Nat.mod_self] at i2
      have i3 : mx (m : Int) 1 = m := by unfold mx; split <;> omega
      have i4 := em_getN (f := eR) (ident m) 0 (by simp [ident]; omega)
      rw [unit_getD (by omega)] at i4
      have i5 := em_getN (f := eQ) (unitR m 0) 0 (by rw [unit_len]; omega)
      rw [unit_get0 (by omega)] at i5
      have i6 := s_vect_Lead (l := unitR m 0) (by rw [unit_len]; omega)
      rw [unit_lead (by omega)] at i6
      have i7 := s_rat_One (a := 1) (by have := Lq_int 1; have := L_small (x := 1) (by unfold ab; omega); rw [show ((1 : Int) : Rat) = 1 from rfl] at *; omega)
      rw [decide_eq_true rfl] at i7
      have i8 : (ident m).length = m := by simp [ident]
      have i9 := unit_len m 0
      have h3 : ¬ ((m : Int) = 0) := by omega
      clear hn h0
      refine go3 ?_
      trivial
end Go.S

end
