/- A part of the proof of the law GaussKernel: an abstract machine for the functions' code with its soundness, words, lemmas (assembled by a program). -/
import Derived.Test.YtflnfnemhgjglaaGreatCGaussKernel5
set_option linter.unusedVariables false
set_option linter.unusedSimpArgs false
set_option linter.unusedSectionVars false
section
set_option linter.unusedVariables false
set_option linter.unusedSimpArgs false
set_option maxRecDepth 100000
namespace Go.S
open Go Go.AM Go.RowKit Go.K
abbrev eT (t : List (List Rat)) : AV := .lst (em eR t)
abbrev rT (t : List (List Rat)) : AV := .lst (em rR t)
def wide (t : List (List Rat)) : Nat := (t.getD 0 []).length
def even (t : List (List Rat)) : Bool := t.all fun r => decide (r.length = wide t)
theorem even_iff {t : List (List Rat)} : even t = true ↔ ∀ r ∈ t, r.length = wide t := by simp [even]
theorem findIdx_spec {α : Type} [Inhabited α] {l : List α} {p : α → Bool} {i : Nat} (hi : i < l.length) (h1 : p (l.getD i default) = true) (h2 : ∀ j, j < i → p (l.getD j default) = false) : l.findIdx p = i := by
  rw [List.findIdx_eq hi]
  refine ⟨by rw [List.getD_eq_getElem?_getD, List.getElem?_eq_getElem hi] at h1; simpa using h1, fun j hj => ?_⟩
  have := h2 j hj
  rw [List.getD_eq_getElem?_getD, List.getElem?_eq_getElem (by omega)] at this
  simpa using this
theorem findIdx_none {α : Type} [Inhabited α] {l : List α} {p : α → Bool} (h : ∀ j, j < l.length → p (l.getD j default) = false) : ¬ l.findIdx p < l.length := by
  rw [List.findIdx_lt_length]
  rintro ⟨x, hx, hp⟩
  obtain ⟨j, hj, rfl⟩ := List.getElem_of_mem hx
  have := h j (by omega)
  rw [List.getD_eq_getElem?_getD, List.getElem?_eq_getElem hj] at this
  simp [hp] at this
theorem s_IndexRow {t : List (List Rat)} {g : Nat} {c : Int} {p : List Rat → Bool} (hl : t.length ≤ 1000000) (hg : ∀ x ∈ t, CP (CL F) g [eR x, .fad (.int .i64 c)] = some (.bool (p x))) :
    CP (CL F) 105 [eT t, .fn g [] [.fad (.int .i64 c)]] = some (eI (if t.findIdx p < t.length then (t.findIdx p : Int) else -1)) := by
  refine CP_X (F := F) (f := 105) rfl rfl ?_
  have c1 : ∀ h, fz h (.fn g [] [.fad (.int .i64 c)]) = some (.fn g [] [.fad (.int .i64 c)]) := fun _ => rfl
  have c2 : ∀ h, used h deep (.fn g [] [.fad (.int .i64 c)]) = [] := fun _ => rfl
  have c3 : ∀ h, fz h (.fad (.int .i64 c)) = some (.fad (.int .i64 c)) := fun _ => rfl
  have c4 : ∀ h, used h deep (.fad (.int .i64 c)) = [] := fun _ => rfl
  refine go3 ?_
  refine X_upto t.length (fun i s => ∃ j4 j5 j9 j16 g', (∀ j, j < i → p (t.getD j default) = false) ∧ s = ⟨[(0, eT t), (1, .fn g [] [.fad (.int .i64 c)]), (4, j4), (5, j5), (7, eI t.length), (8, eI i), (9, j9), (16, j16)], g'⟩) ?_ 0 (Nat.zero_le _) _ ⟨_, _, _, _, _, fun j hj => by omega, rfl⟩
  rintro i s hi ⟨j4, j5, j9, j16, g', hall, rfl⟩ rec
  by_cases hlt : i < t.length
  · have hlt2 := lt_c hlt
    have g1 := em_getN (f := eR) t i hlt
    have hc := hg _ (getD_mem (l := t) (i := i) hlt)
    cases hp : p (t.getD i default) with
    | true =>
      rw [findIdx_spec hlt hp hall, if_pos hlt]
      rw [hp] at hc
      clear hall hg rec hi hp
      refine go3 ?_
      trivial
    | false =>
      rw [hp] at hc
      have hnext : ∀ j, j < i + 1 → p (t.getD j default) = false := fun j hj => by
        rcases Nat.lt_or_ge j i with h | h
        · exact hall j h
        · have : j = i := by omega
          subst this; exact hp
      have hw := i64_nat (n := i) (by omega)
      clear hall hg hp
      refine go3 ?_
      exact rec _ hlt ⟨_, _, _, _, _, hnext, rfl⟩
  · have hl3 : ¬ ((i : Int) < (t.length : Int)) := by omega
    have he := findIdx_none (l := t) (p := p) fun j hj => hall j (by omega)
    rw [if_neg he]
    clear hall hg rec he
    refine go3 ?_
    trivial
theorem s_ContainsRow {t : List (List Rat)} {g : Nat} {c : Int} {p : List Rat → Bool} (hl : t.length ≤ 1000000) (hg : ∀ x ∈ t, CP (CL F) g [eR x, .fad (.int .i64 c)] = some (.bool (p x))) :
    CP (CL F) 56 [eT t, .fn g [] [.fad (.int .i64 c)]] = some (.bool (t.any p)) := by
  refine CP_X (F := F) (f := 56) rfl rfl ?_
  have c1 : ∀ h, fz h (.fn g [] [.fad (.int .i64 c)]) = some (.fn g [] [.fad (.int .i64 c)]) := fun _ => rfl
  have c2 : ∀ h, used h deep (.fn g [] [.fad (.int .i64 c)]) = [] := fun _ => rfl
  have h1 := s_IndexRow hl hg
  clear hg
  by_cases h : t.findIdx p < t.length
  · have ha : t.any p = true := by
      rw [List.any_eq_true]
      rw [List.findIdx_lt_length] at h
      exact h
    rw [if_pos h] at h1
    rw [ha]
    have h2 : (0 : Int) ≤ (t.findIdx p : Int) := by omega
    clear ha h
    refine go3 ?_
    trivial
  · have ha : t.any p = false := by
      rw [← Bool.not_eq_true, List.any_eq_true, ← List.findIdx_lt_length]
      exact h
    rw [if_neg h] at h1
    rw [ha]
    clear ha h
    refine go3 ?_
    trivial
theorem s_Size (t : List (List Rat)) : CP (CL F) 27 [eT t] = some (.tup [eI t.length, eI (wide t)]) := by
  refine CP_X (F := F) (f := 27) rfl rfl ?_
  cases t with
  | nil =>
    have h : wide [] = 0 := rfl
    have h0 : em eR [] = [] := rfl
    refine go3 ?_
    trivial
  | cons r t =>
    have h : wide (r :: t) = r.length := rfl
    have h1 : ¬ (((r :: t).length : Int) = 0) := by simp; omega
    have g1 := em_getN (f := eR) (r :: t) 0 (by simp)
    rw [show (r :: t).getD 0 default = r from rfl] at g1
    generalize r :: t = x at *
    refine go3 ?_
    trivial
theorem s_Wide (t : List (List Rat)) : CP (CL F) 41 [rT t] = some (eI (wide t)) := by
  refine CP_X (F := F) (f := 41) rfl rfl ?_
  cases t with
  | nil =>
    have h : wide [] = 0 := rfl
    have h0 : em rR [] = [] := rfl
    refine go3 ?_
    trivial
  | cons r t =>
    have h : wide (r :: t) = r.length := rfl
    have h1 : ¬ (((r :: t).length : Int) = 0) := by simp; omega
    have g1 := em_getN (f := rR) (r :: t) 0 (by simp)
    rw [show (r :: t).getD 0 default = r from rfl] at g1
    generalize r :: t = x at *
    refine go3 ?_
    trivial
theorem s_Check1 (r : List Rat) (c : Int) : CP (CL F) 57 [eR r, .fad (.int .i64 c)] = some (.bool (decide ((r.length : Int) ≠ c))) := by
  refine CP_X (F := F) (f := 57) rfl rfl ?_
  have c3 : ∀ h, fz h (.fad (.int .i64 c)) = some (.fad (.int .i64 c)) := fun _ => rfl
  refine go3 ?_
  simp
def may (t : List (List Rat)) : Bool := decide (t.length ≤ 200) && decide (wide t ≤ 200) && even t
theorem s_Check {t : List (List Rat)} (hl : t.length ≤ 1000000) : CP (CL F) 14 [eT t] = some (eI (if may t then 0 else 8)) := by
  refine CP_X (F := F) (f := 14) rfl rfl ?_
  have h0 := s_Size t
  have h1 := s_ContainsRow (t := t) (g := 57) (c := wide t) hl fun x _ => s_Check1 x _
  have h2 : t.any (fun x => decide ((x.length : Int) ≠ (wide t : Int))) = !even t := by
    unfold even
    rw [List.not_all_eq_any_not]
    congr 1
    funext r
    by_cases h : r.length = wide t
    · simp [h]
    · simp [h]; omega
  have c5 : ∀ g, fz (some ⟨0, 1, [eI (wide t)]⟩ :: g) (.fn 57 [] [.ptr 0 0 0 0]) = some (.fn 57 [] [.fad (eI (wide t))]) := fun _ => rfl
  have c6 : ∀ g, used (some ⟨0, 1, [eI (wide t)]⟩ :: g) deep (.fn 57 [] [.ptr 0 0 0 0]) = [0] := fun _ => rfl
  rw [h2] at h1
  clear h2
  by_cases a1 : t.length ≤ 200
  · have b1 : ¬ ((200 : Int) < (t.length : Int)) := by omega
    by_cases a2 : wide t ≤ 200
    · have b2 : ¬ ((200 : Int) < (wide t : Int)) := by omega
      cases h3 : even t with
      | true =>
        have h4 : may t = true := by simp [may, a1, a2, h3]
        rw [h3] at h1
        rw [Bool.not_true] at h1
        rw [h4, if_pos rfl]
        clear h3 h4 a1 a2
        refine go3 ?_
        trivial
      | false =>
        have h4 : may t = false := by simp [may, a1, a2, h3]
        rw [h3] at h1
        rw [Bool.not_false] at h1
        rw [h4, if_neg (by decide)]
        clear h3 h4 a1 a2
        refine go3 ?_
        trivial
    · have b2 : (200 : Int) < (wide t : Int) := by omega
      have h4 : may t = false := by simp [may, a2]
      rw [h4, if_neg (by decide)]
      clear h4 a1 a2
      refine go3 ?_
      trivial
  · have b1 : (200 : Int) < (t.length : Int) := by omega
    have h4 : may t = false := by simp [may, a1]
    rw [h4, if_neg (by decide)]
    clear h4 a1
    refine go3 ?_
    trivial
end Go.S

end
section
set_option linter.unusedVariables false
set_option linter.unusedSimpArgs false
set_option maxRecDepth 100000
namespace Go.S
open Go Go.AM Go.RowKit Go.K
theorem CL_XE {F : Nat → Option AFunc} {f np nt : Nat} {ks : List Nat} {res : List (Nat × Option (Nat × Bool))} {body : ACode} {args : List AV} {h : Heap} {P : AV × Heap → Prop} (hf : F f = some ⟨np, nt, ks, res, body⟩) (hn : args.length = np)
    (H : X F ks (fun e s => ∃ x, FinR res x e s ∧ P x) body ⟨args0 0 args, h⟩ .done) : ∃ x, CL F f args h = some x ∧ P x := by
  obtain ⟨e, s', h1, x, ⟨he, hr⟩, hp⟩ := H
  exact ⟨x, CL_run hf hn h1 he hr, hp⟩
theorem s_Few_raw {l : List XQ} (hx : ∀ x ∈ l, x.ok) {most : Nat} (hm : most ≤ 1000000) : ∃ qs : List Rat, qs.length = min l.length most ∧ (∀ q ∈ qs, Lq q ≤ 1) ∧ ∀ h, ∃ v w g, CL F 44 [.lst (em eX l), eI most] h = some (.tup [.ref h.length v 3 0 qs.length, .ref (h.length + 1) w 3 0 qs.length], h ++ (some ⟨v, 3, em eQ qs⟩ :: some ⟨w, 3, em rQ qs⟩ :: g)) := by
  have hex : ∃ f : XQ → Rat, ∀ x ∈ l, Lq (f x) ≤ 1 ∧ CP (CL F) 91 [eX x, eI 1] = some (eQ (f x)) := by
    classical
    refine ⟨fun x => if h : x ∈ l then (s_r08_CleanX (hx x h) (m := 1) (by decide) (by decide)).choose else 0, fun x h => ?_⟩
    simp only [h, dif_pos]
    exact (s_r08_CleanX (hx x h) (m := 1) (by decide) (by decide)).choose_spec
  obtain ⟨f, hf⟩ := hex
  refine ⟨(l.take most).map f, by simp; omega, fun q hq => by
    obtain ⟨x, hx, rfl⟩ := List.mem_map.1 hq
    exact (hf x (List.mem_of_mem_take hx)).1, fun h => ?_⟩
  suffices H : ∃ x, CL F 44 [.lst (em eX l), eI most] h = some x ∧ ∃ v w g, x = (.tup [.ref h.length v 3 0 ((l.take most).map f).length, .ref (h.length + 1) w 3 0 ((l.take most).map f).length], h ++ (some ⟨v, 3, em eQ ((l.take most).map f)⟩ :: some ⟨w, 3, em rQ ((l.take most).map f)⟩ :: g)) by
    obtain ⟨x, h1, v, w, g, rfl⟩ := H
    exact ⟨v, w, g, h1⟩
  refine CL_XE (F := F) (f := 44) rfl rfl ?_
  have c1 := @cells_eX
  have c2 := @agg_eX
  have c3 := @fz_eX
  have c4 := @us_eX
  have c5 := @shut_eX
  clear hx
  refine go3 ?_
  refine X_upto (min l.length most) (fun i s => ∃ j4 j5 j9 j20 v w g, s = ⟨[(0, .lst (em eX l)), (1, eI most), (4, j4), (5, j5), (6, .ref h.length v 3 0 i), (7, .ref (h.length + 1) w 3 0 i), (8, eI i), (9, j9), (20, j20)], h ++ (some ⟨v, 3, em eQ ((l.take i).map f)⟩ :: some ⟨w, 3, em rQ ((l.take i).map f)⟩ :: g)⟩) ?_ 0 (Nat.zero_le _) _ ⟨_, _, _, _, _, _, [], rfl⟩
  rintro i s hi ⟨j4, j5, j9, j20, v, w, g, rfl⟩ rec
  have hlen : ((l.take i).map f).length = i := by simp; omega
  have ht : List.take i ((l.take i).map f) = (l.take i).map f := take_len_g _ hlen.symm
  by_cases h1 : i < l.length
  · have h1' := lt_c h1
    by_cases h2 : i < most
    · have h2' := lt_c h2
      have hi2 : i < min l.length most := by omega
      have hg0 := em_getN (f := eX) l i h1
      obtain ⟨f1, f2⟩ := hf _ (getD_mem h1)
      have k1 := s_r08_Of (q := f (l.getD i default)) (by omega)
      have hs : (l.take i).map f ++ [f (l.getD i default)] = (l.take (i + 1)).map f := by rw [take_succ_getD l i h1]; simp
      have hlim : i + 1 ≤ 2513169434916 := by omega
      have hlim2 : i < 2513169434916 := by omega
      have hw := i64_nat (n := i) (by omega)
      clear hf f1 hlen hi
      refine go3 ?_
      exact rec _ hi2 ⟨_, _, _, _, _, _, _, rfl⟩
    · have h2' : ¬ ((i : Int) < (most : Int)) := by omega
      have hi2 : i = most := by omega
      subst hi2
      clear hf rec hi h1
      refine go3 ?_
      exact ⟨_, rfl, _, _, _, rfl⟩
  · have h1' : ¬ ((i : Int) < (l.length : Int)) := by omega
    have hi2 : l.take most = l := List.take_of_length_le (by omega)
    have hi3 : l.take i = l := List.take_of_length_le (by omega)
    rw [hi3] at hlen
    have ht2 : List.take i (l.map f) = l.map f := take_len_g _ hlen.symm
    rw [hi2, hi3]
    clear hf rec hi h1 hi2 hi3
    refine go3 ?_
    exact ⟨_, rfl, _, _, _, rfl⟩
def RowAt (b : Nat) (g : Heap) (f : Rat → AV) (c : AV) (r : List Rat) (k : Nat) : Prop := ∃ v ys, c = .ref (b + k) v 3 0 r.length ∧ g[k]? = some (some ⟨v, 3, em f r ++ ys⟩)
def RowsIn (b : Nat) (g : Heap) (f : Rat → AV) (cs : List AV) (t : List (List Rat)) (ks : List Nat) : Prop :=
  cs.length = t.length ∧ ks.length = t.length ∧ ∀ i, i < t.length → RowAt b g f (cs.getD i default) (t.getD i default) (ks.getD i default)
theorem RowAt.lt {b : Nat} {g : Heap} {f : Rat → AV} {c : AV} {r : List Rat} {k : Nat} (h : RowAt b g f c r k) : k < g.length := by
  obtain ⟨v, ys, rfl, h⟩ := h
  exact (List.getElem?_eq_some_iff.1 h).1
theorem RowAt.grow {b : Nat} {g : Heap} {f : Rat → AV} {c : AV} {r : List Rat} {k : Nat} (h : RowAt b g f c r k) (g' : Heap) : RowAt b (g ++ g') f c r k := by
  obtain ⟨v, ys, h1, h2⟩ := h
  refine ⟨v, ys, h1, ?_⟩
  rw [List.getElem?_append_left (List.getElem?_eq_some_iff.1 h2).1]
  exact h2
theorem RowAt.set {b : Nat} {g : Heap} {f : Rat → AV} {c : AV} {r : List Rat} {k : Nat} (h : RowAt b g f c r k) {j : Nat} (hj : j ≠ k) (x : Option Blk) : RowAt b (g.set j x) f c r k := by
  obtain ⟨v, ys, h1, h2⟩ := h
  refine ⟨v, ys, h1, ?_⟩
  rw [List.getElem?_set_ne hj]
  exact h2
theorem getD_snoc_lt {α : Type} [Inhabited α] {l : List α} {x : α} {i : Nat} (h : i < l.length) : (l ++ [x]).getD i default = l.getD i default := by
  simp [List.getD, List.getElem?_append_left h]
theorem getD_snoc_eq {α : Type} [Inhabited α] {l : List α} {x : α} : (l ++ [x]).getD l.length default = x := by simp [List.getD]
theorem RowsIn.grow {b : Nat} {g : Heap} {f : Rat → AV} {cs : List AV} {t : List (List Rat)} {ks : List Nat} (h : RowsIn b g f cs t ks) (g' : Heap) : RowsIn b (g ++ g') f cs t ks :=
  ⟨h.1, h.2.1, fun i hi => (h.2.2 i hi).grow g'⟩
theorem RowsIn.snoc {b : Nat} {g : Heap} {f : Rat → AV} {cs : List AV} {t : List (List Rat)} {ks : List Nat} (h : RowsIn b g f cs t ks) {c : AV} {r : List Rat} {k : Nat} (h1 : RowAt b g f c r k) : RowsIn b g f (cs ++ [c]) (t ++ [r]) (ks ++ [k]) := by
  obtain ⟨a1, a2, a3⟩ := h
  refine ⟨by simp [a1], by simp [a2], fun i hi => ?_⟩
  by_cases hl : i < t.length
  · rw [getD_snoc_lt (by omega), getD_snoc_lt hl, getD_snoc_lt (by omega)]
    exact a3 i hl
  · have : i = t.length := by simp at hi; omega
    subst this
    rw [getD_snoc_eq]
    rw [← a1, getD_snoc_eq, a1, ← a2, getD_snoc_eq]
    exact h1
theorem RowsIn.lt {b : Nat} {g : Heap} {f : Rat → AV} {cs : List AV} {t : List (List Rat)} {ks : List Nat} (h : RowsIn b g f cs t ks) : ∀ k ∈ ks, k < g.length := fun k hk => by
  obtain ⟨i, hi, rfl⟩ := List.getElem_of_mem hk
  have := (h.2.2 i (by have := h.2.1; omega)).lt
  rw [List.getD_eq_getElem?_getD, List.getElem?_eq_getElem hi] at this
  exact this
abbrev eXL (l : List XQ) : AV := .lst (em eX l)
theorem s_Few12_raw {t : List (List XQ)} (hx : ∀ l ∈ t, ∀ x ∈ l, x.ok) {most : Nat} (hm : most ≤ 1000000) : ∃ qs : List (List Rat), qs.length = min t.length most ∧ (∀ r ∈ qs, r.length ≤ most ∧ ∀ q ∈ r, Lq q ≤ 1) ∧
    ∀ h, ∃ v w cs ds ks ls g, CL F 11 [.lst (em eXL t), eI most] h = some (.tup [.ref h.length v 1 0 qs.length, .ref (h.length + 1) w 1 0 qs.length], h ++ (some ⟨v, 1, cs⟩ :: some ⟨w, 1, ds⟩ :: g)) ∧
      RowsIn (h.length + 2) g eQ cs qs ks ∧ RowsIn (h.length + 2) g rQ ds qs ls ∧ (ks ++ ls).Nodup := by
  have hex : ∃ f : List XQ → List Rat, ∀ l ∈ t, (f l).length = min l.length most ∧ (∀ q ∈ f l, Lq q ≤ 1) ∧ ∀ h, ∃ v w g, CL F 44 [eXL l, eI most] h = some (.tup [.ref h.length v 3 0 (f l).length, .ref (h.length + 1) w 3 0 (f l).length], h ++ (some ⟨v, 3, em eQ (f l)⟩ :: some ⟨w, 3, em rQ (f l)⟩ :: g)) := by
    classical
    refine ⟨fun l => if h : l ∈ t then (s_Few_raw (hx l h) hm).choose else [], fun l h => ?_⟩
    simp only [h, dif_pos]
    exact (s_Few_raw (hx l h) hm).choose_spec
  obtain ⟨f, hf⟩ := hex
  refine ⟨(t.take most).map f, by simp; omega, fun r hr => ?_, fun h => ?_⟩
  · obtain ⟨l, hl, rfl⟩ := List.mem_map.1 hr
    obtain ⟨h1, h2, _⟩ := hf l (List.mem_of_mem_take hl)
    exact ⟨by omega, h2⟩
  suffices H : ∃ x, CL F 11 [.lst (em eXL t), eI most] h = some x ∧ ∃ v w cs ds ks ls g, x = (.tup [.ref h.length v 1 0 ((t.take most).map f).length, .ref (h.length + 1) w 1 0 ((t.take most).map f).length], h ++ (some ⟨v, 1, cs⟩ :: some ⟨w, 1, ds⟩ :: g)) ∧
      RowsIn (h.length + 2) g eQ cs ((t.take most).map f) ks ∧ RowsIn (h.length + 2) g rQ ds ((t.take most).map f) ls ∧ (ks ++ ls).Nodup by
    obtain ⟨x, h1, v, w, cs, ds, ks, ls, g, rfl, h2⟩ := H
    exact ⟨v, w, cs, ds, ks, ls, g, h1, h2⟩
  refine CL_XE (F := F) (f := 11) rfl rfl ?_
  clear hx
  refine go3 ?_
  refine X_upto (min t.length most) (fun i s => ∃ j4 j5 j9 j10 j21 v w cs ds ks ls g, RowsIn (h.length + 2) g eQ cs ((t.take i).map f) ks ∧ RowsIn (h.length + 2) g rQ ds ((t.take i).map f) ls ∧ (ks ++ ls).Nodup ∧
    s = ⟨[(0, .lst (em eXL t)), (1, eI most), (4, j4), (5, j5), (6, .ref h.length v 1 0 i), (7, .ref (h.length + 1) w 1 0 i), (8, eI i), (9, j9), (10, j10), (21, j21)], h ++ (some ⟨v, 1, cs⟩ :: some ⟨w, 1, ds⟩ :: g)⟩) ?_ 0 (Nat.zero_le _) _
    ⟨_, _, _, _, _, _, _, [], [], [], [], [], ⟨rfl, rfl, fun i hi => by simp at hi⟩, ⟨rfl, rfl, fun i hi => by simp at hi⟩, by simp, rfl⟩
  rintro i s hi ⟨j4, j5, j9, j10, j21, v, w, cs, ds, ks, ls, g, R1, R2, R3, rfl⟩ rec
  have hlen : ((t.take i).map f).length = i := by simp; omega
  have l1 : cs.length = i := by rw [R1.1, hlen]
  have l2 : ds.length = i := by rw [R2.1, hlen]
  have ht1 : List.take i cs = cs := take_len_g _ l1.symm
  have ht2 : List.take i ds = ds := take_len_g _ l2.symm
  have ht3 : sub cs 0 i = cs := by unfold sub; rw [List.drop_zero]; exact ht1
  have ht4 : sub ds 0 i = ds := by unfold sub; rw [List.drop_zero]; exact ht2
  by_cases h1 : i < t.length
  · have h1' := lt_c h1
    by_cases h2 : i < most
    · have h2' := lt_c h2
      have hi2 : i < min t.length most := by omega
      have hg0 := em_getN (f := eXL) t i h1
      obtain ⟨f1, f2, f3⟩ := hf _ (getD_mem h1)
      obtain ⟨v', w', g', f4⟩ := f3 (h ++ (some ⟨v, 1, cs⟩ :: some ⟨w, 1, ds⟩ :: g))
      have hs : (t.take i).map f ++ [f (t.getD i default)] = (t.take (i + 1)).map f := by rw [take_succ_getD t i h1]; simp
      have hlim : i + 1 ≤ 5864062014805 := by omega
      have hlim2 : i < 5864062014805 := by omega
      have hw := i64_nat (n := i) (by omega)
      generalize hr : f (t.getD i default) = r at *
      clear hf f1 f2 f3 hlen hi
      refine go3 ?_
      refine rec _ hi2 ⟨_, _, _, _, _, _, _, _, _, ks ++ [g.length], ls ++ [g.length + 1], _, ?_, ?_, ?_, rfl⟩
      · rw [← hs]
        refine (R1.grow _).snoc ?_
        refine ⟨v', [], by congr 1; omega, ?_⟩
        rw [get_app0, List.append_nil]
        rfl
      · rw [← hs]
        refine (R2.grow _).snoc ?_
        refine ⟨w', [], by congr 1; omega, ?_⟩
        rw [get_app, List.append_nil]
        rfl
      · have q1 := R1.lt
        have q2 := R2.lt
        rw [List.nodup_append] at R3 ⊢
        obtain ⟨n1, n2, n3⟩ := R3
        refine ⟨?_, ?_, ?_⟩
        · rw [List.nodup_append]
          exact ⟨n1, by simp, fun a ha b hb => by have := q1 a ha; simp at hb; omega⟩
        · rw [List.nodup_append]
          exact ⟨n2, by simp, fun a ha b hb => by have := q2 a ha; simp at hb; omega⟩
        · intro a ha b hb
          simp only [List.mem_append, List.mem_singleton] at ha hb
          rcases ha with ha | rfl
          · rcases hb with hb | rfl
            · exact n3 a ha b hb
            · have := q1 a ha; omega
          · rcases hb with hb | rfl
            · have := q2 b hb; omega
            · omega
    · have h2' : ¬ ((i : Int) < (most : Int)) := by omega
      have hi2 : i = most := by omega
      subst hi2
      clear hf rec hi h1
      refine go3 ?_
      exact ⟨_, rfl, _, _, _, _, _, _, _, rfl, R1, R2, R3⟩
  · have h1' : ¬ ((i : Int) < (t.length : Int)) := by omega
    have hi2 : t.take most = t := List.take_of_length_le (by omega)
    have hi3 : t.take i = t := List.take_of_length_le (by omega)
    rw [hi3] at hlen R1 R2
    rw [hi2]
    clear hf rec hi h1 hi2 hi3
    refine go3 ?_
    exact ⟨_, rfl, _, _, _, _, _, _, _, rfl, R1, R2, R3⟩
theorem mapM_some {α β : Type} {F : α → Option β} {G : α → β} : ∀ (l : List α), (∀ x ∈ l, F x = some (G x)) → l.mapM F = some (l.map G) := by
  intro l
  induction l with
  | nil => intro _; rfl
  | cons x l ih =>
    intro h
    rw [List.mapM_cons, h x (List.mem_cons_self ..), ih fun y hy => h y (List.mem_cons_of_mem _ hy)]
    rfl
theorem RowAt.frz {b : Nat} {g H : Heap} {f : Rat → AV} {c : AV} {r : List Rat} {k : Nat} (h : RowAt b g f c r k) (hf : ∀ x, plain1 (f x) = true) (hH : H[b + k]? = g[k]?) (n : Nat) : frz H (n + 3) c = some (.lst (em f r)) := by
  obtain ⟨v, ys, rfl, h2⟩ := h
  show (blk H (b + k) v).bind (fun b => ((sub b.xs 0 r.length).mapM (Go.AM.frz H (n + 2))).map AV.lst) = _
  have h3 : blk H (b + k) v = some ⟨v, 3, em f r ++ ys⟩ := by
    unfold blk
    rw [hH, h2]
    exact if_pos rfl
  rw [h3]
  have h4 : sub (em f r ++ ys) 0 r.length = em f r := by
    unfold sub
    rw [List.drop_zero, List.take_left' (by simp [em])]
  show ((sub (em f r ++ ys) 0 r.length).mapM (Go.AM.frz H (n + 2))).map AV.lst = _
  rw [h4, mapM_some (G := id) _ fun x hx => by
    obtain ⟨q, _, rfl⟩ := List.mem_map.1 hx
    exact (frz_plain1 (hf q)).1]
  simp
theorem RowsIn.frz {b : Nat} {g H : Heap} {f : Rat → AV} {cs : List AV} {t : List (List Rat)} {ks : List Nat} (h : RowsIn b g f cs t ks) (hf : ∀ x, plain1 (f x) = true) (hH : ∀ k, H[b + k]? = g[k]?) (n : Nat) : cs.mapM (frz H (n + 3)) = some (em (fun r => .lst (em f r)) t) := by
  obtain ⟨h1, h2, h3⟩ := h
  have key : ∀ (cs : List AV) (t : List (List Rat)), cs.length = t.length → (∀ i, i < t.length → Go.AM.frz H (n + 3) (cs.getD i default) = some (.lst (em f (t.getD i default)))) → cs.mapM (Go.AM.frz H (n + 3)) = some (em (fun r => .lst (em f r)) t) := by
    intro cs
    induction cs with
    | nil =>
      intro t ht _
      cases t with
      | nil => rfl
      | cons r t => simp at ht
    | cons c cs ih =>
      intro t ht hi
      cases t with
      | nil => simp at ht
      | cons r t =>
        have a0 := hi 0 (by simp)
        have a1 := ih t (by simpa using ht) fun i hi' => hi (i + 1) (by simp; omega)
        rw [List.mapM_cons]
        rw [show Go.AM.frz H (n + 3) c = some (.lst (em f r)) from a0, a1]
        rfl
  exact key cs t h1 fun i hi => (h3 i hi).frz hf (hH _) n
theorem fz_rows2 {h : Heap} {v w : Nat} {cs ds : List AV} {g : Heap} {t : List (List Rat)} {ks ls : List Nat} (R1 : RowsIn (h.length + 2) g eQ cs t ks) (R2 : RowsIn (h.length + 2) g rQ ds t ls) :
    fz (h ++ (some ⟨v, 1, cs⟩ :: some ⟨w, 1, ds⟩ :: g)) (.tup [.ref h.length v 1 0 t.length, .ref (h.length + 1) w 1 0 t.length]) = some (.tup [eT t, rT t]) := by
  have hH : ∀ k, (h ++ (some ⟨v, 1, cs⟩ :: some ⟨w, 1, ds⟩ :: g))[h.length + 2 + k]? = g[k]? := fun k => by
    rw [Nat.add_assoc, get_app, show 2 + k = k + 1 + 1 by omega]
    rfl
  have a1 := R1.frz (fun x => E_eQ.pl x) hH 2
  have a2 := R2.frz (fun x => E_rQ.pl x) hH 2
  have b1 : blk (h ++ (some ⟨v, 1, cs⟩ :: some ⟨w, 1, ds⟩ :: g)) h.length v = some ⟨v, 1, cs⟩ := by
    unfold blk
    rw [get_app0]
    exact if_pos rfl
  have b2 : blk (h ++ (some ⟨v, 1, cs⟩ :: some ⟨w, 1, ds⟩ :: g)) (h.length + 1) w = some ⟨w, 1, ds⟩ := by
    unfold blk
    rw [get_app]
    exact if_pos rfl
  generalize h ++ (some ⟨v, 1, cs⟩ :: some ⟨w, 1, ds⟩ :: g) = H at *
  have c1 : sub cs 0 t.length = cs := by unfold sub; rw [List.drop_zero]; exact List.take_of_length_le (by rw [R1.1]; omega)
  have c2 : sub ds 0 t.length = ds := by unfold sub; rw [List.drop_zero]; exact List.take_of_length_le (by rw [R2.1]; omega)
  have d1 : frz H 6 (.ref h.length v 1 0 t.length) = some (eT t) := by
    show (blk H h.length v).bind (fun b => ((sub b.xs 0 t.length).mapM (Go.AM.frz H 5)).map AV.lst) = _
    rw [b1]
    show ((sub cs 0 t.length).mapM (Go.AM.frz H 5)).map AV.lst = _
    rw [c1, a1]
    rfl
  have d2 : frz H 6 (.ref (h.length + 1) w 1 0 t.length) = some (rT t) := by
    show (blk H (h.length + 1) w).bind (fun b => ((sub b.xs 0 t.length).mapM (Go.AM.frz H 5)).map AV.lst) = _
    rw [b2]
    show ((sub ds 0 t.length).mapM (Go.AM.frz H 5)).map AV.lst = _
    rw [c2, a2]
    rfl
  show ([AV.ref h.length v 1 0 t.length, .ref (h.length + 1) w 1 0 t.length].mapM (Go.AM.frz H 6)).map AV.tup = _
  rw [List.mapM_cons, d1, List.mapM_cons, d2]
  rfl
theorem s_Few12 {t : List (List XQ)} (hx : ∀ l ∈ t, ∀ x ∈ l, x.ok) {most : Nat} (hm : most ≤ 1000000) : ∃ qs : List (List Rat), qs.length = min t.length most ∧ (∀ r ∈ qs, r.length ≤ most ∧ ∀ q ∈ r, Lq q ≤ 1) ∧
    CP (CL F) 11 [.lst (em eXL t), eI most] = some (.tup [eT qs, rT qs]) := by
  obtain ⟨qs, h1, h2, h3⟩ := s_Few12_raw hx hm
  refine ⟨qs, h1, h2, ?_⟩
  obtain ⟨v, w, cs, ds, ks, ls, g, h4, R1, R2, _⟩ := h3 []
  exact CP_raw h4 (fz_rows2 (h := []) R1 R2)
end Go.S

end
section
set_option linter.unusedVariables false
set_option linter.unusedSimpArgs false
set_option maxRecDepth 100000
namespace Go.Proofs.YtflnfnemhgjglaaGreat.R
open Go Go.AM Go.S Go.RowKit Go.K Go.Proofs
theorem rdT : Rd Tryz.prog 22 (fun l : List (List XQ) => [.lst (em eXL l)]) fun l => ∀ r ∈ l, ∀ x ∈ r, x.ok :=
  (rd_slice Tryz.underlying22 rdR eXL (fun _ => rfl) (s := 1) (by kernel_rfl) (fun _ => rfl) (by decide)).map id (fun _ => rfl) fun l h => h.1
end Go.Proofs.YtflnfnemhgjglaaGreat.R

end
section
set_option linter.unusedVariables false
set_option linter.unusedSimpArgs false
namespace Go.S
abbrev Mt := Nat → Nat → Rat
def sm : Nat → (Nat → Rat) → Rat
  | 0, _ => 0
  | n + 1, f => sm n f + f n
theorem sm_congr {n : Nat} {f g : Nat → Rat} (h : ∀ i, i < n → f i = g i) : sm n f = sm n g := by
  induction n with
  | zero => rfl
  | succ n ih => simp only [sm]; rw [ih fun i hi => h i (by omega), h n (by omega)]
theorem sm_zero (n : Nat) : sm n (fun _ => 0) = 0 := by
  induction n with
  | zero => rfl
  | succ n ih => simp only [sm]; rw [ih]; grind
theorem sm_zero' {n : Nat} {f : Nat → Rat} (h : ∀ i, i < n → f i = 0) : sm n f = 0 := (sm_congr h).trans (sm_zero n)
theorem sm_add (n : Nat) (f g : Nat → Rat) : sm n (fun i => f i + g i) = sm n f + sm n g := by
  induction n with
  | zero => simp only [sm]; grind
  | succ n ih => simp only [sm]; rw [ih]; grind
theorem sm_mul (n : Nat) (k : Rat) (f : Nat → Rat) : sm n (fun i => k * f i) = k * sm n f := by
  induction n with
  | zero => simp only [sm]; grind
  | succ n ih => simp only [sm]; rw [ih]; grind
theorem sm_one {n j : Nat} {f : Nat → Rat} (hj : j < n) (h : ∀ i, i < n → i ≠ j → f i = 0) : sm n f = f j := by
  induction n with
  | zero => omega
  | succ n ih =>
    simp only [sm]
    by_cases e : j = n
    · subst e
      rw [sm_zero' fun i hi => h i (by omega) (by omega)]; grind
    · rw [ih (by omega) fun i hi hne => h i (by omega) hne, h n (by omega) (by omega)]; grind
def setr (A : Mt) (r : Nat) (f : Nat → Rat) : Mt := fun i c => if i = r then f c else A i c
def sw (A : Mt) (r : Nat) : Mt := fun i => A (if i = r then r + 1 else if i = r + 1 then r else i)
def swp (A : Mt) (r s : Nat) : Mt := fun i => A (if i = r then s else if i = s then r else i)
structure LinR (φ : (Nat → Rat) → Nat → Rat) : Prop where
  add : ∀ f g k c, φ (fun x => f x + k * g x) c = φ f c + k * φ g c
theorem LinR.zero {φ : (Nat → Rat) → Nat → Rat} (L : LinR φ) (c : Nat) : φ (fun _ => 0) c = 0 := by
  have h := L.add (fun _ => 0) (fun _ => 0) 1 c
  rw [show (fun x : Nat => (0 : Rat) + 1 * 0) = fun _ => 0 from by funext x; grind] at h
  grind
theorem LinR.mul {φ : (Nat → Rat) → Nat → Rat} (L : LinR φ) (f : Nat → Rat) (k : Rat) (c : Nat) : φ (fun x => k * f x) c = k * φ f c := by
  have h := L.add (fun _ => 0) f k c
  rw [show (fun x : Nat => (0 : Rat) + k * f x) = fun x => k * f x from by funext x; grind, L.zero] at h
  grind
end Go.S

end
section
set_option linter.unusedVariables false
set_option linter.unusedSimpArgs false
namespace Go.S
theorem setr_row (B : Mt) (r : Nat) (g : Nat → Rat) (i : Nat) : setr B r g i = if i = r then g else B i := by
  funext c; unfold setr; split <;> rfl
inductive Rop (n : Nat) : Mt → Mt → Rat → Prop
  | refl (A : Mt) : Rop n A A 1
  | scale {A B : Mt} {f : Rat} (r : Nat) (k : Rat) (hr : r < n) (hk : k ≠ 0) : Rop n A B f → Rop n A (setr B r fun x => k * B r x) (f * k⁻¹)
  | more {A B : Mt} {f : Rat} (r s : Nat) (k : Rat) (hr : r < n) (hs : s < n) (h : r ≠ s) : Rop n A B f → Rop n A (setr B r fun x => B r x + k * B s x) f
  | swap {A B : Mt} {f : Rat} (r s : Nat) (hr : r < n) (hs : s < n) (h : r ≠ s) : Rop n A B f → Rop n A (swp B r s) (-f)
structure Sub (P : (Nat → Rat) → Prop) : Prop where
  more : ∀ f g k, P f → P g → P fun x => f x + k * g x
  scale : ∀ f k, P f → P fun x => k * f x
theorem Rop.sub {n : Nat} {A B : Mt} {f : Rat} (H : Rop n A B f) {P : (Nat → Rat) → Prop} (S : Sub P) : (∀ i, i < n → P (A i)) ↔ (∀ i, i < n → P (B i)) := by
  induction H with
  | refl => exact Iff.rfl
  | scale r k hr hk _ ih =>
    rename_i B f _
    rw [ih]
    constructor
    · intro h i hi
      rw [setr_row]
      split
      · exact S.scale _ _ (h r hr)
      · exact h i hi
    · intro h i hi
      have h1 := h i hi
      rw [setr_row] at h1
      by_cases e : i = r
      · rw [if_pos e] at h1
        have h2 := S.scale _ k⁻¹ h1
        have : k⁻¹ * k = 1 := by rw [Rat.inv_mul_cancel _ hk]
        rw [show (fun x => k⁻¹ * (k * B r x)) = B i from by funext x; rw [e]; grind] at h2
        exact h2
      · rw [if_neg e] at h1; exact h1
  | more r s k hr hs h _ ih =>
    rename_i B f _
    rw [ih]
    constructor
    · intro h i hi
      rw [setr_row]
      split
      · exact S.more _ _ _ (h r hr) (h s hs)
      · exact h i hi
    · intro h' i hi
      have h1 := h' i hi
      rw [setr_row] at h1
      by_cases e : i = r
      · rw [if_pos e] at h1
        have h3 := h' s hs
        rw [setr_row, if_neg (Ne.symm h)] at h3
        have h2 := S.more _ _ (-k) h1 h3
        rw [show (fun x => (B r x + k * B s x) + -k * B s x) = B i from by funext x; rw [e]; grind] at h2
        exact h2
      · rw [if_neg e] at h1; exact h1
  | swap r s hr hs h _ ih =>
    rename_i B f _
    rw [ih]
    constructor
    · intro h i hi
      unfold swp
      split
      · exact h s hs
      · split
        · exact h r hr
        · exact h i hi
    · intro h' i hi
      by_cases e : i = r
      · subst e; have := h' s hs; unfold swp at this; rwa [if_neg (Ne.symm h), if_pos rfl] at this
      · by_cases e2 : i = s
        · subst e2; have := h' r hr; unfold swp at this; rwa [if_pos rfl] at this
        · have := h' i hi; unfold swp at this; rwa [if_neg e, if_neg e2] at this
def fndF (A : Mt) (j : Nat) : Nat → Nat → Nat
  | 0, a => a
  | d + 1, a => if A a j = 0 then fndF A j d (a + 1) else a
def fnd (n : Nat) (A : Mt) (j a : Nat) : Nat := fndF A j (n - a) a
theorem fndF_spec (A : Mt) (j : Nat) : ∀ d a, a ≤ fndF A j d a ∧ fndF A j d a ≤ a + d ∧ (∀ i, a ≤ i → i < fndF A j d a → A i j = 0) ∧ (fndF A j d a < a + d → A (fndF A j d a) j ≠ 0) := by
  intro d
  induction d with
  | zero => intro a; exact ⟨Nat.le_refl _, Nat.le_refl _, fun i h1 h2 => by simp only [fndF] at h2; omega, fun h => by simp only [fndF] at h; omega⟩
  | succ d ih =>
    intro a
    simp only [fndF]
    by_cases h : A a j = 0
    · rw [if_pos h]
      obtain ⟨h1, h2, h3, h4⟩ := ih (a + 1)
      refine ⟨by omega, by omega, fun i hi hi2 => ?_, fun hlt => h4 (by omega)⟩
      by_cases e : i = a
      · rw [e]; exact h
      · exact h3 i (by omega) hi2
    · rw [if_neg h]
      exact ⟨Nat.le_refl _, by omega, fun i h1 h2 => by omega, fun _ => h⟩
theorem fnd_spec {n : Nat} {A : Mt} {j a : Nat} (h : a ≤ n) : a ≤ fnd n A j a ∧ fnd n A j a ≤ n ∧ (∀ i, a ≤ i → i < fnd n A j a → A i j = 0) ∧ (fnd n A j a < n → A (fnd n A j a) j ≠ 0) := by
  obtain ⟨h1, h2, h3, h4⟩ := fndF_spec A j (n - a) a
  exact ⟨h1, by unfold fnd; omega, h3, fun hlt => h4 (by unfold fnd at hlt; omega)⟩
def elimTo (A : Mt) (a j i : Nat) : Mt := fun r x => if r < i ∧ r ≠ a then A r x - A r j * A a x else A r x
theorem elimTo_zero (A : Mt) (a j : Nat) : elimTo A a j 0 = A := by funext r x; simp [elimTo]
theorem elimTo_self (A : Mt) (a j : Nat) : elimTo A a j (a + 1) = elimTo A a j a := by
  funext r x
  unfold elimTo
  by_cases h : r < a
  · rw [if_pos (show r < a + 1 ∧ r ≠ a by omega), if_pos (show r < a ∧ r ≠ a by omega)]
  · rw [if_neg (show ¬ (r < a ∧ r ≠ a) by omega), if_neg (by omega)]
theorem elimTo_succ (A : Mt) {a j i : Nat} (h : i ≠ a) : elimTo A a j (i + 1) = setr (elimTo A a j i) i fun x => elimTo A a j i i x + -(A i j) * elimTo A a j i a x := by
  funext r x
  unfold setr
  by_cases e : r = i
  · subst e
    rw [if_pos rfl]
    unfold elimTo
    rw [if_pos (show r < r + 1 ∧ r ≠ a by omega)]
    show _ = (if r < r ∧ r ≠ a then _ else _) + -A r j * (if a < r ∧ a ≠ a then _ else _)
    rw [if_neg (by omega), if_neg (by omega)]
    grind
  · rw [if_neg e]
    unfold elimTo
    by_cases h1 : r < i ∧ r ≠ a
    · rw [if_pos h1, if_pos ⟨by omega, h1.2⟩]
    · rw [if_neg h1, if_neg (by omega)]
theorem elimTo_at (A : Mt) (a j i : Nat) : elimTo A a j i a = A a := by funext x; unfold elimTo; rw [if_neg (by omega)]
theorem elimTo_ge (A : Mt) {a j i r : Nat} (h : i ≤ r) : elimTo A a j i r = A r := by funext x; unfold elimTo; rw [if_neg (by omega)]
theorem Rop.elim {n : Nat} {A B : Mt} {f : Rat} (H : Rop n A B f) {a j : Nat} (ha : a < n) : ∀ i, i ≤ n → Rop n A (elimTo B a j i) f := by
  intro i
  induction i with
  | zero => intro _; rw [elimTo_zero]; exact H
  | succ i ih =>
    intro hi
    by_cases e : i = a
    · subst e; rw [elimTo_self]; exact ih (by omega)
    · rw [elimTo_succ _ e]
      exact .more i a _ (by omega) ha e (ih (by omega))
theorem swp_self (A : Mt) (a : Nat) : swp A a a = A := by
  funext i; unfold swp; congr 1; split
  · next h => exact h.symm
  · rfl
def pivR (A : Mt) (a k j : Nat) : Mt := setr (swp A a k) a fun x => (A k j)⁻¹ * A k x
def gstep (n j : Nat) (s : Mt × List Nat × Rat) : Mt × List Nat × Rat :=
  if fnd n s.1 j s.2.1.length = n then s else
    (elimTo (pivR s.1 s.2.1.length (fnd n s.1 j s.2.1.length) j) s.2.1.length j n, s.2.1 ++ [j], (if s.2.1.length = fnd n s.1 j s.2.1.length then s.2.2 else -s.2.2) * s.1 (fnd n s.1 j s.2.1.length) j)
def grun (n : Nat) (A : Mt) : Nat → Mt × List Nat × Rat
  | 0 => (A, [], 1)
  | j + 1 => gstep n j (grun n A j)
theorem Rop.gstep {n j : Nat} {A : Mt} {s : Mt × List Nat × Rat} (H : Rop n A s.1 s.2.2) (h : s.2.1.length ≤ n) : Rop n A (Go.S.gstep n j s).1 (Go.S.gstep n j s).2.2 := by
  unfold Go.S.gstep
  obtain ⟨g1, g2, g3, g4⟩ := fnd_spec (n := n) (A := s.1) (j := j) (a := s.2.1.length) h
  generalize fnd n s.1 j s.2.1.length = k at *
  split
  · exact H
  · next hk =>
    have hk2 : k < n := by omega
    have hp := g4 hk2
    generalize s.2.1.length = a at *
    refine Rop.elim ?_ (by omega) n (Nat.le_refl _)
    have h1 : Rop n A (swp s.1 a k) (if a = k then s.2.2 else -s.2.2) := by
      by_cases e : a = k
      · subst e; rw [swp_self, if_pos rfl]; exact H
      · rw [if_neg e]; exact .swap a k (by omega) hk2 e H
    have h2 := Rop.scale a (s.1 k j)⁻¹ (by omega) (by
      intro e
      have := Rat.mul_inv_cancel _ hp
      rw [e] at this
      grind) h1
    rw [Rat.inv_inv] at h2
    have e : swp s.1 a k a = s.1 k := by unfold swp; rw [if_pos rfl]
    rw [e] at h2
    exact h2
structure RR (n j : Nat) (A : Mt) (piv : List Nat) : Prop where
  le : piv.length ≤ n
  lt : ∀ i, i < piv.length → piv.getD i default < j
  one : ∀ i, i < piv.length → A i (piv.getD i default) = 1
  col : ∀ i, i < piv.length → ∀ r, r < n → r ≠ i → A r (piv.getD i default) = 0
  ahead : ∀ i, i < piv.length → ∀ x, x < piv.getD i default → A i x = 0
  rest : ∀ r, piv.length ≤ r → r < n → ∀ x, x < j → A r x = 0
  mono : ∀ i i', i < i' → i' < piv.length → piv.getD i default < piv.getD i' default
theorem RR.nil (n : Nat) (A : Mt) : RR n 0 A [] := ⟨Nat.zero_le _, fun i h => by simp at h, fun i h => by simp at h, fun i h => by simp at h, fun i h => by simp at h, fun r _ _ x h => by omega, fun i i' _ h => by simp at h⟩
theorem snoc_lt {l : List Nat} {x i : Nat} (h : i < l.length) : (l ++ [x]).getD i default = l.getD i default := by simp [List.getD, List.getElem?_append_left h]
theorem snoc_at {l : List Nat} {x : Nat} : (l ++ [x]).getD l.length default = x := by simp [List.getD]
theorem RR.step {n j : Nat} {A : Mt} {piv : List Nat} {d : Rat} (H : RR n j A piv) : RR n (j + 1) (gstep n j (A, piv, d)).1 (gstep n j (A, piv, d)).2.1 := by
  unfold gstep
  obtain ⟨g1, g2, g3, g4⟩ := fnd_spec (n := n) (A := A) (j := j) (a := piv.length) H.le
  simp only
  generalize fnd n A j piv.length = k at *
  split
  · next hk =>
    subst hk
    refine ⟨H.le, fun i hi => Nat.lt_succ_of_lt (H.lt i hi), H.one, H.col, H.ahead, fun r h1 h2 x hx => ?_, H.mono⟩
    by_cases e : x = j
    · rw [e]; exact g3 r h1 h2
    · exact H.rest r h1 h2 x (by omega)
  · next hk =>
    have hk2 : k < n := by omega
    have hp := g4 hk2
    simp only
    have hpi : (A k j)⁻¹ * A k j = 1 := Rat.inv_mul_cancel _ hp
    have z0 : ∀ x, x < j → A k x = 0 := fun x hx => H.rest k g1 hk2 x hx
    have va : ∀ x, elimTo (pivR A piv.length k j) piv.length j n piv.length x = (A k j)⁻¹ * A k x := fun x => by
      rw [elimTo_at]; simp [pivR, setr]
    have vr : ∀ r, r < n → r ≠ piv.length → ∀ x, elimTo (pivR A piv.length k j) piv.length j n r x = swp A piv.length k r x - swp A piv.length k r j * ((A k j)⁻¹ * A k x) := fun r hr hne x => by
      unfold elimTo
      rw [if_pos ⟨hr, hne⟩]
      simp [pivR, setr, hne]
    generalize elimTo (pivR A piv.length k j) piv.length j n = D at *
    have sr : ∀ r, r < n → r ≠ piv.length → ∃ r', r' < n ∧ swp A piv.length k r = A r' ∧ (r < piv.length → r' = r) ∧ (piv.length ≤ r → piv.length ≤ r') ∧ ∀ i, i < piv.length → r ≠ i → r' ≠ i := fun r hr hne => by
      unfold swp
      rw [if_neg hne]
      by_cases e : r = k
      · rw [if_pos e]; exact ⟨piv.length, by omega, rfl, fun h => by omega, fun _ => Nat.le_refl _, fun i hi _ => by omega⟩
      · rw [if_neg e]; exact ⟨r, hr, rfl, fun _ => rfl, fun h => h, fun i _ h => h⟩
    have low : ∀ r, r < n → r ≠ piv.length → ∀ x, x < j → D r x = swp A piv.length k r x := fun r hr hne x hx => by
      rw [vr r hr hne x, z0 x hx]; grind
    have lowa : ∀ x, x < j → D piv.length x = 0 := fun x hx => by rw [va, z0 x hx]; grind
    refine ⟨by simp; omega, ?_, ?_, ?_, ?_, ?_, ?_⟩
    · intro i hi
      by_cases e : i < piv.length
      · rw [snoc_lt e]; have := H.lt i e; omega
      · have : i = piv.length := by simp at hi; omega
        subst this; rw [snoc_at]; omega
    · intro i hi
      by_cases e : i < piv.length
      · rw [snoc_lt e, low i (by have := H.le; omega) (by omega) _ (H.lt i e)]
        obtain ⟨r', _, h2, h3, _, _⟩ := sr i (by have := H.le; omega) (by omega)
        rw [h2, h3 e]; exact H.one i e
      · have : i = piv.length := by simp at hi; omega
        subst this; rw [snoc_at, va, hpi]
    · intro i hi r hr hne
      by_cases e : i < piv.length
      · rw [snoc_lt e]
        by_cases e2 : r = piv.length
        · rw [e2]; exact lowa _ (H.lt i e)
        · rw [low r hr e2 _ (H.lt i e)]
          obtain ⟨r', h1, h2, _, _, h5⟩ := sr r hr e2
          rw [h2]; exact H.col i e r' h1 (h5 i e hne)
      · have : i = piv.length := by simp at hi; omega
        subst this; rw [snoc_at, vr r hr hne, hpi]; grind
    · intro i hi x hx
      by_cases e : i < piv.length
      · rw [snoc_lt e] at hx
        have := H.lt i e
        rw [low i (by have := H.le; omega) (by omega) x (by omega)]
        obtain ⟨r', _, h2, h3, _, _⟩ := sr i (by have := H.le; omega) (by omega)
        rw [h2, h3 e]; exact H.ahead i e x hx
      · have : i = piv.length := by simp at hi; omega
        subst this; rw [snoc_at] at hx; exact lowa x hx
    · intro r h1 h2 x hx
      simp at h1
      by_cases e : x = j
      · rw [e, vr r h2 (by omega), hpi]; grind
      · rw [low r h2 (by omega) x (by omega)]
        obtain ⟨r', q1, q2, _, q4, _⟩ := sr r h2 (by omega)
        rw [q2]; exact H.rest r' (q4 (by omega)) q1 x (by omega)
    · intro i i' h1 h2
      simp at h2
      by_cases e : i' < piv.length
      · rw [snoc_lt e, snoc_lt (by omega)]; exact H.mono i i' h1 e
      · have : i' = piv.length := by omega
        subst this; rw [snoc_at, snoc_lt h1]; exact H.lt i h1
theorem grun_RR (n : Nat) (A : Mt) : ∀ j, RR n j (grun n A j).1 (grun n A j).2.1 := by
  intro j
  induction j with
  | zero => exact RR.nil n A
  | succ j ih => exact RR.step (d := (grun n A j).2.2) ih
theorem grun_Rop (n : Nat) (A : Mt) : ∀ j, Rop n A (grun n A j).1 (grun n A j).2.2 := by
  intro j
  induction j with
  | zero => exact .refl A
  | succ j ih => exact Rop.gstep ih (grun_RR n A j).le
end Go.S

end
section
set_option linter.unusedVariables false
set_option linter.unusedSimpArgs false
namespace Go.S
def rowf (c : Nat) (f : Nat → Rat) : List Rat := (List.range c).map f
def tab (n c : Nat) (A : Mt) : List (List Rat) := (List.range n).map fun i => rowf c (A i)
def ent (t : List (List Rat)) : Mt := fun i j => (t.getD i default).getD j default
theorem rowf_len (c : Nat) (f : Nat → Rat) : (rowf c f).length = c := by simp [rowf]
theorem rowf_get {c : Nat} {f : Nat → Rat} {j : Nat} (h : j < c) : (rowf c f).getD j default = f j := by simp [rowf, List.getD, h]
theorem rowf_congr {c : Nat} {f g : Nat → Rat} (h : ∀ j, j < c → f j = g j) : rowf c f = rowf c g := List.map_congr_left fun j hj => h j (by simpa using hj)
theorem rowf_of (r : List Rat) : rowf r.length (fun j => r.getD j default) = r := by
  refine List.ext_getElem (by simp [rowf]) fun i h1 h2 => ?_
  simp [rowf, List.getD, List.getElem?_eq_getElem h2]
theorem mem_rowf {c : Nat} {f : Nat → Rat} {q : Rat} : q ∈ rowf c f ↔ ∃ j, j < c ∧ f j = q := by simp [rowf]
theorem rowf_map {c : Nat} {f : Nat → Rat} (k : Rat → Rat) : (rowf c f).map k = rowf c fun j => k (f j) := by simp [rowf]
theorem rowf_zip {c : Nat} {f g : Nat → Rat} (k : Rat → Rat → Rat) : List.zipWith k (rowf c f) (rowf c g) = rowf c fun j => k (f j) (g j) := by
  refine List.ext_getElem (by simp [rowf]) fun i h1 h2 => ?_
  simp [rowf]
theorem tab_len (n c : Nat) (A : Mt) : (tab n c A).length = n := by simp [tab]
theorem tab_get {n c : Nat} {A : Mt} {i : Nat} (h : i < n) : (tab n c A).getD i default = rowf c (A i) := by simp [tab, List.getD, h]
theorem mem_tab {n c : Nat} {A : Mt} {r : List Rat} : r ∈ tab n c A ↔ ∃ i, i < n ∧ rowf c (A i) = r := by simp [tab]
theorem tab_row {n c : Nat} {A : Mt} : ∀ r ∈ tab n c A, r.length = c := fun r h => by obtain ⟨i, _, rfl⟩ := mem_tab.1 h; exact rowf_len _ _
theorem tab_congr {n c : Nat} {A B : Mt} (h : ∀ i, i < n → ∀ j, j < c → A i j = B i j) : tab n c A = tab n c B := List.map_congr_left fun i hi => rowf_congr (h i (by simpa using hi))
theorem tab_set {n c : Nat} {A : Mt} {i : Nat} {f : Nat → Rat} (h : i < n) : (tab n c A).set i (rowf c f) = tab n c (setr A i f) := by
  refine List.ext_getElem (by simp [tab]) fun k h1 h2 => ?_
  rw [List.getElem_set]
  by_cases e : i = k
  · subst e; simp [tab, setr_row]
  · simp [tab, setr_row, e, Ne.symm e]
theorem tab_of {t : List (List Rat)} {c : Nat} (h : ∀ r ∈ t, r.length = c) : tab t.length c (ent t) = t := by
  refine List.ext_getElem (by simp [tab]) fun i h1 h2 => ?_
  have e := rowf_of t[i]
  rw [h _ (List.getElem_mem h2)] at e
  rw [← e]
  simp only [tab, List.getElem_map, List.getElem_range]
  refine rowf_congr fun j _ => ?_
  simp [ent, List.getD, List.getElem?_eq_getElem h2]
def mm (m : Nat) (A B : Mt) : Mt := fun i j => sm m fun k => A i k * B k j
end Go.S

end
section
set_option linter.unusedVariables false
set_option linter.unusedSimpArgs false
set_option maxRecDepth 100000
namespace Go.S
open Go Go.AM Go.RowKit Go.K
def ivl (l : List Nat) : List Int := l.map fun n : Nat => (n : Int)
theorem ivl_len (l : List Nat) : (ivl l).length = l.length := by simp [ivl]
theorem ivl_snoc (l : List Nat) (j : Nat) : ivl (l ++ [j]) = ivl l ++ [(j : Int)] := by simp [ivl]
abbrev aW (tr pr : AV) (d : Rat) : AV := .agg [tr, pr, .bool (decide (d.num < 0)), eN (ab d.num), eN (d.den : Int)]
theorem s_rat_Inv {a : Rat} (h0 : a ≠ 0) (h1 : Lq a < 100000000) : CP (CL F) 125 [eQ a] = some (.tup [eQ a⁻¹, eI 0]) := by
  refine CP_X (F := F) (f := 125) rfl rfl ?_
  have k1 := s_rat_up (q := a) (by omega)
  have k2 := s_rat_Make (p := a.den) (d := a.num) (by rwa [ne_eq, Rat.num_eq_zero]) (by have := Lq_den a; omega) (by have := Lq_num a; omega)
  rw [← Rat.inv_def] at k2
  clear h0
  refine go3 ?_
  trivial
theorem rQ_inv {a : Rat} (h : a ≠ 0) : AV.agg [.bool (decide (a.num < 0)), rN (a.den : Int), rN (ab a.num)] = rQ a⁻¹ := by
  have hn : a.num ≠ 0 := by rwa [ne_eq, Rat.num_eq_zero]
  unfold rQ
  rw [Rat.num_inv, Rat.den_inv, if_neg hn]
  have hd : (0 : Int) < a.den := by have := a.den_pos; omega
  rcases Int.lt_trichotomy a.num 0 with h1 | h1 | h1
  · rw [Int.sign_eq_neg_one_of_neg h1]
    have e1 : decide ((-1 * (a.den : Int)) < 0) = true := decide_eq_true (by omega)
    rw [e1, decide_eq_true h1, show ab (-1 * (a.den : Int)) = a.den from by unfold ab; omega, show ((a.num.natAbs : Nat) : Int) = ab a.num from by unfold ab; omega]
  · exact (hn h1).elim
  · rw [Int.sign_eq_one_of_pos h1]
    have e1 : decide ((1 * (a.den : Int)) < 0) = false := decide_eq_false (by omega)
    rw [e1, decide_eq_false (by omega), show ab (1 * (a.den : Int)) = a.den from by unfold ab; omega, show ((a.num.natAbs : Nat) : Int) = ab a.num from by unfold ab; omega]
theorem s_r08_Inv {a : Rat} (h0 : a ≠ 0) : CP (CL F) 59 [rQ a] = some (rQ a⁻¹) := by
  refine CP_X (F := F) (f := 59) rfl rfl ?_
  have k := rQ_inv h0
  clear h0
  refine go3 ?_
  trivial
theorem may_iff {t : List (List Rat)} : may t = true ↔ t.length ≤ 200 ∧ wide t ≤ 200 ∧ ∀ r ∈ t, r.length = wide t := by
  unfold may
  simp only [Bool.and_eq_true, decide_eq_true_eq, even_iff, and_assoc]
end Go.S

end
section
set_option linter.unusedVariables false
set_option linter.unusedSimpArgs false
set_option maxRecDepth 100000
namespace Go.S
open Go Go.AM Go.RowKit Go.K
theorem s_find {n c : Nat} {A : Mt} {d : Rat} {pr : AV} {x : Option Blk} {vt : Nat} {g : Heap} {a j : Nat} (ha : a ≤ n) (hn : n ≤ 1000000) (hj : j < c) :
    CL F 123 [.ptr 0 0 0 0, eI a, eI j] (some ⟨0, 5, [aW (.ref 2 vt 1 0 n) pr d]⟩ :: x :: some ⟨vt, 1, em eR (tab n c A)⟩ :: g) = some (eI (fnd n A j a), (some ⟨0, 5, [aW (.ref 2 vt 1 0 n) pr d]⟩ :: x :: some ⟨vt, 1, em eR (tab n c A)⟩ :: g)) := by
  refine CL_X (F := F) (f := 123) rfl rfl ?_
  obtain ⟨k1, k2, k3, k4⟩ := fnd_spec (n := n) (A := A) (j := j) ha
  generalize hk : fnd n A j a = k at *
  have hl : (em eR (tab n c A)).length = n := by rw [em_len, tab_len]
  refine go3 ?_
  refine X_upto (k - a) (fun i s => ∃ j15 j29, s = ⟨[(0, .ptr 0 0 0 0), (1, eI a), (2, eI j), (6, eI 0), (7, eI (a + i : Nat)), (15, j15), (29, j29)], (some ⟨0, 5, [aW (.ref 2 vt 1 0 n) pr d]⟩ :: x :: some ⟨vt, 1, em eR (tab n c A)⟩ :: g)⟩) ?_ 0 (Nat.zero_le _) _ ⟨_, _, rfl⟩
  rintro i s hi ⟨j15, j29, rfl⟩ rec
  by_cases hin : a + i < n
  · have g1 := em_getN (f := eR) (tab n c A) (a + i) (by rw [tab_len]; exact hin)
    rw [tab_get hin] at g1
    have g2 := em_getN (f := eQ) (rowf c (A (a + i))) j (by rw [rowf_len]; exact hj)
    rw [rowf_get hj] at g2
    have hrl := rowf_len c (A (a + i))
    have sg := s_rat_Sign (A (a + i) j)
    have c1 : (((a + i : Nat) : Int) < (n : Int)) := by omega
    have c2 : ((j : Int) < (c : Int)) := by omega
    by_cases e : i < k - a
    · have z : A (a + i) j = 0 := k3 (a + i) (by omega) (by omega)
      have z2 : sgn (A (a + i) j).num = 0 := (sgn_num_zero _).2 z
      rw [z2] at sg
      have hw : wrap64 (((a + i : Nat) : Int) + 1) = ((a + (i + 1) : Nat) : Int) := i64_nat (by omega)
      generalize A (a + i) j = y at *
      generalize rowf c (A (a + i)) = r at *
      generalize a + i = ai at *
      clear hk k1 k2 k3 k4 z z2 hi
      refine go3 ?_
      exact rec _ e ⟨_, _, rfl⟩
    · have hik : a + i = k := by omega
      have z : A (a + i) j ≠ 0 := by rw [hik]; exact k4 (by omega)
      have z2 : ¬ (sgn (A (a + i) j).num = 0) := fun h => z ((sgn_num_zero _).1 h)
      subst hik
      generalize A (a + i) j = y at *
      generalize rowf c (A (a + i)) = r at *
      generalize a + i = ai at *
      clear hk k1 k2 k3 k4 z hi rec e
      refine go3 ?_
      trivial
  · have hik : a + i = k := by omega
    have hkn : k = n := by omega
    have c1 : ¬ (((a + i : Nat) : Int) < (n : Int)) := by omega
    subst hkn
    rw [hik] at c1
    rw [hik]
    clear hk k1 k2 k3 k4 hi rec hik hin ha hj
    refine go3 ?_
    trivial
theorem s_swap {n c : Nat} {A : Mt} {d : Rat} {pr : AV} {x : Option Blk} {vt : Nat} {g : Heap} {a k : Nat} (ha : a < n) (hk : k < n) (hd : Lq d < 100000000) :
    CL F 124 [.ptr 0 0 0 0, eI a, eI k] (some ⟨0, 5, [aW (.ref 2 vt 1 0 n) pr d]⟩ :: x :: some ⟨vt, 1, em eR (tab n c A)⟩ :: g) = some (.tup [], (some ⟨0, 5, [aW (.ref 2 vt 1 0 n) pr (if a = k then d else -d)]⟩ :: x :: some ⟨vt, 1, em eR (tab n c (swp A a k))⟩ :: g)) := by
  refine CL_X (F := F) (f := 124) rfl rfl ?_
  by_cases e : a = k
  · subst e
    rw [if_pos rfl, swp_self]
    refine go3 ?_
    trivial
  · rw [if_neg e]
    have e1 : ¬ ((a : Int) = (k : Int)) := by omega
    have g1 := em_getN (f := eR) (tab n c A) a (by rw [tab_len]; exact ha)
    have g2 := em_getN (f := eR) (tab n c A) k (by rw [tab_len]; exact hk)
    rw [tab_get ha] at g1
    rw [tab_get hk] at g2
    have s1 : ((tab n c A).set a (rowf c (A k))).set k (rowf c (A a)) = tab n c (swp A a k) := by
      rw [tab_set ha, tab_set hk]
      refine congrArg (tab n c) ?_
      funext i y
      unfold setr swp
      by_cases h1 : i = k
      · subst h1; rw [if_pos rfl, if_neg (Ne.symm e), if_pos rfl]
      · rw [if_neg h1]
        by_cases h2 : i = a
        · subst h2; rw [if_pos rfl, if_pos rfl]
        · rw [if_neg h2, if_neg h2, if_neg h1]
    have g3 : (em eR ((tab n c A).set a (rowf c (A k))))[k]? = some (eR (rowf c (A k))) := by
      rw [← em_set, List.getElem?_set_ne e]; exact g2
    have c1 : ((a : Int) < (n : Int)) := by omega
    have c2 : ((k : Int) < (n : Int)) := by omega
    have hl : (em eR (tab n c A)).length = n := by rw [em_len, tab_len]
    have nn := s_rat_Neg hd
    generalize rowf c (A k) = rk at *
    generalize rowf c (A a) = ra at *
    generalize tab n c (swp A a k) = T2 at *
    generalize tab n c A = T1 at *
    clear e
    refine go3 ?_
    trivial
def PV (g : Heap) (piv : List Nat) (pr : AV) : Prop := (piv = [] ∧ pr = .nil) ∨ ∃ vp g1 g2, g = g1 ++ some ⟨vp, 1, ui (ivl piv)⟩ :: g2 ∧ pr = .ref (g1.length + 1 + 1 + 1) vp 1 0 piv.length
theorem PV.len {g : Heap} {piv : List Nat} {pr : AV} (h : PV g piv pr) : lenA false pr = some (eI piv.length) := by
  rcases h with ⟨rfl, rfl⟩ | ⟨vp, g1, g2, _, rfl⟩ <;> rfl
def WH (n c : Nat) (s : Mt × List Nat × Rat) (h : Heap) : Prop := ∃ x vt pr g, h = (some ⟨0, 5, [aW (.ref 2 vt 1 0 n) pr s.2.2]⟩ :: x :: some ⟨vt, 1, em eR (tab n c s.1)⟩ :: g) ∧ PV g s.2.1 pr
theorem s_step {n c j : Nat} {s : Mt × List Nat × Rat} {h : Heap} (H : WH n c s h) (hn : n ≤ 1000) (hc : c ≤ 1000) (hj : j < c) (hle : s.2.1.length ≤ n) {M : Nat} (hM : M < 1000000) (hA : ∀ r, r < n → ∀ y, y < c → Lq (s.1 r y) ≤ M) (hd : Lq s.2.2 < 10000000) :
    ∃ x, CL F 83 [.ptr 0 0 0 0, eI j] h = some x ∧ ∃ h', x = (.tup [], h') ∧ WH n c (gstep n j s) h' := by
  obtain ⟨A, piv, d⟩ := s
  obtain ⟨x, vt, pr, g, rfl, hpv⟩ := H
  simp only at hpv hle hA hd
  have hlen := hpv.len
  unfold lenA at hlen
  refine CL_XE (F := F) (f := 83) rfl rfl ?_
  obtain ⟨k1, k2, k3, k4⟩ := fnd_spec (n := n) (A := A) (j := j) hle
  have hf := s_find (n := n) (c := c) (A := A) (d := d) (pr := pr) (x := x) (vt := vt) (g := g) (a := piv.length) (j := j) hle (by omega) hj
  have hgs : gstep n j (A, piv, d) = if fnd n A j piv.length = n then (A, piv, d) else (elimTo (pivR A piv.length (fnd n A j piv.length) j) piv.length j n, piv ++ [j], (if piv.length = fnd n A j piv.length then d else -d) * A (fnd n A j piv.length) j) := rfl
  rw [hgs]
  clear hgs
  generalize fnd n A j piv.length = k at *
  by_cases hk : k = n
  · subst hk
    rw [if_pos rfl]
    clear k1 k2 k3 k4 hA hd hle
    refine go3 ?_
    exact ⟨_, rfl, _, rfl, _, _, _, _, rfl, hpv⟩
  · rw [if_neg hk]
    have hkn : k < n := by omega
    have hp := k4 hkn
    have hkc : ¬ ((k : Int) = (n : Int)) := by omega
    generalize ha : piv.length = a at *
    have han : a < n := by omega
    have hs := s_swap (n := n) (c := c) (A := A) (d := d) (pr := pr) (x := x) (vt := vt) (g := g) (a := a) (k := k) han hkn (by omega)
    have hdd : Lq (if a = k then d else -d) < 10000000 := by
      split
      · exact hd
      · rw [Lq_neg]; exact hd
    generalize (if a = k then d else -d) = d1 at *
    have hB : swp A a k a = A k := by unfold swp; rw [if_pos rfl]
    have hrow : rowf c (swp A a k a) = rowf c (A k) := by rw [hB]
    have g1 := em_getN (f := eR) (tab n c (swp A a k)) a (by rw [tab_len]; exact han)
    rw [tab_get han, hrow] at g1
    have g2 := em_getN (f := eQ) (rowf c (A k)) j (by rw [rowf_len]; exact hj)
    rw [rowf_get hj] at g2
    have m1 := s_rat_Mul (a := d1) (b := A k j) (by omega) (by have := hA k hkn j hj; omega)
    have m2 := s_rat_Inv (a := A k j) hp (by have := hA k hkn j hj; omega)
    have m3 := s_vect_Scale (l := rowf c (A k)) (c := (A k j)⁻¹) (by rw [rowf_len]; omega) (M := M) (by omega) (fun q hq => by
      obtain ⟨y, hy, rfl⟩ := mem_rowf.1 hq
      exact hA k hkn y hy) (by
      have := hA k hkn j hj
      have := Lq_inv (A k j) hp
      omega)
    have e1 : (rowf c (A k)).map (· * (A k j)⁻¹) = rowf c fun x => (A k j)⁻¹ * A k x := by
      rw [rowf_map]
      exact rowf_congr fun y _ => Rat.mul_comm _ _
    rw [e1] at m3
    have s1 : (tab n c (swp A a k)).set a (rowf c fun x => (A k j)⁻¹ * A k x) = tab n c (pivR A a k j) := tab_set han
    have c1 : ((a : Int) < (n : Int)) := by omega
    have c2 : ((j : Int) < (c : Int)) := by omega
    have hrl := rowf_len c (A k)
    have hl : (em eR (tab n c (swp A a k))).length = n := by rw [em_len, tab_len]
    have bn : ∀ r, r < n → r ≠ a → ∀ y, y < c → Lq (pivR A a k j r y) ≤ M := fun r hr hne y hy => by
      unfold pivR setr
      rw [if_neg hne]
      unfold swp
      rw [if_neg hne]
      split
      · exact hA a han y hy
      · exact hA r hr y hy
    have ba : ∀ y, y < c → Lq (pivR A a k j a y) ≤ 2 * M := fun y hy => by
      unfold pivR setr
      rw [if_pos rfl]
      have := hA k hkn y hy
      have := hA k hkn j hj
      have := Lq_inv (A k j) hp
      have := Lq_mul (A k j)⁻¹ (A k y)
      show Lq ((A k j)⁻¹ * A k y) ≤ 2 * M
      omega
    generalize (A k j)⁻¹ = iv at *
    generalize A k j = p at *
    generalize rowf c (A k) = rk at *
    generalize rowf c (fun x => iv * A k x) = rs at *
    generalize tab n c (swp A a k) = T1 at *
    generalize pivR A a k j = E at *
    clear hk k1 k2 k3 k4 hA hd hdd hle hp hB hrow e1 hkn
    refine go3 ?_
    refine X_up n (fun i s => ∃ j9 j75 j93 g', s = ⟨[(0, .ptr 0 0 0 0), (1, eI j), (4, eI a), (5, eI k), (6, .ptr (g.length + 1 + 1 + 1) 0 0 0), (7, .ptr (g.length + 1 + 1 + 1 + 1) 0 0 0), (9, j9), (25, .bool false), (73, eI n), (74, eI i), (75, j75), (93, j93)], (some ⟨0, 5, [.agg [.ref 2 vt 1 0 n, pr, .bool (decide ((d1 * p).num < 0)), eN (ab (d1 * p).num), eN (d1 * p).den]]⟩ :: x :: some ⟨vt, 1, em eR (tab n c (elimTo E a j i))⟩ :: (g ++ g'))⟩) ?_ ?_ 0 (Nat.zero_le _) _ ⟨_, _, _, _, by rw [elimTo_zero]; rfl⟩
    · rintro i s hi ⟨j9, j75, j93, g', rfl⟩ rec
      have hlt := lt_c hi
      have hl := (em_len (f := eR) (tab n c (elimTo E a j i))).trans (tab_len n c _)
      have hi6 : i < 9223372036854775807 := by omega
      by_cases hia : i = a
      · subst hia
        rw [elimTo_self] at rec
        have c3 : ¬ ((i : Int) ≠ (i : Int)) := by omega
        have hw := i64_nat hi6
        clear bn ba hf hs
        refine go3 ?_
        exact rec _ ⟨_, _, _, _, rfl⟩
      · have c3 : ((i : Int) ≠ (a : Int)) := by omega
        have c4 : ¬ ((i : Int) = (a : Int)) := by omega
        have q1 := em_getN (f := eR) (tab n c (elimTo E a j i)) i (by rw [tab_len]; exact hi)
        rw [tab_get hi, elimTo_ge E (Nat.le_refl i)] at q1
        have q2 := em_getN (f := eQ) (rowf c (E i)) j (by rw [rowf_len]; exact hj)
        rw [rowf_get hj] at q2
        have q3 := em_getN (f := eR) (tab n c (elimTo E a j i)) a (by rw [tab_len]; exact han)
        rw [tab_get han, elimTo_at] at q3
        have q4 := s_rat_Sign (E i j)
        have rl1 := rowf_len c (E i)
        have b1 := bn i hi hia
        by_cases hz : E i j = 0
        · have q5 : sgn (E i j).num = 0 := (sgn_num_zero _).2 hz
          have q6 : tab n c (elimTo E a j i) = tab n c (elimTo E a j (i + 1)) := tab_congr fun r hr y hy => by
            rw [elimTo_succ E hia]
            unfold setr
            split
            · next e =>
              rw [e, hz]
              grind
            · rfl
          rw [q5] at q4
          rw [← q6] at rec
          generalize tab n c (elimTo E a j i) = T2 at *
          generalize rowf c (E i) = ri at *
          generalize rowf c (E a) = ra at *
          generalize E i j = z at *
          have hw := i64_nat hi6
          clear bn ba hf hs hz b1 q6
          refine go3 ?_
          exact rec _ ⟨_, _, _, _, rfl⟩
        · have q5 : ¬ (sgn (E i j).num = 0) := fun h => hz ((sgn_num_zero _).1 h)
          have q6 := s_vect_Less (a := rowf c (E i)) (b := rowf c (E a)) (k := E i j) (by rw [rowf_len]; omega) (by rw [rowf_len, rowf_len]) (M := 2 * M) (by omega) (fun q hq => by
            obtain ⟨y, hy, rfl⟩ := mem_rowf.1 hq
            have := b1 y hy
            omega) (fun q hq => by
            obtain ⟨y, hy, rfl⟩ := mem_rowf.1 hq
            exact ba y hy) (by have := b1 j hj; omega)
          have q7 : (tab n c (elimTo E a j i)).set i (lessR (rowf c (E i)) (E i j) (rowf c (E a))) = tab n c (elimTo E a j (i + 1)) := by
            have e : lessR (rowf c (E i)) (E i j) (rowf c (E a)) = rowf c fun x => elimTo E a j i i x + -(E i j) * elimTo E a j i a x := by
              unfold lessR
              rw [rowf_zip, elimTo_ge E (Nat.le_refl i), elimTo_at]
              exact rowf_congr fun y _ => by grind
            rw [e, elimTo_succ E hia, tab_set hi]
          generalize lessR (rowf c (E i)) (E i j) (rowf c (E a)) = rn at *
          generalize tab n c (elimTo E a j (i + 1)) = T3 at *
          generalize tab n c (elimTo E a j i) = T2 at *
          generalize rowf c (E i) = ri at *
          generalize rowf c (E a) = ra at *
          generalize E i j = z at *
          have hw := i64_nat hi6
          clear bn ba hf hs hz b1
          refine go3 ?_
          exact rec _ ⟨_, _, _, _, rfl⟩
    · rintro s ⟨j9, j75, j93, g', rfl⟩
      have hlt : ¬ ((n : Int) < (n : Int)) := nlt_c
      have hi6 : piv.length + 1 < 17592186044416 := by omega
      rcases hpv with ⟨rfl, rfl⟩ | ⟨vp, g1, g2, rfl, rfl⟩
      · have z1 : (ui [(j : Int)]).isEmpty = false := rfl
        clear bn ba hf hs
        refine go3 ?_
        exact ⟨_, rfl, _, rfl, _, _, _, _, rfl, .inr ⟨0, g ++ (g' ++ [some ⟨0, 1, ui [(j : Int)]⟩]), [], by simp [ivl], by simp⟩⟩
      · have z1 : (ui [(j : Int)]).isEmpty = false := rfl
        have z2 : (ivl piv).length = a := by rw [ivl_len, ha]
        have z3 := ivl_snoc piv j
        have z4 : List.take a (ivl piv) = ivl piv := take_len_g _ z2.symm
        rw [ha] at hi6
        have z5 : (piv ++ [j]).length = a + 1 := by simp [ha]
        clear bn ba hf hs
        refine go3 ?_
        exact ⟨_, rfl, _, rfl, _, _, _, _, rfl, .inr ⟨vp + 1, g1, _, by rw [z3], by rw [z5]⟩⟩
end Go.S

end
section
set_option linter.unusedVariables false
set_option linter.unusedSimpArgs false
set_option maxRecDepth 100000
namespace Go.S
open Go Go.AM Go.RowKit Go.K
theorem s_clonev {l : List Rat} (hl : l.length ≤ 1000000) (h : Heap) : cloneV (CL F) 115 (eR l) h = some (eR l, h) := by
  cases l with
  | nil =>
    show cloneV (CL F) _ (.lst []) h = _
    rw [cloneV_nil]
    have h1 := s_clone_nil h
    rw [cloneA_nil] at h1
    split at h1
    · next hh => rw [if_pos hh]; rfl
    · cases h1
  | cons x l =>
    rw [cloneV_ne (by intro e; cases e)]
    have h1 := s_clone hl [] (by intro e; cases e)
    rw [callA_pure, fzs_cons, fz_lst, fzs_nil, fzK_some, cpA_some]
    have h2 : CP (CL F) 115 [eR (x :: l)] = some (eR (x :: l)) := by
      refine CP_raw h1 ?_
      exact (fz_ref').trans <| (em_fz6 (h := [some ⟨0, 3, em eQ (x :: l)⟩]) (v := 0) (off := 0) (len := (x :: l).length) E_eQ (x :: l)).trans (by rw [sub_full])
    rw [h2]
    rfl
theorem s_begin_bad {t : List (List Rat)} (ht : t.length ≤ 1000000) (h : may t = false) (g : Heap) : CL F 104 [eT t] g = some (.tup [.nilp, eI 8], g) := by
  refine CL_X (F := F) (f := 104) rfl rfl ?_
  have h2 := s_Check (t := t) ht
  rw [h, if_neg (by decide)] at h2
  clear h
  refine go3 ?_
  trivial
theorem s_begin0 : CL F 104 [.lst []] [] = some (.tup [.ptr 0 0 0 0, eI 0], [some ⟨0, 5, [aW .nil .nil 1]⟩]) := by
  refine CL_X (F := F) (f := 104) rfl rfl ?_
  have h2 := s_Check (t := []) (by simp)
  rw [show may [] = true from rfl, if_pos rfl] at h2
  replace h2 : CP (CL F) 14 [.lst []] = some (eI 0) := h2
  have h3 := s_rat_Of (a := 1) (by decide) (by decide)
  rw [show ((1 : Int) : Rat) = 1 from rfl] at h3
  refine go3 ?_
  refine X_round ?_
  refine go3 ?_
  trivial
theorem tab_wide {n c : Nat} {A : Mt} (h : 0 < n) : wide (tab n c A) = c := by
  unfold wide
  rw [show (tab n c A).getD 0 [] = rowf c (A 0) from tab_get h, rowf_len]
theorem tab_may {n c : Nat} {A : Mt} (hn : n ≤ 200) (hc : c ≤ 200) : may (tab n c A) = true := by
  rw [may_iff, tab_len]
  rcases Nat.eq_zero_or_pos n with h | h
  · subst h; exact ⟨by omega, by simp [wide, tab], fun r hr => by simp [tab] at hr⟩
  · rw [tab_wide h]; exact ⟨hn, hc, tab_row⟩
theorem s_begin {n c : Nat} {A : Mt} (hn : 0 < n) (hn2 : n ≤ 200) (hc : c ≤ 200) : ∃ x, CL F 104 [eT (tab n c A)] [] = some x ∧ ∃ h, x = (.tup [.ptr 0 0 0 0, eI 0], h) ∧ WH n c (A, [], 1) h := by
  have hm := tab_may (A := A) hn2 hc
  have hl : (tab n c A).length = n := tab_len _ _ _
  have hr : ∀ i, i < n → ((tab n c A).getD i default).length ≤ 200 := fun i hi => by rw [tab_get hi, rowf_len]; exact hc
  suffices H : ∃ x, CL F 104 [eT (tab n c A)] [] = some x ∧ ∃ v y g, x = (.tup [.ptr 0 0 0 0, eI 0], some ⟨0, 5, [aW (.ref 2 v 1 0 n) .nil 1]⟩ :: y :: some ⟨v, 1, em eR (tab n c A)⟩ :: g) by
    obtain ⟨x, h1, v, y, g, rfl⟩ := H
    exact ⟨_, h1, _, rfl, _, _, _, _, rfl, .inl ⟨rfl, rfl⟩⟩
  generalize tab n c A = t at *
  subst hl
  refine CL_XE (F := F) (f := 104) rfl rfl ?_
  have h2 := s_Check (t := t) (by omega)
  rw [hm, if_pos rfl] at h2
  have h3 := s_rat_Of (a := 1) (by decide) (by decide)
  rw [show ((1 : Int) : Rat) = 1 from rfl] at h3
  have hlt0 : ((0 : Int) < (t.length : Int)) := by omega
  have g0 := em_getN (f := eR) t 0 hn
  have k0 := fun h => s_clonev (l := t.getD 0 default) (by have := hr 0 hn; omega) h
  have hw1 : wrap64 (0 + 1) = 1 := by rw [show (0 : Int) + 1 = 1 from rfl, w64 (by omega) (by omega)]
  have hs0 : t.take 1 = [t.getD 0 default] := by rw [take_succ_getD t 0 hn]; rfl
  generalize t.getD 0 default = r0 at *
  clear hm
  refine go3 ?_
  refine X_round ?_
  refine go3 ?_
  refine X_up t.length (fun i s => ∃ j7 j19 v y g, s = ⟨[(0, eT t), (2, .nilp), (3, eI 0), (4, eI 0), (5, .ptr 0 0 0 0), (7, j7), (11, .bool false), (16, eT t), (17, eI t.length), (18, eI i), (19, j19)], some ⟨0, 5, [aW (.ref 2 v 1 0 i) .nil 1]⟩ :: y :: some ⟨v, 1, em eR (t.take i)⟩ :: g⟩) ?_ ?_ 1 hn _ ⟨_, _, _, _, _, by rw [hs0]; rfl⟩
  · rintro i s hi ⟨j7, j19, v, y, g, rfl⟩ rec
    have hlt := lt_c hi
    have g1 := em_getN (f := eR) t i hi
    have k1 := fun h => s_clonev (l := t.getD i default) (by have := hr i hi; omega) h
    have hs : t.take i ++ [t.getD i default] = t.take (i + 1) := (take_succ_getD t i hi).symm
    have hlen : (t.take i).length = i := by simp; omega
    have ht : List.take i (t.take i) = t.take i := take_len_g _ hlen.symm
    generalize t.getD i default = r1 at *
    have hlim : i < 5864062014805 := by omega
    have hi6 : i < 9223372036854775807 := by omega
    have hw := i64_nat hi6
    clear hr hlen hs0 k0 g0 hlt0
    refine go3 ?_
    exact rec _ ⟨_, _, _, _, _, rfl⟩
  · rintro s ⟨j7, j19, v, y, g, rfl⟩
    have hlt : ¬ ((t.length : Int) < (t.length : Int)) := nlt_c
    clear hr hs0 k0 g0
    refine go3 ?_
    exact ⟨_, rfl, _, _, _, rfl⟩
theorem pow5 (K m : Nat) : K * 5 ^ (m + 1) = 5 * (K * 5 ^ m) := by rw [Nat.pow_succ]; simp only [Nat.mul_comm, Nat.mul_left_comm]
theorem gstep_size {n c j K : Nat} {s : Mt × List Nat × Rat} (hK : 1 ≤ K) (hle : s.2.1.length ≤ n) (hj : j < c) (hA : ∀ r, r < n → ∀ y, y < c → Lq (s.1 r y) ≤ K * 5 ^ s.2.1.length) (hd : Lq s.2.2 ≤ K * 5 ^ s.2.1.length) :
    (∀ r, r < n → ∀ y, y < c → Lq ((gstep n j s).1 r y) ≤ K * 5 ^ (gstep n j s).2.1.length) ∧ Lq (gstep n j s).2.2 ≤ K * 5 ^ (gstep n j s).2.1.length := by
  obtain ⟨A, piv, d⟩ := s
  simp only at hA hd hle
  obtain ⟨k1, k2, k3, k4⟩ := fnd_spec (n := n) (A := A) (j := j) hle
  have hgs : gstep n j (A, piv, d) = if fnd n A j piv.length = n then (A, piv, d) else (elimTo (pivR A piv.length (fnd n A j piv.length) j) piv.length j n, piv ++ [j], (if piv.length = fnd n A j piv.length then d else -d) * A (fnd n A j piv.length) j) := rfl
  rw [hgs]
  clear hgs
  generalize fnd n A j piv.length = k at *
  by_cases hk : k = n
  · rw [if_pos hk]; exact ⟨hA, hd⟩
  · rw [if_neg hk]
    simp only [List.length_append, List.length_singleton]
    have hp := k4 (by omega)
    rw [pow5]
    have h1 : 1 ≤ K * 5 ^ piv.length := Nat.mul_pos hK (Nat.pos_of_ne_zero (by simp))
    generalize K * 5 ^ piv.length = M at *
    generalize piv.length = a at *
    have han : a < n := by omega
    have hkn : k < n := by omega
    have hkj := hA k hkn j hj
    have hpa : ∀ y, y < c → Lq (pivR A a k j a y) ≤ 2 * M := fun y hy => by
      have e : pivR A a k j a y = (A k j)⁻¹ * A k y := by unfold pivR setr; rw [if_pos rfl]
      rw [e]
      have := hA k hkn y hy
      have := Lq_inv (A k j) hp
      have := Lq_mul (A k j)⁻¹ (A k y)
      omega
    have hpr : ∀ r, r < n → r ≠ a → ∀ y, y < c → Lq (pivR A a k j r y) ≤ M := fun r hr hne y hy => by
      unfold pivR setr
      rw [if_neg hne]
      unfold swp
      rw [if_neg hne]
      split
      · exact hA a han y hy
      · exact hA r hr y hy
    constructor
    · intro r hr y hy
      by_cases hra : r = a
      · rw [hra, elimTo_at]
        have := hpa y hy
        omega
      · unfold elimTo
        rw [if_pos ⟨hr, hra⟩]
        have h2 := hpr r hr hra y hy
        have h3 := hpr r hr hra j hj
        have h4 := hpa y hy
        have h5 := Lq_sub (pivR A a k j r y) (pivR A a k j r j * pivR A a k j a y)
        have h6 := Lq_mul (pivR A a k j r j) (pivR A a k j a y)
        omega
    · have h2 := Lq_mul (if a = k then d else -d) (A k j)
      have h3 : Lq (if a = k then d else -d) ≤ M := by
        split
        · exact hd
        · rw [Lq_neg]; exact hd
      omega
theorem grun_size {n c K : Nat} {A : Mt} (hK : 1 ≤ K) (hA : ∀ r, r < n → ∀ y, y < c → Lq (A r y) ≤ K) : ∀ j, j ≤ c → (∀ r, r < n → ∀ y, y < c → Lq ((grun n A j).1 r y) ≤ K * 5 ^ (grun n A j).2.1.length) ∧ Lq (grun n A j).2.2 ≤ K * 5 ^ (grun n A j).2.1.length := by
  intro j
  induction j with
  | zero =>
    intro _
    refine ⟨fun r hr y hy => ?_, ?_⟩
    · show Lq (A r y) ≤ K * 1
      have := hA r hr y hy
      omega
    · show Lq 1 ≤ K * 1
      have := Lq_one
      omega
  | succ j ih =>
    intro hj
    obtain ⟨h1, h2⟩ := ih (by omega)
    exact gstep_size hK (grun_RR n A j).le (by omega) h1 h2
theorem grun_bound {n c K : Nat} {A : Mt} (hK : 1 ≤ K) (hA : ∀ r, r < n → ∀ y, y < c → Lq (A r y) ≤ K) {j : Nat} (hj : j ≤ c) : (∀ r, r < n → ∀ y, y < c → Lq ((grun n A j).1 r y) ≤ K * 5 ^ n) ∧ Lq (grun n A j).2.2 ≤ K * 5 ^ n := by
  obtain ⟨h1, h2⟩ := grun_size hK hA j hj
  have h3 : K * 5 ^ (grun n A j).2.1.length ≤ K * 5 ^ n := Nat.mul_le_mul_left K (Nat.pow_le_pow_right (by decide) (grun_RR n A j).le)
  exact ⟨fun r hr y hy => Nat.le_trans (h1 r hr y hy) h3, Nat.le_trans h2 h3⟩
def GB (n c M : Nat) (A : Mt) : Prop := ∀ j, j ≤ c → (∀ r, r < n → ∀ y, y < c → Lq ((grun n A j).1 r y) ≤ M) ∧ Lq (grun n A j).2.2 ≤ M
theorem grun_GB {n c K : Nat} {A : Mt} (hK : 1 ≤ K) (hA : ∀ r, r < n → ∀ y, y < c → Lq (A r y) ≤ K) : GB n c (K * 5 ^ n) A := fun _ hj => grun_bound hK hA hj
theorem s_run {n c M : Nat} {A : Mt} (hn : 0 < n) (hn2 : n ≤ 200) (hc : c ≤ 200) (hM : M < 1000000) (hA : GB n c M A) :
    ∃ x, CL F 55 [eT (tab n c A)] [] = some x ∧ ∃ h, x = (.tup [.ptr 0 0 0 0, eI 0], h) ∧ WH n c (grun n A c) h := by
  obtain ⟨x, b1, h0, rfl, b2⟩ := s_begin (A := A) hn hn2 hc
  refine CL_XE (F := F) (f := 55) rfl rfl ?_
  have h1 := s_Size (tab n c A)
  rw [tab_wide hn, tab_len] at h1
  have hstep : ∀ j, j < c → ∀ h, WH n c (grun n A j) h → ∃ x, CL F 83 [.ptr 0 0 0 0, eI j] h = some x ∧ ∃ h', x = (.tup [], h') ∧ WH n c (grun n A (j + 1)) h' := fun j hj h hw => by
    obtain ⟨g1, g2⟩ := hA j (by omega)
    exact s_step hw (by omega) (by omega) hj (grun_RR n A j).le (M := M) hM g1 (by omega)
  replace b2 : WH n c (grun n A 0) h0 := b2
  clear hA
  refine go3 ?_
  refine X_up c (fun j s => ∃ j8 j24 h, s = ⟨[(0, eT (tab n c A)), (2, .nilp), (3, eI 0), (4, .ptr 0 0 0 0), (5, eI 0), (7, eI c), (8, j8), (15, .bool false), (22, eI c), (23, eI j), (24, j24)], h⟩ ∧ WH n c (grun n A j) h) ?_ ?_ 0 (Nat.zero_le _) _ ⟨_, _, _, rfl, b2⟩
  · rintro j s hj ⟨j8, j24, h, rfl, hw⟩ rec
    have hlt := lt_c hj
    obtain ⟨x, hs, h', rfl, hw'⟩ := hstep j hj h hw
    have hi6 : j < 9223372036854775807 := by omega
    have hw6 := i64_nat hi6
    clear hstep b1 hw b2
    refine go3 ?_
    exact rec _ ⟨_, _, _, rfl, hw'⟩
  · rintro s ⟨j8, j24, h, rfl, hw⟩
    have hlt : ¬ ((c : Int) < (c : Int)) := nlt_c
    clear hstep b1 b2
    refine go3 ?_
    exact ⟨_, rfl, _, rfl, hw⟩
theorem s_run0 : CL F 55 [.lst []] [] = some (.tup [.ptr 0 0 0 0, eI 0], [some ⟨0, 5, [aW .nil .nil 1]⟩]) := by
  refine CL_X (F := F) (f := 55) rfl rfl ?_
  have b1 := s_begin0
  have h1 : CP (CL F) 27 [.lst []] = some (.tup [eI 0, eI 0]) := s_Size []
  refine go3 ?_
  refine X_round ?_
  refine go3 ?_
  trivial
theorem s_run_bad {t : List (List Rat)} (ht : t.length ≤ 1000000) (h : may t = false) : CL F 55 [eT t] [] = some (.tup [.nilp, eI 8], []) := by
  refine CL_X (F := F) (f := 55) rfl rfl ?_
  have b1 := s_begin_bad ht h []
  clear h
  refine go3 ?_
  trivial
theorem s_Reduce_bad {t : List (List Rat)} (ht : t.length ≤ 1000000) (h : may t = false) : CP (CL F) 12 [eT t] = some (.tup [.lst [], .lst [], eI 8]) := by
  refine CP_X (F := F) (f := 12) rfl rfl ?_
  have b1 := s_run_bad ht h
  clear h
  refine go3 ?_
  trivial
theorem s_Reduce0 : CP (CL F) 12 [.lst []] = some (.tup [.lst [], .lst [], eI 0]) := by
  refine CP_X (F := F) (f := 12) rfl rfl ?_
  have b1 := s_run0
  refine go3 ?_
  trivial
theorem s_Reduce {n c M : Nat} {A : Mt} (hn2 : n ≤ 200) (hc : c ≤ 200) (h0 : n = 0 → c = 0) (hM : M < 1000000) (hA : GB n c M A) :
    CP (CL F) 12 [eT (tab n c A)] = some (.tup [eT (tab n c (grun n A c).1), .lst (ui (ivl (grun n A c).2.1)), eI 0]) := by
  rcases Nat.eq_zero_or_pos n with e | e
  · subst e
    rw [h0 rfl]
    exact s_Reduce0
  · obtain ⟨x, b1, h, rfl, b2⟩ := s_run e hn2 hc hM hA
    refine CP_X (F := F) (f := 12) rfl rfl ?_
    obtain ⟨y, vt, pr, g, rfl, hp⟩ := b2
    have z1 := tab_len n c (grun n A c).1
    have z2 : List.take n (tab n c (grun n A c).1) = tab n c (grun n A c).1 := take_len_g _ z1.symm
    have z3 := ivl_len (grun n A c).2.1
    have z4 : List.take (grun n A c).2.1.length (ivl (grun n A c).2.1) = ivl (grun n A c).2.1 := take_len_g _ z3.symm
    generalize (grun n A c).2.1 = piv at *
    generalize (grun n A c).2.2 = d at *
    generalize tab n c (grun n A c).1 = T at *
    generalize tab n c A = T0 at *
    rcases hp with ⟨rfl, rfl⟩ | ⟨vp, g1, g2, rfl, rfl⟩
    · clear hA
      refine go3 ?_
      trivial
    · clear hA
      refine go3 ?_
      trivial
end Go.S

end
section
set_option linter.unusedVariables false
set_option linter.unusedSimpArgs false
set_option maxRecDepth 100000
namespace Go.S
open Go Go.AM Go.RowKit Go.K
theorem tab_swp {n c : Nat} {A : Mt} {a k : Nat} (ha : a < n) (hk : k < n) : ((tab n c A).set a (rowf c (A k))).set k (rowf c (A a)) = tab n c (swp A a k) := by
  rw [tab_set ha, tab_set hk]
  refine congrArg (tab n c) ?_
  funext i y
  unfold setr swp
  by_cases h1 : i = k
  · subst h1
    rw [if_pos rfl]
    by_cases h2 : i = a
    · subst h2; rw [if_pos rfl]
    · rw [if_neg h2, if_pos rfl]
  · rw [if_neg h1]
    by_cases h2 : i = a
    · subst h2; rw [if_pos rfl, if_pos rfl]
    · rw [if_neg h2, if_neg h2, if_neg h1]
theorem s_refReduce {n c K : Nat} {A : Mt} (hn2 : n ≤ 200) (hc : c ≤ 200) (h0 : n = 0 → c = 0) (hK : 1 ≤ K) (hA : ∀ r, r < n → ∀ y, y < c → Lq (A r y) ≤ K) (hb : K * 5 ^ n < 1000000) :
    CP (CL F) 17 [rT (tab n c A)] = some (.tup [rT (tab n c (grun n A c).1), .lst (ui (ivl (grun n A c).2.1))]) := by
  refine CP_X (F := F) (f := 17) rfl rfl ?_
  have hW : CP (CL F) 41 [rT (tab n c A)] = some (eI c) := by
    have := s_Wide (tab n c A)
    rcases Nat.eq_zero_or_pos n with e | e
    · subst e; rw [h0 rfl] at *; exact this
    · rwa [tab_wide e] at this
  have z1 := tab_len n c A
  have z2 : List.take n (tab n c A) = tab n c A := take_len_g _ z1.symm
  have hlim : n ≤ 5864062014805 := by omega
  have hgb := fun j (hj : j ≤ c) => grun_bound hK hA hj
  have hgr := fun j => (grun_RR n A j).le
  have hgs : ∀ j, grun n A (j + 1) = gstep n j (grun n A j) := fun j => rfl
  have hg0 : grun n A 0 = (A, [], 1) := rfl
  have hw0 : List.length ([] : List Int) = 0 := rfl
  clear hA
  refine go3 ?_
  refine X_up c (fun j s => ∃ j7 j8 j9 j17 j36 j42 j76 j81 v w g, s = ⟨[(0, rT (tab n c A)), (2, .nil), (3, .nil), (4, .ref 0 v 1 0 n), (5, .ref 1 w 1 0 (grun n A j).2.1.length), (6, eI j), (7, j7), (8, j8), (9, j9), (17, j17), (36, j36), (42, j42), (76, j76), (81, j81)], some ⟨v, 1, em rR (tab n c (grun n A j).1)⟩ :: some ⟨w, 1, ui (ivl (grun n A j).2.1)⟩ :: g⟩) ?_ ?_ 0 (Nat.zero_le _) _ ⟨_, _, _, _, _, _, _, _, _, _, [], rfl⟩
  · rintro j s hj ⟨j7, j8, j9, j17, j36, j42, j76, j81, v, w, g, rfl⟩ rec
    rw [hgs j] at rec
    obtain ⟨gb, _⟩ := hgb j (by omega)
    have hle := hgr j
    have hgst : gstep n j (grun n A j) = if fnd n (grun n A j).1 j (grun n A j).2.1.length = n then grun n A j else (elimTo (pivR (grun n A j).1 (grun n A j).2.1.length (fnd n (grun n A j).1 j (grun n A j).2.1.length) j) (grun n A j).2.1.length j n, (grun n A j).2.1 ++ [j], (if (grun n A j).2.1.length = fnd n (grun n A j).1 j (grun n A j).2.1.length then (grun n A j).2.2 else -(grun n A j).2.2) * (grun n A j).1 (fnd n (grun n A j).1 j (grun n A j).2.1.length) j) := rfl
    rw [hgst] at rec
    obtain ⟨k1, k2, k3, k4⟩ := fnd_spec (n := n) (A := (grun n A j).1) (j := j) hle
    generalize K * 5 ^ n = M at *
    generalize fnd n (grun n A j).1 j (grun n A j).2.1.length = k at *
    have hpl := ivl_len (grun n A j).2.1
    have hps := ivl_snoc (grun n A j).2.1 j
    generalize grun n A j = s at *
    obtain ⟨E, piv, d⟩ := s
    simp only at *
    have hlt := lt_c hj
    have hi6 : j < 9223372036854775807 := by omega
    have hl := (em_len (f := rR) (tab n c E)).trans (tab_len n c _)
    have hpa : piv.length + 1 < 17592186044416 := by omega
    have hsn : (piv ++ [j]).length = piv.length + 1 := by simp
    have ht4 : List.take piv.length (ivl piv) = ivl piv := take_len_g _ hpl.symm
    clear hgb hgr hgs hgst hg0 z1 z2
    generalize ha : piv.length = a at *
    refine go3 ?_
    refine X_upto (k - a) (fun i s => ∃ j36, s = ⟨[(0, rT (tab n c A)), (2, .nil), (3, .nil), (4, .ref 0 v 1 0 n), (5, .ref 1 w 1 0 a), (6, eI j), (7, eI a), (8, eI (a + i : Nat)), (9, j9), (17, .bool true), (36, j36), (42, j42), (76, j76), (81, j81)], some ⟨v, 1, em rR (tab n c E)⟩ :: some ⟨w, 1, ui (ivl piv)⟩ :: g⟩) ?_ 0 (Nat.zero_le _) _ ⟨_, rfl⟩
    rintro i s hi ⟨j36, rfl⟩ rec2
    by_cases hin : a + i < n
    · have g1 := em_getN (f := rR) (tab n c E) (a + i) (by rw [tab_len]; exact hin)
      rw [tab_get hin] at g1
      have g2 := em_getN (f := rQ) (rowf c (E (a + i))) j (by rw [rowf_len]; exact hj)
      rw [rowf_get hj] at g2
      have hrl := rowf_len c (E (a + i))
      have sg := s_r08_Zero (E (a + i) j)
      have c1 : (((a + i : Nat) : Int) < (n : Int)) := by omega
      by_cases e : i < k - a
      · have z : E (a + i) j = 0 := k3 (a + i) (by omega) (by omega)
        rw [decide_eq_true z] at sg
        have hi7 : a + i < 9223372036854775807 := by omega
        have hw : wrap64 (((a + i : Nat) : Int) + 1) = ((a + (i + 1) : Nat) : Int) := i64_nat hi7
        generalize E (a + i) j = y at *
        generalize rowf c (E (a + i)) = r at *
        generalize a + i = ai at *
        clear k1 k2 k3 k4 z hi rec hlim gb
        refine go3 ?_
        exact rec2 _ e ⟨_, rfl⟩
      · have hik : a + i = k := by omega
        have z : E (a + i) j ≠ 0 := by rw [hik]; exact k4 (by omega)
        rw [decide_eq_false z] at sg
        have hkn : ¬ (((a + i : Nat) : Int) = (n : Int)) := by omega
        have hkn' : ¬ (a + i = n) := by omega
        subst hik
        rw [if_neg hkn'] at rec
        clear rec2 hi e k3 k4
        generalize a + i = k at *
        have han : a < n := by omega
        have g3 := em_getN (f := rR) (tab n c E) a (by rw [tab_len]; exact han)
        rw [tab_get han] at g3
        have s1 := tab_swp (c := c) (A := E) han hin
        have g4 : (em rR ((tab n c E).set a (rowf c (E k))))[k]? = some (rR (rowf c (E k))) := by
          rw [← em_set]
          by_cases h : a = k
          · subst h
            rw [List.getElem?_set_self (by rw [em_len, tab_len]; exact han)]
          · rw [List.getElem?_set_ne h]; exact g1
        have hB : swp E a k a = E k := by unfold swp; rw [if_pos rfl]
        have g5 := em_getN (f := rR) (tab n c (swp E a k)) a (by rw [tab_len]; exact han)
        rw [tab_get han, hB] at g5
        have m2 := s_r08_Inv (a := E k j) z
        have hkj := gb k hin j hj
        have m3 := s_r11_Scale (l := rowf c (E k)) (c := (E k j)⁻¹) (by rw [rowf_len]; omega) (M := M) (by omega) (fun q hq => by
          obtain ⟨y, hy, rfl⟩ := mem_rowf.1 hq
          exact gb k hin y hy) (by
          have := Lq_inv (E k j) z
          omega)
        have e1 : (rowf c (E k)).map (· * (E k j)⁻¹) = rowf c fun x => (E k j)⁻¹ * E k x := by
          rw [rowf_map]
          exact rowf_congr fun y _ => Rat.mul_comm _ _
        rw [e1] at m3
        have s2 : (tab n c (swp E a k)).set a (rowf c fun x => (E k j)⁻¹ * E k x) = tab n c (pivR E a k j) := tab_set han
        have c2 : ((a : Int) < (n : Int)) := by omega
        have hl2 : (em rR (tab n c (swp E a k))).length = n := by rw [em_len, tab_len]
        have bn : ∀ r, r < n → r ≠ a → ∀ y, y < c → Lq (pivR E a k j r y) ≤ M := fun r hr hne y hy => by
          unfold pivR setr
          rw [if_neg hne]
          unfold swp
          rw [if_neg hne]
          split
          · exact gb a han y hy
          · exact gb r hr y hy
        have ba : ∀ y, y < c → Lq (pivR E a k j a y) ≤ 2 * M := fun y hy => by
          unfold pivR setr
          rw [if_pos rfl]
          have := gb k hin y hy
          have := Lq_inv (E k j) z
          have := Lq_mul (E k j)⁻¹ (E k y)
          show Lq ((E k j)⁻¹ * E k y) ≤ 2 * M
          omega
        generalize (E k j)⁻¹ = iv at *
        generalize E k j = p at *
        generalize rowf c (E k) = rk at *
        generalize rowf c (E a) = ra at *
        generalize rowf c (fun x => iv * E k x) = rs at *
        generalize tab n c (swp E a k) = T1 at *
        generalize pivR E a k j = P at *
        clear k1 k2 gb hB e1 hkj z
        refine go3 ?_
        refine X_up n (fun i s => ∃ j76 j81, s = ⟨[(0, rT (tab n c A)), (2, .nil), (3, .nil), (4, .ref 0 v 1 0 n), (5, .ref 1 w 1 0 a), (6, eI j), (7, eI a), (8, eI k), (9, eI i), (17, .bool true), (36, .bool false), (42, .bool false), (76, j76), (81, j81)], some ⟨v, 1, em rR (tab n c (elimTo P a j i))⟩ :: some ⟨w, 1, ui (ivl piv)⟩ :: g⟩) ?_ ?_ 0 (Nat.zero_le _) _ ⟨_, _, by rw [elimTo_zero]; rfl⟩
        · rintro i s hi ⟨j76, j81, rfl⟩ rec3
          have hlt2 := lt_c hi
          have hl := (em_len (f := rR) (tab n c (elimTo P a j i))).trans (tab_len n c _)
          have hi7 : i < 9223372036854775807 := by omega
          clear rec m2 m3 s1 s2 g1 g2 g3 g4 g5 hl2
          by_cases hia : i = a
          · subst hia
            rw [elimTo_self] at rec3
            have c3 : ¬ ((i : Int) ≠ (i : Int)) := by omega
            have hw := i64_nat hi7
            clear bn ba
            refine go3 ?_
            exact rec3 _ ⟨_, _, rfl⟩
          · have c3 : ((i : Int) ≠ (a : Int)) := by omega
            have c4 : ¬ ((i : Int) = (a : Int)) := by omega
            have q1 := em_getN (f := rR) (tab n c (elimTo P a j i)) i (by rw [tab_len]; exact hi)
            rw [tab_get hi, elimTo_ge P (Nat.le_refl i)] at q1
            have q2 := em_getN (f := rQ) (rowf c (P i)) j (by rw [rowf_len]; exact hj)
            rw [rowf_get hj] at q2
            have q3 := em_getN (f := rR) (tab n c (elimTo P a j i)) a (by rw [tab_len]; exact han)
            rw [tab_get han, elimTo_at] at q3
            have rl1 := rowf_len c (P i)
            have b1 := bn i hi hia
            have q6 := s_r11_Less (a := rowf c (P i)) (b := rowf c (P a)) (c := P i j) (by rw [rowf_len]; omega) (by rw [rowf_len, rowf_len]) (M := 2 * M) (by omega) (fun q hq => by
              obtain ⟨y, hy, rfl⟩ := mem_rowf.1 hq
              have := b1 y hy
              omega) (fun q hq => by
              obtain ⟨y, hy, rfl⟩ := mem_rowf.1 hq
              exact ba y hy) (by have := b1 j hj; omega)
            have q7 : (tab n c (elimTo P a j i)).set i (lessR (rowf c (P i)) (P i j) (rowf c (P a))) = tab n c (elimTo P a j (i + 1)) := by
              have e : lessR (rowf c (P i)) (P i j) (rowf c (P a)) = rowf c fun x => elimTo P a j i i x + -(P i j) * elimTo P a j i a x := by
                unfold lessR
                rw [rowf_zip, elimTo_ge P (Nat.le_refl i), elimTo_at]
                exact rowf_congr fun y _ => by grind
              rw [e, elimTo_succ P hia, tab_set hi]
            generalize lessR (rowf c (P i)) (P i j) (rowf c (P a)) = rn at *
            generalize tab n c (elimTo P a j (i + 1)) = T3 at *
            generalize tab n c (elimTo P a j i) = T2 at *
            generalize rowf c (P i) = ri at *
            generalize rowf c (P a) = ra2 at *
            generalize P i j = zz at *
            have hw := i64_nat hi7
            clear bn ba b1
            refine go3 ?_
            exact rec3 _ ⟨_, _, rfl⟩
        · rintro s ⟨j76, j81, rfl⟩
          have hlt2 : ¬ ((n : Int) < (n : Int)) := nlt_c
          have hl := (em_len (f := rR) (tab n c (elimTo P a j n))).trans (tab_len n c _)
          have hw := i64_nat hi6
          clear bn ba m2 m3 s1 s2 g1 g2 g3 g4 g5 hl2
          subst ha
          refine go3 ?_
          rw [← hps, ← hsn]
          exact rec _ ⟨_, _, _, _, _, _, _, _, _, _, _, rfl⟩
    · have hik : a + i = k := by omega
      have hkn : k = n := by omega
      subst hkn
      rw [if_pos rfl] at rec
      rw [hik]
      have c1 : ¬ ((k : Int) < (k : Int)) := by omega
      have hw := i64_nat hi6
      clear k1 k2 k3 k4 hi rec2 hik hin gb hb hK h0 hpl hps
      subst ha
      refine go3 ?_
      exact rec _ ⟨_, _, _, _, _, _, _, _, _, _, _, rfl⟩
  · rintro s ⟨j7, j8, j9, j17, j36, j42, j76, j81, v, w, g, rfl⟩
    have hlt : ¬ ((c : Int) < (c : Int)) := nlt_c
    have z3 := tab_len n c (grun n A c).1
    have z4 : List.take n (tab n c (grun n A c).1) = tab n c (grun n A c).1 := take_len_g _ z3.symm
    have z5 := ivl_len (grun n A c).2.1
    have z6 : List.take (grun n A c).2.1.length (ivl (grun n A c).2.1) = ivl (grun n A c).2.1 := take_len_g _ z5.symm
    clear hgb hgr hgs hg0
    refine go3 ?_
    trivial
end Go.S

end
section
set_option linter.unusedVariables false
namespace Go.S
open Go Go.AM Go.RowKit Go.K
def runsTrue2 (F : Nat → Option AFunc) (n f : Nat) : Bool := match callN F n f [] [] with
  | some (.bool b, _) => b
  | _ => false
theorem CP_run2 {F : Nat → Option AFunc} {f : Nat} (n : Nat) (h : runsTrue2 F n f = true) : CP (CL F) f [] = some (.bool true) := by
  unfold runsTrue2 at h
  split at h
  · next b g hb =>
    subst h
    exact CP_raw (CL_of n hb) rfl
  · cases h
end Go.S

end
section
set_option linter.unusedVariables false
set_option linter.unusedSimpArgs false
set_option maxRecDepth 100000
namespace Go.S
open Go Go.AM Go.RowKit Go.K
theorem s_works14 : CP (CL F) 16 [] = some (.bool true) := CP_run2 300 (by decide +kernel)
theorem ent_size {t : List (List Rat)} {K : Nat} (h : ∀ r ∈ t, ∀ q ∈ r, Lq q ≤ K) (he : ∀ r ∈ t, r.length = wide t) : ∀ r, r < t.length → ∀ y, y < wide t → Lq (ent t r y) ≤ K := fun r hr y hy => h _ (getD_mem hr) _ (getD_mem (by rw [he _ (getD_mem hr)]; exact hy))
set_option maxHeartbeats 4000000
end Go.S

end
section
set_option linter.unusedVariables false
set_option linter.unusedSimpArgs false
set_option maxRecDepth 100000
namespace Go.S
open Go Go.AM Go.RowKit Go.K
section
variable {α : Type} {n : Nat} {f g : Nat → α}
end
theorem may_spec {t : List (List Rat)} : may t = true ↔ t.length ≤ 200 ∧ wide t ≤ 200 ∧ ∀ r ∈ t, r.length = wide t := by
  unfold may
  simp only [Bool.and_eq_true, decide_eq_true_eq, even_iff, and_assoc]
end Go.S

end
section
set_option linter.unusedVariables false
set_option linter.unusedSimpArgs false
set_option maxRecDepth 100000
namespace Go.S
open Go Go.AM Go.RowKit Go.K
def applyR (t : List (List Rat)) (v : List Rat) : List Rat := t.map fun r => dot r v
theorem s_Apply {t : List (List Rat)} {v : List Rat} (h : may t = true) (hw : wide t = v.length) {M : Nat} (hM : M < 10000) (lt : ∀ r ∈ t, ∀ q ∈ r, Lq q ≤ M) (lv : ∀ q ∈ v, Lq q ≤ M) : CP (CL F) 29 [eT t, eR v] = some (.tup [eR (applyR t v), eI 0]) := by
  refine CP_X (F := F) (f := 29) rfl rfl ?_
  obtain ⟨a1, a2, a3⟩ := may_spec.1 h
  have h1 := s_Size t
  have h2 := s_Check (t := t) (by omega)
  rw [h, if_pos rfl] at h2
  rw [hw] at h1
  have h3 : t.length ≤ 5026338869833 := by omega
  have hl : (applyR t v).length = t.length := by simp [applyR]
  clear h
  refine go3 ?_
  refine X_up t.length (fun i s => ∃ j9 j10 j31 g, s = ⟨[(0, eT t), (1, eR v), (4, .nil), (5, eI 0), (7, eI v.length), (8, .ref 0 0 3 0 t.length), (9, j9), (10, j10), (24, .bool false), (28, eT t), (29, eI t.length), (30, eI i), (31, j31)], some ⟨0, 3, em eQ ((applyR t v).take i) ++ List.replicate (t.length - i) zQ⟩ :: g⟩) ?_ ?_ 0 (Nat.zero_le _) _ ⟨_, _, _, [], rfl⟩
  · rintro i s hi ⟨j9, j10, j31, g, rfl⟩ rec
    have hlt := lt_c hi
    have g1 := em_getN (f := eR) t i hi
    have e1 := a3 _ (getD_mem hi)
    have d1 := s_vect_Dot (a := t.getD i default) (b := v) (by omega) (by omega) (M := M) (by omega) (lt _ (getD_mem hi)) lv
    have e2 : (applyR t v).getD i default = dot (t.getD i default) v := by simp [applyR, List.getD, List.getElem?_eq_getElem hi]
    rw [← e2] at d1
    obtain ⟨m, hm⟩ : ∃ m, t.length - i = m + 1 := ⟨t.length - i - 1, by omega⟩
    have hg := fill_get (f := eQ) ((applyR t v).take i) m zQ
    have hs := fill_set (f := eQ) ((applyR t v).take i) m zQ ((applyR t v).getD i default)
    have hlen : ((applyR t v).take i).length = i := by simp; omega
    rw [hlen] at hg hs
    rw [← hm, show m = t.length - (i + 1) by omega, ← take_succ_getD _ i (by omega)] at hs
    rw [← hm] at hg
    generalize t.getD i default = x at *
    generalize (applyR t v).getD i default = z at *
    have hw' := i64_nat (n := i) (by omega)
    clear hm hlen a3 lt lv e1 e2 hl
    refine go3 ?_
    exact rec _ ⟨_, _, _, _, rfl⟩
  · rintro s ⟨j9, j10, j31, g, rfl⟩
    have hlt : ¬ ((t.length : Int) < (t.length : Int)) := nlt_c
    have he : List.replicate (t.length - t.length) zQ = [] := by simp
    have ht : List.take t.length (applyR t v) = applyR t v := take_len_g _ hl.symm
    clear a3 lt lv
    refine go3 ?_
    trivial
end Go.S

end
section
set_option linter.unusedVariables false
set_option linter.unusedSimpArgs false
namespace Go.S
theorem sm_two {n a b : Nat} {f : Nat → Rat} (ha : a < n) (hb : b < n) (hab : a ≠ b) (h : ∀ i, i < n → i ≠ a → i ≠ b → f i = 0) : sm n f = f a + f b := by
  have e : sm n f = sm n (fun i => (if i = a then f a else 0) + (if i = b then f b else 0)) := sm_congr fun i hi => by
    by_cases h1 : i = a
    · rw [if_pos h1, if_neg (by omega), h1]; grind
    · by_cases h2 : i = b
      · rw [if_neg h1, if_pos h2, h2]; grind
      · rw [if_neg h1, if_neg h2, h i hi h1 h2]; grind
  rw [e, sm_add, sm_one ha fun i hi hne => if_neg hne, sm_one hb fun i hi hne => if_neg hne, if_pos rfl, if_pos rfl]
def kvTo (S : Mt) (piv : List Nat) (j : Nat) : Nat → Nat → Rat
  | 0 => fun y => if y = j then 1 else 0
  | i + 1 => fun y => if y = piv.getD i default then -(S i j) else kvTo S piv j i y
theorem kvTo_out {S : Mt} {piv : List Nat} {j y : Nat} : ∀ i, i ≤ piv.length → y ∉ piv → kvTo S piv j i y = if y = j then 1 else 0 := by
  intro i
  induction i with
  | zero => intro _ _; rfl
  | succ i ih =>
    intro hi hy
    show (if y = piv.getD i default then _ else _) = _
    rw [if_neg, ih (by omega) hy]
    intro e
    exact hy (by rw [e, List.getD, List.getElem?_eq_getElem (by omega)]; exact List.getElem_mem _)
theorem kvTo_at {S : Mt} {piv : List Nat} {j r : Nat} (hm : ∀ i i', i < i' → i' < piv.length → piv.getD i default < piv.getD i' default) : ∀ i, i ≤ piv.length → r < i → kvTo S piv j i (piv.getD r default) = -(S r j) := by
  intro i
  induction i with
  | zero => intro _ h; omega
  | succ i ih =>
    intro hi hr
    show (if piv.getD r default = piv.getD i default then _ else _) = _
    by_cases e : r = i
    · subst e; rw [if_pos rfl]
    · rw [if_neg, ih (by omega) (by omega)]
      have := hm r i (by omega) (by omega)
      omega
theorem rowf_setN {c p : Nat} {f : Nat → Rat} {x : Rat} (h : p < c) : (rowf c f).set p x = rowf c fun y => if y = p then x else f y := by
  refine List.ext_getElem (by simp [rowf]) fun i h1 h2 => ?_
  rw [List.getElem_set]
  by_cases e : p = i
  · subst e; simp [rowf]
  · simp [rowf, e, Ne.symm e]
def kerTo (S : Mt) (piv : List Nat) (c : Nat) : Nat → List (List Rat)
  | 0 => []
  | j + 1 => kerTo S piv c j ++ if j ∈ piv then [] else [rowf c (kvTo S piv j piv.length)]
theorem ker_zero {n c : Nat} {A : Mt} {j : Nat} (hj : j < c) (hn : j ∉ (grun n A c).2.1) : ∀ r, r < n → sm c (fun y => A r y * kvTo (grun n A c).1 (grun n A c).2.1 j (grun n A c).2.1.length y) = 0 := by
  have H := grun_RR n A c
  have R := grun_Rop n A c
  generalize (grun n A c).2.2 = d at *
  generalize (grun n A c).1 = S at *
  generalize (grun n A c).2.1 = piv at *
  have hS : Sub (fun f => sm c (fun y => f y * kvTo S piv j piv.length y) = 0) := ⟨fun f g k h1 h2 => by
      rw [sm_congr (g := fun y => f y * kvTo S piv j piv.length y + k * (g y * kvTo S piv j piv.length y)) fun y _ => by grind, sm_add, sm_mul, h1, h2]; grind, fun f k h => by
      rw [sm_congr (g := fun y => k * (f y * kvTo S piv j piv.length y)) fun y _ => by grind, sm_mul, h]; grind⟩
  refine (R.sub hS).2 fun r hr => ?_
  rcases Nat.lt_or_ge r piv.length with h | h
  · have hp := H.lt r h
    have hpj : j ≠ piv.getD r default := fun e => hn (by rw [e, List.getD, List.getElem?_eq_getElem h]; exact List.getElem_mem _)
    rw [sm_two hj hp hpj fun y hy h1 h2 => ?_]
    · rw [kvTo_out _ (Nat.le_refl _) hn, if_pos rfl, kvTo_at H.mono _ (Nat.le_refl _) h, H.one r h]; grind
    · by_cases hy2 : y ∈ piv
      · obtain ⟨i, hi, e⟩ := List.getElem_of_mem hy2
        have e2 : piv.getD i default = y := by rw [List.getD, List.getElem?_eq_getElem hi]; exact e
        have hir : r ≠ i := fun e3 => h2 (by rw [e3, e2])
        have := H.col i hi r hr hir
        rw [e2] at this
        rw [this]; grind
      · rw [kvTo_out _ (Nat.le_refl _) hy2, if_neg h1]; grind
  · refine sm_zero' fun y hy => ?_
    rw [H.rest r h hr y hy]; grind
theorem kerTo_get {S : Mt} {piv : List Nat} {c j : Nat} (hn : j ∉ piv) : ∀ m, j < m → (kerTo S piv c m).getD (kerTo S piv c j).length default = rowf c (kvTo S piv j piv.length) ∧ (kerTo S piv c j).length < (kerTo S piv c m).length := by
  intro m
  induction m with
  | zero => intro h; omega
  | succ m ih =>
    intro h
    by_cases e : j = m
    · subst e
      show (kerTo S piv c j ++ _).getD _ _ = _ ∧ _ < (kerTo S piv c j ++ _).length
      rw [if_neg hn]
      simp [List.getD]
    · obtain ⟨h1, h2⟩ := ih (by omega)
      show (kerTo S piv c m ++ _).getD _ _ = _ ∧ _ < (kerTo S piv c m ++ _).length
      refine ⟨?_, by rw [List.length_append]; omega⟩
      rw [← h1]
      simp [List.getD, List.getElem?_append_left h2]
theorem kerTo_len {S : Mt} {piv : List Nat} {c : Nat} (hm : ∀ i i', i < i' → i' < piv.length → piv.getD i default < piv.getD i' default) : ∀ m, ∃ q, q ≤ piv.length ∧ (kerTo S piv c m).length + q = m ∧ (∀ i, i < q → piv.getD i default < m) ∧ (q < piv.length → m ≤ piv.getD q default) := by
  intro m
  induction m with
  | zero => exact ⟨0, Nat.zero_le _, rfl, fun i h => by omega, fun _ => Nat.zero_le _⟩
  | succ m ih =>
    obtain ⟨q, h1, h2, h3, h4⟩ := ih
    by_cases e : m ∈ piv
    · obtain ⟨i, hi, e1⟩ := List.getElem_of_mem e
      have e2 : piv.getD i default = m := by rw [List.getD, List.getElem?_eq_getElem hi]; exact e1
      have hqi : q = i := by
        rcases Nat.lt_trichotomy q i with h | h | h
        · have := hm q i h hi
          have := h4 (by omega)
          omega
        · exact h
        · have := h3 i h; omega
      subst hqi
      refine ⟨q + 1, by omega, ?_, fun i' hi' => ?_, fun hq => ?_⟩
      · show (kerTo S piv c m ++ _).length + _ = _
        rw [if_pos e, List.append_nil]; omega
      · by_cases h : i' = q
        · rw [h, e2]; omega
        · have := h3 i' (by omega); omega
      · have := hm q (q + 1) (by omega) hq; omega
    · refine ⟨q, h1, ?_, fun i hi => by have := h3 i hi; omega, fun hq => ?_⟩
      · show (kerTo S piv c m ++ _).length + _ = _
        rw [if_neg e, List.length_append, List.length_singleton]; omega
      · have h5 := h4 hq
        have : piv.getD q default ≠ m := fun h => e (by rw [← h, List.getD, List.getElem?_eq_getElem hq]; exact List.getElem_mem _)
        omega
theorem kerTo_all {n c : Nat} {A : Mt} : (kerTo (grun n A c).1 (grun n A c).2.1 c c).length + (grun n A c).2.1.length = c := by
  have H := grun_RR n A c
  obtain ⟨q, h1, h2, h3, h4⟩ := kerTo_len (S := (grun n A c).1) (c := c) H.mono c
  rcases Nat.lt_or_ge q (grun n A c).2.1.length with h | h
  · have := h4 h
    have := H.lt q h
    omega
  · omega
end Go.S

end
section
set_option linter.unusedVariables false
set_option linter.unusedSimpArgs false
set_option maxRecDepth 100000
namespace Go.S
open Go Go.AM Go.RowKit Go.K
theorem ui_getN (l : List Int) (i : Nat) (h : i < l.length) : (ui l)[i]? = some (.int .i64 (l.getD i default)) := by
  simp [ui, List.getD, List.getElem?_eq_getElem h]
theorem s_Index (l : List Int) (x : Int) (hl : l.length ≤ 1000000) : ∃ z : Int, CP (CL F) 118 [.lst (ui l), .int .i64 x] = some (.int .i64 z) ∧ decide (0 ≤ z) = decide (x ∈ l) := by
  suffices H : CP (CL F) 118 [.lst (ui l), .int .i64 x] = some (.int .i64 (if l.findIdx (fun y => decide (x = y)) < l.length then (l.findIdx (fun y => decide (x = y)) : Int) else -1)) by
    refine ⟨_, H, ?_⟩
    have e : x ∈ l ↔ l.findIdx (fun y => decide (x = y)) < l.length := by
      rw [List.findIdx_lt_length]
      exact ⟨fun h => ⟨x, h, by simp⟩, fun ⟨y, hy, h⟩ => by simp at h; rw [h]; exact hy⟩
    by_cases h : l.findIdx (fun y => decide (x = y)) < l.length
    · rw [if_pos h, decide_eq_true (e.2 h)]; exact decide_eq_true (by omega)
    · rw [if_neg h, decide_eq_false (fun n => h (e.1 n))]; rfl
  refine CP_X (F := F) (f := 118) rfl rfl ?_
  refine go3 ?_
  refine X_upto l.length (fun i s => ∃ j5 j9 j16, (∀ j, j < i → x ≠ l.getD j default) ∧ s = ⟨[(0, .lst (ui l)), (1, .int .i64 x), (4, eI 0), (5, j5), (7, eI l.length), (8, eI i), (9, j9), (16, j16)], []⟩) ?_ 0 (Nat.zero_le _) _ ⟨_, _, _, fun j hj => by omega, rfl⟩
  rintro i s hi ⟨j5, j9, j16, hall, rfl⟩ rec
  by_cases hlt : i < l.length
  · have hlt2 := lt_c hlt
    have g := ui_getN l i hlt
    by_cases hx : x = l.getD i default
    · rw [findIdx_spec (p := fun y => decide (x = y)) hlt (decide_eq_true hx) fun j hj => decide_eq_false (hall j hj), if_pos hlt]
      generalize l.getD i default = y at *
      clear hall rec hi
      refine go3 ?_
      trivial
    · have hnext : ∀ j, j < i + 1 → x ≠ l.getD j default := fun j hj => by
        rcases Nat.lt_or_ge j i with h | h
        · exact hall j h
        · have : j = i := by omega
          subst this; exact hx
      have hi6 : i < 9223372036854775807 := by omega
      have hw := i64_nat hi6
      clear hall
      generalize hy : l.getD i default = y at *
      refine go3 ?_
      exact rec _ hlt ⟨_, _, _, hnext, rfl⟩
  · have hl3 : ¬ ((i : Int) < (l.length : Int)) := by omega
    have he := findIdx_none (l := l) (p := fun y => decide (x = y)) fun j hj => decide_eq_false (hall j (by omega))
    rw [if_neg he]
    clear hall rec he
    refine go3 ?_
    trivial
theorem s_Contains (l : List Int) (x : Int) (hl : l.length ≤ 1000000) : CP (CL F) 73 [.lst (ui l), .int .i64 x] = some (.bool (decide (x ∈ l))) := by
  refine CP_X (F := F) (f := 73) rfl rfl ?_
  obtain ⟨z, h, e⟩ := s_Index l x hl
  rw [← e]
  clear e
  refine go3 ?_
  trivial
theorem s_HasInt (l : List Int) (x : Int) (hl : l.length ≤ 1000000) : CP (CL F) 28 [.lst (ui l), .int .i64 x] = some (.bool (decide (x ∈ l))) := by
  refine CP_X (F := F) (f := 28) rfl rfl ?_
  refine go3 ?_
  refine X_upto l.length (fun i s => ∃ j9 j17, (∀ j, j < i → x ≠ l.getD j default) ∧ s = ⟨[(0, .lst (ui l)), (1, .int .i64 x), (4, .bool false), (5, eI i), (9, j9), (17, j17)], []⟩) ?_ 0 (Nat.zero_le _) _ ⟨_, _, fun j hj => by omega, rfl⟩
  rintro i s hi ⟨j9, j17, hall, rfl⟩ rec
  by_cases hlt : i < l.length
  · have hlt2 := lt_c hlt
    have g := ui_getN l i hlt
    by_cases hx : x = l.getD i default
    · have hm : x ∈ l := by rw [hx]; exact getD_mem hlt
      rw [decide_eq_true hm]
      have hx' := hx.symm
      clear hall rec hi hm hx
      refine go3 ?_
      trivial
    · have hnext : ∀ j, j < i + 1 → x ≠ l.getD j default := fun j hj => by
        rcases Nat.lt_or_ge j i with h | h
        · exact hall j h
        · have : j = i := by omega
          subst this; exact hx
      have hx' : ¬ (l.getD i default = x) := fun h => hx h.symm
      have hi6 : i < 9223372036854775807 := by omega
      have hw := i64_nat hi6
      clear hall hx
      refine go3 ?_
      exact rec _ hlt ⟨_, _, hnext, rfl⟩
  · have hl3 : ¬ ((i : Int) < (l.length : Int)) := by omega
    have hm : x ∉ l := fun h => by
      obtain ⟨j, hj, e⟩ := List.getElem_of_mem h
      have := hall j (by omega)
      rw [List.getD, List.getElem?_eq_getElem hj] at this
      exact this e.symm
    rw [decide_eq_false hm]
    clear hall rec hm
    refine go3 ?_
    trivial
theorem s_vect_Unit_raw {n i : Nat} (hn : n ≤ 200) (hi : i < n) (h : Heap) : CL F 74 [eI n, eI i] h = some (.tup [.ref h.length 0 3 0 n, eI 0], h ++ [some ⟨0, 3, em eQ ((List.replicate n 0).set i 1)⟩]) := by
  refine CL_X (F := F) (f := 74) rfl rfl ?_
  have hz := s_vect_Zero_raw hn
  have hr := s_rat_Of (a := 1) (by decide) (by decide)
  rw [show ((1 : Int) : Rat) = 1 from rfl] at hr
  have h0 : ¬ ((i : Int) < 0) := by omega
  have h1 : ¬ ((n : Int) ≤ (i : Int)) := by omega
  have h2 : (i : Int) < (n : Int) := by omega
  have hg := em_getN (f := eQ) (List.replicate n 0) i (by simpa using hi)
  refine go3 ?_
  trivial
theorem unit_rowf {n i : Nat} (hi : i < n) : (List.replicate n (0 : Rat)).set i 1 = rowf n fun y => if y = i then 1 else 0 := by
  refine List.ext_getElem (by simp [rowf]) fun k h1 h2 => ?_
  rw [List.getElem_set]
  by_cases e : i = k
  · subst e; simp [rowf]
  · simp [rowf, e, Ne.symm e]
theorem ivl_mem {l : List Nat} {x : Nat} : (x : Int) ∈ ivl l ↔ x ∈ l := by
  unfold ivl
  rw [List.mem_map]
  exact ⟨fun ⟨y, hy, e⟩ => by rw [show x = y by omega]; exact hy, fun h => ⟨x, h, rfl⟩⟩
theorem ivl_getD {l : List Nat} {i : Nat} (h : i < l.length) : (ivl l).getD i default = ((l.getD i default : Nat) : Int) := by
  simp [ivl, List.getD, List.getElem?_eq_getElem h]
theorem s_Kernel_bad {t : List (List Rat)} (ht : t.length ≤ 1000000) (h : may t = false) : CP (CL F) 26 [eT t] = some (.tup [.lst [], eI 8]) := by
  refine CP_X (F := F) (f := 26) rfl rfl ?_
  have h1 := s_Reduce_bad ht h
  clear h
  refine go3 ?_
  trivial
theorem dotTo_sm' (a b : List Rat) : ∀ k, dotTo a b k = sm k fun i => a.getD i default * b.getD i default := by
  intro k
  induction k with
  | zero => rfl
  | succ k ih => show dotTo a b k + _ = _ ; rw [ih]; rfl
def PK (h : Heap) (l : List (List Rat)) (pr : AV) : Prop := (l = [] ∧ pr = .nil) ∨ ∃ v g1 g2, h = g1 ++ some ⟨v, 1, em eR l⟩ :: g2 ∧ pr = .ref g1.length v 1 0 l.length
theorem s_Kernel {n c M : Nat} {A : Mt} (hn2 : n ≤ 200) (hc : c ≤ 200) (h0 : n = 0 → c = 0) (hM : M < 1000000) (hA : GB n c M A) :
    CP (CL F) 26 [eT (tab n c A)] = some (.tup [eT (kerTo (grun n A c).1 (grun n A c).2.1 c c), eI 0]) := by
  refine CP_X (F := F) (f := 26) rfl rfl ?_
  have h1 := s_Reduce hn2 hc h0 hM hA
  have h2 := s_Size (tab n c A)
  have hW : wide (tab n c A) = c := by
    rcases Nat.eq_zero_or_pos n with e | e
    · subst e; rw [h0 rfl]; rfl
    · exact tab_wide e
  rw [hW, tab_len] at h2
  have H := grun_RR n A c
  have gb := (hA c (Nat.le_refl _)).1
  have hkl : ∀ j, (kerTo (grun n A c).1 (grun n A c).2.1 c j).length ≤ j := fun j => by
    obtain ⟨q, _, h, _, _⟩ := kerTo_len (S := (grun n A c).1) (c := c) H.mono j
    omega
  generalize (grun n A c).1 = S at *
  generalize (grun n A c).2.1 = piv at *
  generalize tab n c A = T0 at *
  have z3 := ivl_len piv
  have hple := H.le
  clear hA h0 hW
  refine go3 ?_
  refine X_up c (fun j s => ∃ j10 j11 j13 j14 j31 j35 j42 j43 j44 j45 pr h, PK h (kerTo S piv c j) pr ∧ s = ⟨[(0, eT T0), (2, .nil), (3, eI 0), (4, eT (tab n c S)), (5, .lst (ui (ivl piv))), (6, eI 0), (7, pr), (9, eI c), (10, j10), (11, j11), (13, j13), (14, j14), (22, .bool false), (29, eI c), (30, eI j), (31, j31), (35, j35), (42, j42), (43, j43), (44, j44), (45, j45)], h⟩) ?_ ?_ 0 (Nat.zero_le _) _ ⟨_, _, _, _, _, _, _, _, _, _, _, _, .inl ⟨rfl, rfl⟩, rfl⟩
  · rintro j s hj ⟨j10, j11, j13, j14, j31, j35, j42, j43, j44, j45, pr, h, hp, rfl⟩ rec
    have hlt := lt_c hj
    have hct := s_Contains (ivl piv) j (by omega)
    rw [show decide ((j : Int) ∈ ivl piv) = decide (j ∈ piv) from decide_eq_decide.2 ivl_mem] at hct
    have hi6 : j < 9223372036854775807 := by omega
    have hkk := hkl j
    clear h1 h2
    by_cases hm : j ∈ piv
    · rw [decide_eq_true hm] at hct
      have hk : kerTo S piv c (j + 1) = kerTo S piv c j := by show kerTo S piv c j ++ _ = _; rw [if_pos hm, List.append_nil]
      rw [← hk] at hp
      have hw := i64_nat hi6
      clear gb hk hkl H
      refine go3 ?_
      exact rec _ ⟨_, _, _, _, _, _, _, _, _, _, _, _, hp, rfl⟩
    · rw [decide_eq_false hm] at hct
      have hk : kerTo S piv c (j + 1) = kerTo S piv c j ++ [rowf c (kvTo S piv j piv.length)] := by show kerTo S piv c j ++ _ = _; rw [if_neg hm]
      have hu := s_vect_Unit_raw hc hj
      rw [unit_rowf hj] at hu
      have hk0 : (rowf c fun y => if y = j then 1 else 0) = rowf c (kvTo S piv j 0) := rfl
      rw [hk0] at hu
      rw [hk] at rec
      clear hk hk0 hkl
      refine go3 ?_
      refine X_up piv.length (fun i s => ∃ j13 j14 j45, s = ⟨[(0, eT T0), (2, .nil), (3, eI 0), (4, eT (tab n c S)), (5, .lst (ui (ivl piv))), (6, eI 0), (7, pr), (9, eI c), (10, eI j), (11, .ref h.length 0 3 0 c), (13, j13), (14, j14), (22, .bool false), (29, eI c), (30, eI j), (31, .bool true), (35, .bool false), (42, .lst (ui (ivl piv))), (43, eI piv.length), (44, eI i), (45, j45)], h ++ [some ⟨0, 3, em eQ (rowf c (kvTo S piv j i))⟩]⟩) ?_ ?_ 0 (Nat.zero_le _) _ ⟨_, _, _, rfl⟩
      · rintro i s hi ⟨j13, j14, j45, rfl⟩ rec2
        have hlt2 := lt_c hi
        have q1 := ui_getN (ivl piv) i (by omega)
        rw [ivl_getD hi] at q1
        have hpc := H.lt i hi
        have q2 := em_getN (f := eR) (tab n c S) i (by rw [tab_len]; omega)
        rw [tab_get (by omega)] at q2
        have q3 := em_getN (f := eQ) (rowf c (S i)) j (by rw [rowf_len]; exact hj)
        rw [rowf_get hj] at q3
        have q4 := s_rat_Neg (a := S i j) (by have := gb i (by omega) j hj; omega)
        have q5 := em_getN (f := eQ) (rowf c (kvTo S piv j i)) (piv.getD i default) (by rw [rowf_len]; exact hpc)
        have q6 : (rowf c (kvTo S piv j i)).set (piv.getD i default) (-(S i j)) = rowf c (kvTo S piv j (i + 1)) := rowf_setN hpc
        have rl1 := rowf_len c (S i)
        have rl2 := rowf_len c (kvTo S piv j i)
        have rl3 := tab_len n c S
        have c1 : ((piv.getD i default : Nat) : Int) < (c : Int) := by omega
        have c2 : ((j : Int) < (c : Int)) := by omega
        have c3 : ((i : Int) < (n : Int)) := by omega
        have hi7 : i < 9223372036854775807 := by omega
        generalize piv.getD i default = pi at *
        generalize rowf c (kvTo S piv j (i + 1)) = R2 at *
        generalize rowf c (kvTo S piv j i) = R1 at *
        generalize (R1.getD pi default) = y at *
        generalize rowf c (S i) = ri at *
        generalize S i j = x at *
        have hw := i64_nat hi7
        clear gb H rec hp
        refine go3 ?_
        exact rec2 _ ⟨_, _, _, rfl⟩
      · rintro s ⟨j13, j14, j45, rfl⟩
        have hlt2 : ¬ ((piv.length : Int) < (piv.length : Int)) := nlt_c
        have rl2 := rowf_len c (kvTo S piv j piv.length)
        have ht2 : List.take c (rowf c (kvTo S piv j piv.length)) = rowf c (kvTo S piv j piv.length) := take_len_g _ rl2.symm
        generalize rowf c (kvTo S piv j piv.length) = R at *
        have hlim : (kerTo S piv c j).length < 5864062014805 := by omega
        have ht3 : List.take (kerTo S piv c j).length (kerTo S piv c j) = kerTo S piv c j := List.take_length
        have hw := i64_nat hi6
        rcases hp with ⟨hp1, rfl⟩ | ⟨v, g1, g2, rfl, rfl⟩
        · rw [hp1] at rec
          clear gb H hp1 ht3 hlim
          refine go3 ?_
          exact rec _ ⟨_, _, _, _, _, _, _, _, _, _, _, _, .inr ⟨0, h ++ [none, some ⟨0, 1, [eR R]⟩], [], by simp; rfl, by simp⟩, rfl⟩
        · generalize hK : kerTo S piv c j = K at *
          clear gb H hK
          refine go3 ?_
          exact rec _ ⟨_, _, _, _, _, _, _, _, _, _, _, _, .inr ⟨v + 1, g1, _, rfl, by simp⟩, rfl⟩
  · rintro s ⟨j10, j11, j13, j14, j31, j35, j42, j43, j44, j45, pr, h, hp, rfl⟩
    have hlt : ¬ ((c : Int) < (c : Int)) := nlt_c
    generalize kerTo S piv c c = K at *
    clear gb H hkl
    rcases hp with ⟨rfl, rfl⟩ | ⟨v, g1, g2, rfl, rfl⟩
    · refine go3 ?_
      trivial
    · refine go3 ?_
      trivial
end Go.S

end
section
set_option linter.unusedVariables false
set_option linter.unusedSimpArgs false
set_option maxRecDepth 100000
namespace Go.S
open Go Go.AM Go.RowKit Go.K
theorem s_is_t : CP (CL F) 32 [.bool true] = some (eI 1) := by
  refine CP_X (F := F) (f := 32) rfl rfl ?_
  refine go3 ?_
  trivial
theorem s_is_f : CP (CL F) 32 [.bool false] = some (eI 0) := by
  refine CP_X (F := F) (f := 32) rfl rfl ?_
  refine go3 ?_
  trivial
theorem lead_zero {p : List Rat} (h : ∀ q ∈ p, q = 0) : lead p = p.length := by
  unfold lead
  rw [List.findIdx_eq_length]
  intro q hq
  rw [h q hq]
  rfl
set_option maxHeartbeats 4000000
theorem law_GaussKernel {t : List (List XQ)} (ht : ∀ l ∈ t, ∀ x ∈ l, x.ok) : CP (CL F) 5 [.lst (em eXL t)] = some (.bool true) := by
  refine CP_X (F := F) (f := 5) rfl rfl ?_
  obtain ⟨p, p1, p2, p3⟩ := s_Few12 ht (most := 5) (by decide)
  replace p3 : CP (CL F) 11 [.lst (em eXL t), eI 5] = some (.tup [eT p, rT p]) := p3
  have lp : p.length ≤ 5 := by omega
  have wp : wide p ≤ 5 := by
    unfold wide
    cases p with
    | nil => simp
    | cons r p => exact (p2 r (List.mem_cons_self ..)).1
  have mp : may p = even p := by
    have h1 : p.length ≤ 200 := by omega
    have h2 : wide p ≤ 200 := by omega
    simp [may, h1, h2]
  have k1 := s_Check (t := p) (by omega)
  have w := s_works14
  cases ep : even p with
  | false =>
    rw [mp, ep, if_neg (by decide)] at k1
    have r1 := s_Kernel_bad (t := p) (by omega) (by rw [mp, ep])
    clear p1 p2 mp lp wp ep
    refine go3 ?_
    trivial
  | true =>
    rw [mp, ep, if_pos rfl] at k1
    have ev := even_iff.1 ep
    have hA := ent_size (K := 1) (fun r hr => (p2 r hr).2) ev
    have hp : p = tab p.length (wide p) (ent p) := (tab_of ev).symm
    have h0 : p.length = 0 → wide p = 0 := fun h => by
      have : p = [] := List.eq_nil_of_length_eq_zero h
      rw [this]; rfl
    have z2 := s_Size p
    have hmay : may p = true := by rw [mp, ep]
    have hlq : ∀ r ∈ p, ∀ q ∈ r, Lq q ≤ 3125 := fun r hr q hq => by have := (p2 r hr).2 q hq; omega
    generalize hA' : ent p = A at *
    generalize hn : p.length = n at *
    generalize hc : wide p = c at *
    have hpow : 1 * 5 ^ n ≤ 3125 := by
      have : 5 ^ n ≤ 5 ^ 5 := Nat.pow_le_pow_right (by decide) lp
      omega
    have gb : GB n c 3125 A := fun j hj => by
      obtain ⟨g1, g2⟩ := grun_GB (Nat.le_refl 1) hA j hj
      exact ⟨fun r hr y hy => Nat.le_trans (g1 r hr y hy) hpow, Nat.le_trans g2 hpow⟩
    have r1 := s_Kernel (by omega) (by omega) h0 (M := 3125) (by decide) gb
    have r3 := s_refReduce (by omega) (by omega) h0 (Nat.le_refl 1) hA (by omega)
    rw [← hp] at r1 r3
    have H := grun_RR n A c
    have kall := kerTo_all (n := n) (c := c) (A := A)
    have sgb := (gb c (Nat.le_refl _)).1
    have step : ∀ j, j < c → j ∉ (grun n A c).2.1 → ∃ x, CP (CL F) 29 [eT p, eR (rowf c (kvTo (grun n A c).1 (grun n A c).2.1 j (grun n A c).2.1.length))] = some (.tup [eR x, eI 0]) ∧ CP (CL F) 30 [eR x] = some (eI x.length) := fun j hj hnj => by
      have kz := ker_zero (n := n) (A := A) hj hnj
      refine ⟨_, s_Apply (v := rowf c (kvTo (grun n A c).1 (grun n A c).2.1 j (grun n A c).2.1.length)) hmay (by rw [hc, rowf_len]) (M := 3125) (by decide) hlq (fun q hq => ?_), ?_⟩
      · obtain ⟨y, hy, rfl⟩ := mem_rowf.1 hq
        by_cases hm : y ∈ (grun n A c).2.1
        · obtain ⟨i, hi, e⟩ := List.getElem_of_mem hm
          have e2 : (grun n A c).2.1.getD i default = y := by rw [List.getD, List.getElem?_eq_getElem hi]; exact e
          rw [← e2, kvTo_at H.mono _ (Nat.le_refl _) hi, Lq_neg]
          exact sgb i (by have := H.le; omega) j hj
        · rw [kvTo_out _ (Nat.le_refl _) hm]
          split
          · have := Lq_one; omega
          · have := Lq_zero; omega
      · have hz : ∀ q ∈ applyR p (rowf c (kvTo (grun n A c).1 (grun n A c).2.1 j (grun n A c).2.1.length)), q = 0 := fun q hq => by
          obtain ⟨r, hr, rfl⟩ := List.mem_map.1 hq
          have hr2 := hr
          rw [hp] at hr2
          obtain ⟨i, hi, rfl⟩ := mem_tab.1 hr2
          unfold dot
          rw [rowf_len, dotTo_sm']
          rw [← kz i hi]
          exact sm_congr fun y hy => by rw [rowf_get hy, rowf_get hy]
        have := s_vect_Lead (l := applyR p (rowf c (kvTo (grun n A c).1 (grun n A c).2.1 j (grun n A c).2.1.length))) (by simp [applyR]; omega)
        rwa [lead_zero hz] at this
    have kget := fun j (hj : j < c) (hnj : j ∉ (grun n A c).2.1) => kerTo_get (S := (grun n A c).1) (c := c) hnj c hj
    have kout := fun j y (hy : y ∉ (grun n A c).2.1) => kvTo_out (S := (grun n A c).1) (j := j) (grun n A c).2.1.length (Nat.le_refl _) hy
    have ple := H.le
    generalize (grun n A c).1 = S at *
    generalize (grun n A c).2.1 = piv at *
    have z3 := ivl_len piv
    have hsub : wrap64 ((c : Int) - (piv.length : Int)) = ((kerTo S piv c c).length : Int) := by
      rw [w64 (by omega) (by omega)]; omega
    have kl0 : (kerTo S piv c 0).length = 0 := rfl
    have ks : ∀ j, kerTo S piv c (j + 1) = kerTo S piv c j ++ if j ∈ piv then [] else [rowf c (kvTo S piv j piv.length)] := fun j => rfl
    have hk5 : (kerTo S piv c c).length ≤ 5 := by omega
    clear p1 p2 mp ev hA h0 hpow gb H kall sgb hmay hlq hp hA' hn
    refine go3 ?_
    clear hsub
    refine X_up c (fun j s => ∃ j13 j14 j15 j16 j63 j68 j87 j90 j109, s = ⟨[(0, .lst (em eXL t)), (2, .bool false), (3, eT p), (4, rT p), (5, eT (kerTo S piv c c)), (6, eI 0), (8, .lst (ui (ivl piv))), (10, eI c), (11, eI (kerTo S piv c j).length), (12, eI j), (13, j13), (14, j14), (15, j15), (16, j16), (29, .bool false), (60, .bool false), (63, j63), (68, j68), (87, j87), (90, j90), (109, j109)], []⟩) ?_ ?_ 0 (Nat.zero_le _) _ ⟨_, _, _, _, _, _, _, _, _, rfl⟩
    · rintro j s hj ⟨j13, j14, j15, j16, j63, j68, j87, j90, j109, rfl⟩ rec
      have hlt := lt_c hj
      have hct := s_HasInt (ivl piv) j (by omega)
      rw [show decide ((j : Int) ∈ ivl piv) = decide (j ∈ piv) from decide_eq_decide.2 ivl_mem] at hct
      have hi6 : j < 9223372036854775807 := by omega
      have ksj := ks j
      clear r1 r3
      by_cases hm : j ∈ piv
      · rw [decide_eq_true hm] at hct
        rw [if_pos hm, List.append_nil] at ksj
        rw [ksj] at rec
        have hw := i64_nat hi6
        clear step kget kout ks ksj hm
        refine go3 ?_
        exact rec _ ⟨_, _, _, _, _, _, _, _, _, rfl⟩
      · rw [decide_eq_false hm] at hct
        rw [if_neg hm] at ksj
        have hkl : (kerTo S piv c (j + 1)).length = (kerTo S piv c j).length + 1 := by rw [ksj]; simp
        obtain ⟨x, s1, s2⟩ := step j hj hm
        obtain ⟨q1, q2⟩ := kget j hj hm
        have q3 := em_getN (f := eR) (kerTo S piv c c) (kerTo S piv c j).length q2
        rw [q1] at q3
        have q4 := lt_c q2
        have ko := fun y hy => kout j y hy
        have vl := rowf_len c (kvTo S piv j piv.length)
        have vg : ∀ i, i < c → (em eQ (rowf c (kvTo S piv j piv.length)))[i]? = some (eQ (kvTo S piv j piv.length i)) := fun i hi => by
          have := em_getN (f := eQ) (rowf c (kvTo S piv j piv.length)) i (by rw [rowf_len]; exact hi)
          rwa [rowf_get hi] at this
        have hi8 : (kerTo S piv c j).length < 9223372036854775807 := by omega
        rw [hkl] at rec
        generalize kvTo S piv j piv.length = V at *
        generalize rowf c V = v at *
        generalize kerTo S piv c c = K at *
        generalize (kerTo S piv c j).length = l at *
        have e0 : ¬ ((x.length : Int) ≠ (x.length : Int)) := fun h => h rfl
        clear step kget kout ks ksj hkl q1 hk5 kl0
        refine go3 ?_
        refine X_up c (fun i s => ∃ j90 j109, s = ⟨[(0, .lst (em eXL t)), (2, .bool false), (3, eT p), (4, rT p), (5, eT K), (6, eI 0), (8, .lst (ui (ivl piv))), (10, eI c), (11, eI l), (12, eI j), (13, eR v), (14, eR x), (15, eI 0), (16, eI i), (29, .bool false), (60, .bool false), (63, .bool true), (68, .bool false), (87, .bool false), (90, j90), (109, j109)], []⟩) ?_ ?_ 0 (Nat.zero_le _) _ ⟨_, _, rfl⟩
        · rintro i s hi ⟨j90, j109, rfl⟩ rec2
          have hlt2 := lt_c hi
          have hci := s_HasInt (ivl piv) i (by omega)
          rw [show decide ((i : Int) ∈ ivl piv) = decide (i ∈ piv) from decide_eq_decide.2 ivl_mem] at hci
          have hi7 : i < 9223372036854775807 := by omega
          have vgi := vg i hi
          by_cases hmi : i ∈ piv
          · rw [decide_eq_true hmi] at hci
            have hw := i64_nat hi7
            clear ko vg hmi rec s1 s2 hct
            refine go3 ?_
            exact rec2 _ ⟨_, _, rfl⟩
          · rw [decide_eq_false hmi] at hci
            rw [ko i hmi] at vgi
            by_cases hij : i = j
            · rw [if_pos hij] at vgi
              have e1 : (i : Int) = (j : Int) := by omega
              have e2 := s_is_t
              have e3 := s_rat_Of (a := 1) (by decide) (by decide)
              rw [show ((1 : Int) : Rat) = 1 from rfl] at e3
              have e4 := s_rat_Same (a := 1) (b := 1) (by have := Lq_one; omega)
              rw [decide_eq_true rfl] at e4
              have hd : decide ((i : Int) = (j : Int)) = true := decide_eq_true e1
              have hw := i64_nat hi7
              clear ko vg hmi rec s1 s2 hct e1 hij
              refine go3 ?_
              exact rec2 _ ⟨_, _, rfl⟩
            · rw [if_neg hij] at vgi
              have e1 : ¬ (i : Int) = (j : Int) := by omega
              have e2 := s_is_f
              have e3 := s_rat_Of (a := 0) (by decide) (by decide)
              rw [show ((0 : Int) : Rat) = 0 from rfl] at e3
              have e4 := s_rat_Same (a := 0) (b := 0) (by have := Lq_zero; omega)
              rw [decide_eq_true rfl] at e4
              have hw := i64_nat hi7
              clear ko vg hmi rec s1 s2 hct hij
              refine go3 ?_
              exact rec2 _ ⟨_, _, rfl⟩
        · rintro s ⟨j90, j109, rfl⟩
          have hlt2 : ¬ ((c : Int) < (c : Int)) := nlt_c
          have hw := i64_nat hi6
          have hw8 := i64_nat hi8
          clear ko vg s1 s2 hct
          refine go3 ?_
          exact rec _ ⟨_, _, _, _, _, _, _, _, _, rfl⟩
    · rintro s ⟨j13, j14, j15, j16, j63, j68, j87, j90, j109, rfl⟩
      have hlt : ¬ ((c : Int) < (c : Int)) := nlt_c
      clear step kget kout ks r1 r3
      refine go3 ?_
      trivial
end Go.S

end
