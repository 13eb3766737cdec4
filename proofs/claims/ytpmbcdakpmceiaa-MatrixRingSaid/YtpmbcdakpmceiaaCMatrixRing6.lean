/- A part of the proof of the law MatrixRing: an abstract machine for the functions' code with its soundness, words, lemmas (assembled by a program). -/
import Derived.Test.YtpmbcdakpmceiaaCMatrixRing5
set_option linter.unusedVariables false
set_option linter.unusedSimpArgs false
set_option linter.unusedSectionVars false
section
set_option linter.unusedVariables false
set_option linter.unusedSimpArgs false
set_option maxRecDepth 100000
namespace Go.S
open Go Go.AM Go.RowKit Go.K
abbrev eT (t : List (List Rat)) : AV := .lst (em eR t)
abbrev rT (t : List (List Rat)) : AV := .lst (em rR t)
def wide (t : List (List Rat)) : Nat := (t.getD 0 []).length
def even (t : List (List Rat)) : Bool := t.all fun r => decide (r.length = wide t)
theorem even_iff {t : List (List Rat)} : even t = true ↔ ∀ r ∈ t, r.length = wide t := by simp [even]
theorem E_eT : Enc eT 1 := ⟨fun _ => rfl, fun _ => rfl⟩
theorem findIdx_spec {α : Type} [Inhabited α] {l : List α} {p : α → Bool} {i : Nat} (hi : i < l.length) (h1 : p (l.getD i default) = true) (h2 : ∀ j, j < i → p (l.getD j default) = false) : l.findIdx p = i := by
  rw [List.findIdx_eq hi]
  refine ⟨by rw [List.getD_eq_getElem?_getD, List.getElem?_eq_getElem hi] at h1; simpa using h1, fun j hj => ?_⟩
  have := h2 j hj
  rw [List.getD_eq_getElem?_getD, List.getElem?_eq_getElem (by omega)] at this
  simpa using this
theorem findIdx_none {α : Type} [Inhabited α] {l : List α} {p : α → Bool} (h : ∀ j, j < l.length → p (l.getD j default) = false) : ¬ l.findIdx p < l.length := by
  rw [List.findIdx_lt_length]
  rintro ⟨x, hx, hp⟩
  obtain ⟨j, hj, rfl⟩ := List.getElem_of_mem hx
  have := h j (by omega)
  rw [List.getD_eq_getElem?_getD, List.getElem?_eq_getElem hj] at this
  simp [hp] at this
theorem s_IndexRow {t : List (List Rat)} {g : Nat} {c : Int} {p : List Rat → Bool} (hl : t.length ≤ 1000000) (hg : ∀ x ∈ t, CP (CL F) g [eR x, .fad (.int .i64 c)] = some (.bool (p x))) :
    CP (CL F) 130 [eT t, .fn g [] [.fad (.int .i64 c)]] = some (eI (if t.findIdx p < t.length then (t.findIdx p : Int) else -1)) := by
  refine CP_X (F := F) (f := 130) rfl rfl ?_
  have c1 : ∀ h, fz h (.fn g [] [.fad (.int .i64 c)]) = some (.fn g [] [.fad (.int .i64 c)]) := fun _ => rfl
  have c2 : ∀ h, used h deep (.fn g [] [.fad (.int .i64 c)]) = [] := fun _ => rfl
  have c3 : ∀ h, fz h (.fad (.int .i64 c)) = some (.fad (.int .i64 c)) := fun _ => rfl
  have c4 : ∀ h, used h deep (.fad (.int .i64 c)) = [] := fun _ => rfl
  refine go3 ?_
  refine X_upto t.length (fun i s => ∃ j4 j5 j9 j16 g', (∀ j, j < i → p (t.getD j default) = false) ∧ s = ⟨[(0, eT t), (1, .fn g [] [.fad (.int .i64 c)]), (4, j4), (5, j5), (7, eI t.length), (8, eI i), (9, j9), (16, j16)], g'⟩) ?_ 0 (Nat.zero_le _) _ ⟨_, _, _, _, _, fun j hj => by omega, rfl⟩
  rintro i s hi ⟨j4, j5, j9, j16, g', hall, rfl⟩ rec
  by_cases hlt : i < t.length
  · have hlt2 := lt_c hlt
    have g1 := em_getN (f := eR) t i hlt
    have hc := hg _ (getD_mem (l := t) (i := i) hlt)
    cases hp : p (t.getD i default) with
    | true =>
      rw [findIdx_spec hlt hp hall, if_pos hlt]
      rw [hp] at hc
      clear hall hg rec hi hp
      refine go3 ?_
      trivial
    | false =>
      rw [hp] at hc
      have hnext : ∀ j, j < i + 1 → p (t.getD j default) = false := fun j hj => by
        rcases Nat.lt_or_ge j i with h | h
        · exact hall j h
        · have : j = i := by omega
          subst this; exact hp
      have hw := i64_nat (n := i) (by omega)
      clear hall hg hp
      refine go3 ?_
      exact rec _ hlt ⟨_, _, _, _, _, hnext, rfl⟩
  · have hl3 : ¬ ((i : Int) < (t.length : Int)) := by omega
    have he := findIdx_none (l := t) (p := p) fun j hj => hall j (by omega)
    rw [if_neg he]
    clear hall hg rec he
    refine go3 ?_
    trivial
theorem s_ContainsRow {t : List (List Rat)} {g : Nat} {c : Int} {p : List Rat → Bool} (hl : t.length ≤ 1000000) (hg : ∀ x ∈ t, CP (CL F) g [eR x, .fad (.int .i64 c)] = some (.bool (p x))) :
    CP (CL F) 112 [eT t, .fn g [] [.fad (.int .i64 c)]] = some (.bool (t.any p)) := by
  refine CP_X (F := F) (f := 112) rfl rfl ?_
  have c1 : ∀ h, fz h (.fn g [] [.fad (.int .i64 c)]) = some (.fn g [] [.fad (.int .i64 c)]) := fun _ => rfl
  have c2 : ∀ h, used h deep (.fn g [] [.fad (.int .i64 c)]) = [] := fun _ => rfl
  have h1 := s_IndexRow hl hg
  clear hg
  by_cases h : t.findIdx p < t.length
  · have ha : t.any p = true := by
      rw [List.any_eq_true]
      rw [List.findIdx_lt_length] at h
      exact h
    rw [if_pos h] at h1
    rw [ha]
    have h2 : (0 : Int) ≤ (t.findIdx p : Int) := by omega
    clear ha h
    refine go3 ?_
    trivial
  · have ha : t.any p = false := by
      rw [← Bool.not_eq_true, List.any_eq_true, ← List.findIdx_lt_length]
      exact h
    rw [if_neg h] at h1
    rw [ha]
    clear ha h
    refine go3 ?_
    trivial
theorem s_IndexTab {l : List (List (List Rat))} {g : Nat} {p : List (List Rat) → Bool} (hl : l.length ≤ 1000000) (hg : ∀ x ∈ l, CP (CL F) g [eT x] = some (.bool (p x))) :
    CP (CL F) 129 [.lst (em eT l), .fn g [] []] = some (eI (if l.findIdx p < l.length then (l.findIdx p : Int) else -1)) := by
  refine CP_X (F := F) (f := 129) rfl rfl ?_
  refine go3 ?_
  refine X_upto l.length (fun i s => ∃ j4 j5 j9 j16 g', (∀ j, j < i → p (l.getD j default) = false) ∧ s = ⟨[(0, .lst (em eT l)), (1, .fn g [] []), (4, j4), (5, j5), (7, eI l.length), (8, eI i), (9, j9), (16, j16)], g'⟩) ?_ 0 (Nat.zero_le _) _ ⟨_, _, _, _, _, fun j hj => by omega, rfl⟩
  rintro i s hi ⟨j4, j5, j9, j16, g', hall, rfl⟩ rec
  by_cases hlt : i < l.length
  · have hlt2 := lt_c hlt
    have g1 := em_getN (f := eT) l i hlt
    have hc := hg _ (getD_mem (l := l) (i := i) hlt)
    cases hp : p (l.getD i default) with
    | true =>
      rw [findIdx_spec hlt hp hall, if_pos hlt]
      rw [hp] at hc
      clear hall hg rec hi hp
      refine go3 ?_
      trivial
    | false =>
      rw [hp] at hc
      have hnext : ∀ j, j < i + 1 → p (l.getD j default) = false := fun j hj => by
        rcases Nat.lt_or_ge j i with h | h
        · exact hall j h
        · have : j = i := by omega
          subst this; exact hp
      have hw := i64_nat (n := i) (by omega)
      clear hall hg hp
      refine go3 ?_
      exact rec _ hlt ⟨_, _, _, _, _, hnext, rfl⟩
  · have hl3 : ¬ ((i : Int) < (l.length : Int)) := by omega
    have he := findIdx_none (l := l) (p := p) fun j hj => hall j (by omega)
    rw [if_neg he]
    clear hall hg rec he
    refine go3 ?_
    trivial
theorem s_ContainsTab {l : List (List (List Rat))} {g : Nat} {p : List (List Rat) → Bool} (hl : l.length ≤ 1000000) (hg : ∀ x ∈ l, CP (CL F) g [eT x] = some (.bool (p x))) :
    CP (CL F) 110 [.lst (em eT l), .fn g [] []] = some (.bool (l.any p)) := by
  refine CP_X (F := F) (f := 110) rfl rfl ?_
  have h1 := s_IndexTab hl hg
  clear hg
  by_cases h : l.findIdx p < l.length
  · have ha : l.any p = true := by
      rw [List.any_eq_true]
      rw [List.findIdx_lt_length] at h
      exact h
    rw [if_pos h] at h1
    rw [ha]
    have h2 : (0 : Int) ≤ (l.findIdx p : Int) := by omega
    clear ha h
    refine go3 ?_
    trivial
  · have ha : l.any p = false := by
      rw [← Bool.not_eq_true, List.any_eq_true, ← List.findIdx_lt_length]
      exact h
    rw [if_neg h] at h1
    rw [ha]
    clear ha h
    refine go3 ?_
    trivial
theorem s_Size (t : List (List Rat)) : CP (CL F) 40 [eT t] = some (.tup [eI t.length, eI (wide t)]) := by
  refine CP_X (F := F) (f := 40) rfl rfl ?_
  cases t with
  | nil =>
    have h : wide [] = 0 := rfl
    have h0 : em eR [] = [] := rfl
    refine go3 ?_
    trivial
  | cons r t =>
    have h : wide (r :: t) = r.length := rfl
    have h1 : ¬ (((r :: t).length : Int) = 0) := by simp; omega
    have g1 := em_getN (f := eR) (r :: t) 0 (by simp)
    rw [show (r :: t).getD 0 default = r from rfl] at g1
    generalize r :: t = x at *
    refine go3 ?_
    trivial
theorem s_Check1 (r : List Rat) (c : Int) : CP (CL F) 113 [eR r, .fad (.int .i64 c)] = some (.bool (decide ((r.length : Int) ≠ c))) := by
  refine CP_X (F := F) (f := 113) rfl rfl ?_
  have c3 : ∀ h, fz h (.fad (.int .i64 c)) = some (.fad (.int .i64 c)) := fun _ => rfl
  refine go3 ?_
  simp
def may (t : List (List Rat)) : Bool := decide (t.length ≤ 200) && decide (wide t ≤ 200) && even t
theorem s_Check {t : List (List Rat)} (hl : t.length ≤ 1000000) : CP (CL F) 86 [eT t] = some (eI (if may t then 0 else 8)) := by
  refine CP_X (F := F) (f := 86) rfl rfl ?_
  have h0 := s_Size t
  have h1 := s_ContainsRow (t := t) (g := 113) (c := wide t) hl fun x _ => s_Check1 x _
  have h2 : t.any (fun x => decide ((x.length : Int) ≠ (wide t : Int))) = !even t := by
    unfold even
    rw [List.not_all_eq_any_not]
    congr 1
    funext r
    by_cases h : r.length = wide t
    · simp [h]
    · simp [h]; omega
  have c5 : ∀ g, fz (some ⟨0, 1, [eI (wide t)]⟩ :: g) (.fn 113 [] [.ptr 0 0 0 0]) = some (.fn 113 [] [.fad (eI (wide t))]) := fun _ => rfl
  have c6 : ∀ g, used (some ⟨0, 1, [eI (wide t)]⟩ :: g) deep (.fn 113 [] [.ptr 0 0 0 0]) = [0] := fun _ => rfl
  rw [h2] at h1
  clear h2
  by_cases a1 : t.length ≤ 200
  · have b1 : ¬ ((200 : Int) < (t.length : Int)) := by omega
    by_cases a2 : wide t ≤ 200
    · have b2 : ¬ ((200 : Int) < (wide t : Int)) := by omega
      cases h3 : even t with
      | true =>
        have h4 : may t = true := by simp [may, a1, a2, h3]
        rw [h3] at h1
        rw [Bool.not_true] at h1
        rw [h4, if_pos rfl]
        clear h3 h4 a1 a2
        refine go3 ?_
        trivial
      | false =>
        have h4 : may t = false := by simp [may, a1, a2, h3]
        rw [h3] at h1
        rw [Bool.not_false] at h1
        rw [h4, if_neg (by decide)]
        clear h3 h4 a1 a2
        refine go3 ?_
        trivial
    · have b2 : (200 : Int) < (wide t : Int) := by omega
      have h4 : may t = false := by simp [may, a2]
      rw [h4, if_neg (by decide)]
      clear h4 a1 a2
      refine go3 ?_
      trivial
  · have b1 : (200 : Int) < (t.length : Int) := by omega
    have h4 : may t = false := by simp [may, a1]
    rw [h4, if_neg (by decide)]
    clear h4 a1
    refine go3 ?_
    trivial
theorem s_checks1 {t : List (List Rat)} (hl : t.length ≤ 1000000) : CP (CL F) 111 [eT t] = some (.bool (!may t)) := by
  refine CP_X (F := F) (f := 111) rfl rfl ?_
  have h := s_Check hl
  cases h1 : may t with
  | true =>
    rw [h1] at h
    rw [if_pos rfl] at h
    clear h1
    refine go3 ?_
    trivial
  | false =>
    rw [h1] at h
    rw [if_neg (by decide)] at h
    clear h1
    refine go3 ?_
    trivial
theorem s_checks {l : List (List (List Rat))} (hl : l.length ≤ 1000000) (ht : ∀ t ∈ l, t.length ≤ 1000000) : CP (CL F) 82 [.lst (em eT l)] = some (.bool (l.all may)) := by
  refine CP_X (F := F) (f := 82) rfl rfl ?_
  have h := s_ContainsTab (l := l) (g := 111) hl fun x hx => s_checks1 (ht x hx)
  have h2 : l.all may = !(l.any fun x => !may x) := by rw [List.not_any_eq_all_not]; simp
  rw [h2]
  cases h3 : l.any fun x => !may x with
  | true =>
    rw [h3] at h
    clear h2 h3 ht
    refine go3 ?_
    trivial
  | false =>
    rw [h3] at h
    clear h2 h3 ht
    refine go3 ?_
    trivial
end Go.S

end
section
set_option linter.unusedVariables false
set_option linter.unusedSimpArgs false
set_option maxRecDepth 100000
namespace Go.S
open Go Go.AM Go.RowKit Go.K
theorem CL_XE {F : Nat → Option AFunc} {f np nt : Nat} {ks : List Nat} {res : List (Nat × Option (Nat × Bool))} {body : ACode} {args : List AV} {h : Heap} {P : AV × Heap → Prop} (hf : F f = some ⟨np, nt, ks, res, body⟩) (hn : args.length = np)
    (H : X F ks (fun e s => ∃ x, FinR res x e s ∧ P x) body ⟨args0 0 args, h⟩ .done) : ∃ x, CL F f args h = some x ∧ P x := by
  obtain ⟨e, s', h1, x, ⟨he, hr⟩, hp⟩ := H
  exact ⟨x, CL_run hf hn h1 he hr, hp⟩
theorem s_Few_raw {l : List XQ} (hx : ∀ x ∈ l, x.ok) {most : Nat} (hm : most ≤ 1000000) : ∃ qs : List Rat, qs.length = min l.length most ∧ (∀ q ∈ qs, Lq q ≤ 1) ∧ ∀ h, ∃ v w g, CL F 16 [.lst (em eX l), eI most] h = some (.tup [.ref h.length v 3 0 qs.length, .ref (h.length + 1) w 3 0 qs.length], h ++ (some ⟨v, 3, em eQ qs⟩ :: some ⟨w, 3, em rQ qs⟩ :: g)) := by
  have hex : ∃ f : XQ → Rat, ∀ x ∈ l, Lq (f x) ≤ 1 ∧ CP (CL F) 17 [eX x, eI 1] = some (eQ (f x)) := by
    classical
    refine ⟨fun x => if h : x ∈ l then (s_r08_CleanX (hx x h) (m := 1) (by decide) (by decide)).choose else 0, fun x h => ?_⟩
    simp only [h, dif_pos]
    exact (s_r08_CleanX (hx x h) (m := 1) (by decide) (by decide)).choose_spec
  obtain ⟨f, hf⟩ := hex
  refine ⟨(l.take most).map f, by simp; omega, fun q hq => by
    obtain ⟨x, hx, rfl⟩ := List.mem_map.1 hq
    exact (hf x (List.mem_of_mem_take hx)).1, fun h => ?_⟩
  suffices H : ∃ x, CL F 16 [.lst (em eX l), eI most] h = some x ∧ ∃ v w g, x = (.tup [.ref h.length v 3 0 ((l.take most).map f).length, .ref (h.length + 1) w 3 0 ((l.take most).map f).length], h ++ (some ⟨v, 3, em eQ ((l.take most).map f)⟩ :: some ⟨w, 3, em rQ ((l.take most).map f)⟩ :: g)) by
    obtain ⟨x, h1, v, w, g, rfl⟩ := H
    exact ⟨v, w, g, h1⟩
  refine CL_XE (F := F) (f := 16) rfl rfl ?_
  have c1 := @cells_eX
  have c2 := @agg_eX
  have c3 := @fz_eX
  have c4 := @us_eX
  have c5 := @shut_eX
  clear hx
  refine go3 ?_
  refine X_upto (min l.length most) (fun i s => ∃ j4 j5 j9 j20 v w g, s = ⟨[(0, .lst (em eX l)), (1, eI most), (4, j4), (5, j5), (6, .ref h.length v 3 0 i), (7, .ref (h.length + 1) w 3 0 i), (8, eI i), (9, j9), (20, j20)], h ++ (some ⟨v, 3, em eQ ((l.take i).map f)⟩ :: some ⟨w, 3, em rQ ((l.take i).map f)⟩ :: g)⟩) ?_ 0 (Nat.zero_le _) _ ⟨_, _, _, _, _, _, [], rfl⟩
  rintro i s hi ⟨j4, j5, j9, j20, v, w, g, rfl⟩ rec
  have hlen : ((l.take i).map f).length = i := by simp; omega
  have ht : List.take i ((l.take i).map f) = (l.take i).map f := take_len_g _ hlen.symm
  by_cases h1 : i < l.length
  · have h1' := lt_c h1
    by_cases h2 : i < most
    · have h2' := lt_c h2
      have hi2 : i < min l.length most := by omega
      have hg0 := em_getN (f := eX) l i h1
      obtain ⟨f1, f2⟩ := hf _ (getD_mem h1)
      have k1 := s_r08_Of (q := f (l.getD i default)) (by omega)
      have hs : (l.take i).map f ++ [f (l.getD i default)] = (l.take (i + 1)).map f := by rw [take_succ_getD l i h1]; simp
      have hlim : i + 1 ≤ 2513169434916 := by omega
      have hlim2 : i < 2513169434916 := by omega
      have hw := i64_nat (n := i) (by omega)
      clear hf f1 hlen hi
      refine go3 ?_
      exact rec _ hi2 ⟨_, _, _, _, _, _, _, rfl⟩
    · have h2' : ¬ ((i : Int) < (most : Int)) := by omega
      have hi2 : i = most := by omega
      subst hi2
      clear hf rec hi h1
      refine go3 ?_
      exact ⟨_, rfl, _, _, _, rfl⟩
  · have h1' : ¬ ((i : Int) < (l.length : Int)) := by omega
    have hi2 : l.take most = l := List.take_of_length_le (by omega)
    have hi3 : l.take i = l := List.take_of_length_le (by omega)
    rw [hi3] at hlen
    have ht2 : List.take i (l.map f) = l.map f := take_len_g _ hlen.symm
    rw [hi2, hi3]
    clear hf rec hi h1 hi2 hi3
    refine go3 ?_
    exact ⟨_, rfl, _, _, _, rfl⟩
def RowAt (b : Nat) (g : Heap) (f : Rat → AV) (c : AV) (r : List Rat) (k : Nat) : Prop := ∃ v ys, c = .ref (b + k) v 3 0 r.length ∧ g[k]? = some (some ⟨v, 3, em f r ++ ys⟩)
def RowsIn (b : Nat) (g : Heap) (f : Rat → AV) (cs : List AV) (t : List (List Rat)) (ks : List Nat) : Prop :=
  cs.length = t.length ∧ ks.length = t.length ∧ ∀ i, i < t.length → RowAt b g f (cs.getD i default) (t.getD i default) (ks.getD i default)
theorem RowAt.lt {b : Nat} {g : Heap} {f : Rat → AV} {c : AV} {r : List Rat} {k : Nat} (h : RowAt b g f c r k) : k < g.length := by
  obtain ⟨v, ys, rfl, h⟩ := h
  exact (List.getElem?_eq_some_iff.1 h).1
theorem RowAt.grow {b : Nat} {g : Heap} {f : Rat → AV} {c : AV} {r : List Rat} {k : Nat} (h : RowAt b g f c r k) (g' : Heap) : RowAt b (g ++ g') f c r k := by
  obtain ⟨v, ys, h1, h2⟩ := h
  refine ⟨v, ys, h1, ?_⟩
  rw [List.getElem?_append_left (List.getElem?_eq_some_iff.1 h2).1]
  exact h2
theorem RowAt.set {b : Nat} {g : Heap} {f : Rat → AV} {c : AV} {r : List Rat} {k : Nat} (h : RowAt b g f c r k) {j : Nat} (hj : j ≠ k) (x : Option Blk) : RowAt b (g.set j x) f c r k := by
  obtain ⟨v, ys, h1, h2⟩ := h
  refine ⟨v, ys, h1, ?_⟩
  rw [List.getElem?_set_ne hj]
  exact h2
theorem getD_snoc_lt {α : Type} [Inhabited α] {l : List α} {x : α} {i : Nat} (h : i < l.length) : (l ++ [x]).getD i default = l.getD i default := by
  simp [List.getD, List.getElem?_append_left h]
theorem getD_snoc_eq {α : Type} [Inhabited α] {l : List α} {x : α} : (l ++ [x]).getD l.length default = x := by simp [List.getD]
theorem RowsIn.grow {b : Nat} {g : Heap} {f : Rat → AV} {cs : List AV} {t : List (List Rat)} {ks : List Nat} (h : RowsIn b g f cs t ks) (g' : Heap) : RowsIn b (g ++ g') f cs t ks :=
  ⟨h.1, h.2.1, fun i hi => (h.2.2 i hi).grow g'⟩
theorem RowsIn.snoc {b : Nat} {g : Heap} {f : Rat → AV} {cs : List AV} {t : List (List Rat)} {ks : List Nat} (h : RowsIn b g f cs t ks) {c : AV} {r : List Rat} {k : Nat} (h1 : RowAt b g f c r k) : RowsIn b g f (cs ++ [c]) (t ++ [r]) (ks ++ [k]) := by
  obtain ⟨a1, a2, a3⟩ := h
  refine ⟨by simp [a1], by simp [a2], fun i hi => ?_⟩
  by_cases hl : i < t.length
  · rw [getD_snoc_lt (by omega), getD_snoc_lt hl, getD_snoc_lt (by omega)]
    exact a3 i hl
  · have : i = t.length := by simp at hi; omega
    subst this
    rw [getD_snoc_eq]
    rw [← a1, getD_snoc_eq, a1, ← a2, getD_snoc_eq]
    exact h1
theorem RowsIn.lt {b : Nat} {g : Heap} {f : Rat → AV} {cs : List AV} {t : List (List Rat)} {ks : List Nat} (h : RowsIn b g f cs t ks) : ∀ k ∈ ks, k < g.length := fun k hk => by
  obtain ⟨i, hi, rfl⟩ := List.getElem_of_mem hk
  have := (h.2.2 i (by have := h.2.1; omega)).lt
  rw [List.getD_eq_getElem?_getD, List.getElem?_eq_getElem hi] at this
  exact this
abbrev eXL (l : List XQ) : AV := .lst (em eX l)
theorem s_Few12_raw {t : List (List XQ)} (hx : ∀ l ∈ t, ∀ x ∈ l, x.ok) {most : Nat} (hm : most ≤ 1000000) : ∃ qs : List (List Rat), qs.length = min t.length most ∧ (∀ r ∈ qs, r.length ≤ most ∧ ∀ q ∈ r, Lq q ≤ 1) ∧
    ∀ h, ∃ v w cs ds ks ls g, CL F 81 [.lst (em eXL t), eI most] h = some (.tup [.ref h.length v 1 0 qs.length, .ref (h.length + 1) w 1 0 qs.length], h ++ (some ⟨v, 1, cs⟩ :: some ⟨w, 1, ds⟩ :: g)) ∧
      RowsIn (h.length + 2) g eQ cs qs ks ∧ RowsIn (h.length + 2) g rQ ds qs ls ∧ (ks ++ ls).Nodup := by
  have hex : ∃ f : List XQ → List Rat, ∀ l ∈ t, (f l).length = min l.length most ∧ (∀ q ∈ f l, Lq q ≤ 1) ∧ ∀ h, ∃ v w g, CL F 16 [eXL l, eI most] h = some (.tup [.ref h.length v 3 0 (f l).length, .ref (h.length + 1) w 3 0 (f l).length], h ++ (some ⟨v, 3, em eQ (f l)⟩ :: some ⟨w, 3, em rQ (f l)⟩ :: g)) := by
    classical
    refine ⟨fun l => if h : l ∈ t then (s_Few_raw (hx l h) hm).choose else [], fun l h => ?_⟩
    simp only [h, dif_pos]
    exact (s_Few_raw (hx l h) hm).choose_spec
  obtain ⟨f, hf⟩ := hex
  refine ⟨(t.take most).map f, by simp; omega, fun r hr => ?_, fun h => ?_⟩
  · obtain ⟨l, hl, rfl⟩ := List.mem_map.1 hr
    obtain ⟨h1, h2, _⟩ := hf l (List.mem_of_mem_take hl)
    exact ⟨by omega, h2⟩
  suffices H : ∃ x, CL F 81 [.lst (em eXL t), eI most] h = some x ∧ ∃ v w cs ds ks ls g, x = (.tup [.ref h.length v 1 0 ((t.take most).map f).length, .ref (h.length + 1) w 1 0 ((t.take most).map f).length], h ++ (some ⟨v, 1, cs⟩ :: some ⟨w, 1, ds⟩ :: g)) ∧
      RowsIn (h.length + 2) g eQ cs ((t.take most).map f) ks ∧ RowsIn (h.length + 2) g rQ ds ((t.take most).map f) ls ∧ (ks ++ ls).Nodup by
    obtain ⟨x, h1, v, w, cs, ds, ks, ls, g, rfl, h2⟩ := H
    exact ⟨v, w, cs, ds, ks, ls, g, h1, h2⟩
  refine CL_XE (F := F) (f := 81) rfl rfl ?_
  clear hx
  refine go3 ?_
  refine X_upto (min t.length most) (fun i s => ∃ j4 j5 j9 j10 j21 v w cs ds ks ls g, RowsIn (h.length + 2) g eQ cs ((t.take i).map f) ks ∧ RowsIn (h.length + 2) g rQ ds ((t.take i).map f) ls ∧ (ks ++ ls).Nodup ∧
    s = ⟨[(0, .lst (em eXL t)), (1, eI most), (4, j4), (5, j5), (6, .ref h.length v 1 0 i), (7, .ref (h.length + 1) w 1 0 i), (8, eI i), (9, j9), (10, j10), (21, j21)], h ++ (some ⟨v, 1, cs⟩ :: some ⟨w, 1, ds⟩ :: g)⟩) ?_ 0 (Nat.zero_le _) _
    ⟨_, _, _, _, _, _, _, [], [], [], [], [], ⟨rfl, rfl, fun i hi => by simp at hi⟩, ⟨rfl, rfl, fun i hi => by simp at hi⟩, by simp, rfl⟩
  rintro i s hi ⟨j4, j5, j9, j10, j21, v, w, cs, ds, ks, ls, g, R1, R2, R3, rfl⟩ rec
  have hlen : ((t.take i).map f).length = i := by simp; omega
  have l1 : cs.length = i := by rw [R1.1, hlen]
  have l2 : ds.length = i := by rw [R2.1, hlen]
  have ht1 : List.take i cs = cs := take_len_g _ l1.symm
  have ht2 : List.take i ds = ds := take_len_g _ l2.symm
  have ht3 : sub cs 0 i = cs := by unfold sub; rw [List.drop_zero]; exact ht1
  have ht4 : sub ds 0 i = ds := by unfold sub; rw [List.drop_zero]; exact ht2
  by_cases h1 : i < t.length
  · have h1' := lt_c h1
    by_cases h2 : i < most
    · have h2' := lt_c h2
      have hi2 : i < min t.length most := by omega
      have hg0 := em_getN (f := eXL) t i h1
      obtain ⟨f1, f2, f3⟩ := hf _ (getD_mem h1)
      obtain ⟨v', w', g', f4⟩ := f3 (h ++ (some ⟨v, 1, cs⟩ :: some ⟨w, 1, ds⟩ :: g))
      have hs : (t.take i).map f ++ [f (t.getD i default)] = (t.take (i + 1)).map f := by rw [take_succ_getD t i h1]; simp
      have hlim : i + 1 ≤ 5864062014805 := by omega
      have hlim2 : i < 5864062014805 := by omega
      have hw := i64_nat (n := i) (by omega)
      generalize hr : f (t.getD i default) = r at *
      clear hf f1 f2 f3 hlen hi
      refine go3 ?_
      refine rec _ hi2 ⟨_, _, _, _, _, _, _, _, _, ks ++ [g.length], ls ++ [g.length + 1], _, ?_, ?_, ?_, rfl⟩
      · rw [← hs]
        refine (R1.grow _).snoc ?_
        refine ⟨v', [], by congr 1; omega, ?_⟩
        rw [get_app0, List.append_nil]
        rfl
      · rw [← hs]
        refine (R2.grow _).snoc ?_
        refine ⟨w', [], by congr 1; omega, ?_⟩
        rw [get_app, List.append_nil]
        rfl
      · have q1 := R1.lt
        have q2 := R2.lt
        rw [List.nodup_append] at R3 ⊢
        obtain ⟨n1, n2, n3⟩ := R3
        refine ⟨?_, ?_, ?_⟩
        · rw [List.nodup_append]
          exact ⟨n1, by simp, fun a ha b hb => by have := q1 a ha; simp at hb; omega⟩
        · rw [List.nodup_append]
          exact ⟨n2, by simp, fun a ha b hb => by have := q2 a ha; simp at hb; omega⟩
        · intro a ha b hb
          simp only [List.mem_append, List.mem_singleton] at ha hb
          rcases ha with ha | rfl
          · rcases hb with hb | rfl
            · exact n3 a ha b hb
            · have := q1 a ha; omega
          · rcases hb with hb | rfl
            · have := q2 b hb; omega
            · omega
    · have h2' : ¬ ((i : Int) < (most : Int)) := by omega
      have hi2 : i = most := by omega
      subst hi2
      clear hf rec hi h1
      refine go3 ?_
      exact ⟨_, rfl, _, _, _, _, _, _, _, rfl, R1, R2, R3⟩
  · have h1' : ¬ ((i : Int) < (t.length : Int)) := by omega
    have hi2 : t.take most = t := List.take_of_length_le (by omega)
    have hi3 : t.take i = t := List.take_of_length_le (by omega)
    rw [hi3] at hlen R1 R2
    rw [hi2]
    clear hf rec hi h1 hi2 hi3
    refine go3 ?_
    exact ⟨_, rfl, _, _, _, _, _, _, _, rfl, R1, R2, R3⟩
theorem mapM_some {α β : Type} {F : α → Option β} {G : α → β} : ∀ (l : List α), (∀ x ∈ l, F x = some (G x)) → l.mapM F = some (l.map G) := by
  intro l
  induction l with
  | nil => intro _; rfl
  | cons x l ih =>
    intro h
    rw [List.mapM_cons, h x (List.mem_cons_self ..), ih fun y hy => h y (List.mem_cons_of_mem _ hy)]
    rfl
theorem RowAt.frz {b : Nat} {g H : Heap} {f : Rat → AV} {c : AV} {r : List Rat} {k : Nat} (h : RowAt b g f c r k) (hf : ∀ x, plain1 (f x) = true) (hH : H[b + k]? = g[k]?) (n : Nat) : frz H (n + 3) c = some (.lst (em f r)) := by
  obtain ⟨v, ys, rfl, h2⟩ := h
  show (blk H (b + k) v).bind (fun b => ((sub b.xs 0 r.length).mapM (Go.AM.frz H (n + 2))).map AV.lst) = _
  have h3 : blk H (b + k) v = some ⟨v, 3, em f r ++ ys⟩ := by
    unfold blk
    rw [hH, h2]
    exact if_pos rfl
  rw [h3]
  have h4 : sub (em f r ++ ys) 0 r.length = em f r := by
    unfold sub
    rw [List.drop_zero, List.take_left' (by simp [em])]
  show ((sub (em f r ++ ys) 0 r.length).mapM (Go.AM.frz H (n + 2))).map AV.lst = _
  rw [h4, mapM_some (G := id) _ fun x hx => by
    obtain ⟨q, _, rfl⟩ := List.mem_map.1 hx
    exact (frz_plain1 (hf q)).1]
  simp
theorem RowsIn.frz {b : Nat} {g H : Heap} {f : Rat → AV} {cs : List AV} {t : List (List Rat)} {ks : List Nat} (h : RowsIn b g f cs t ks) (hf : ∀ x, plain1 (f x) = true) (hH : ∀ k, H[b + k]? = g[k]?) (n : Nat) : cs.mapM (frz H (n + 3)) = some (em (fun r => .lst (em f r)) t) := by
  obtain ⟨h1, h2, h3⟩ := h
  have key : ∀ (cs : List AV) (t : List (List Rat)), cs.length = t.length → (∀ i, i < t.length → Go.AM.frz H (n + 3) (cs.getD i default) = some (.lst (em f (t.getD i default)))) → cs.mapM (Go.AM.frz H (n + 3)) = some (em (fun r => .lst (em f r)) t) := by
    intro cs
    induction cs with
    | nil =>
      intro t ht _
      cases t with
      | nil => rfl
      | cons r t => simp at ht
    | cons c cs ih =>
      intro t ht hi
      cases t with
      | nil => simp at ht
      | cons r t =>
        have a0 := hi 0 (by simp)
        have a1 := ih t (by simpa using ht) fun i hi' => hi (i + 1) (by simp; omega)
        rw [List.mapM_cons]
        rw [show Go.AM.frz H (n + 3) c = some (.lst (em f r)) from a0, a1]
        rfl
  exact key cs t h1 fun i hi => (h3 i hi).frz hf (hH _) n
theorem fz_rows2 {h : Heap} {v w : Nat} {cs ds : List AV} {g : Heap} {t : List (List Rat)} {ks ls : List Nat} (R1 : RowsIn (h.length + 2) g eQ cs t ks) (R2 : RowsIn (h.length + 2) g rQ ds t ls) :
    fz (h ++ (some ⟨v, 1, cs⟩ :: some ⟨w, 1, ds⟩ :: g)) (.tup [.ref h.length v 1 0 t.length, .ref (h.length + 1) w 1 0 t.length]) = some (.tup [eT t, rT t]) := by
  have hH : ∀ k, (h ++ (some ⟨v, 1, cs⟩ :: some ⟨w, 1, ds⟩ :: g))[h.length + 2 + k]? = g[k]? := fun k => by
    rw [Nat.add_assoc, get_app, show 2 + k = k + 1 + 1 by omega]
    rfl
  have a1 := R1.frz (fun x => E_eQ.pl x) hH 2
  have a2 := R2.frz (fun x => E_rQ.pl x) hH 2
  have b1 : blk (h ++ (some ⟨v, 1, cs⟩ :: some ⟨w, 1, ds⟩ :: g)) h.length v = some ⟨v, 1, cs⟩ := by
    unfold blk
    rw [get_app0]
    exact if_pos rfl
  have b2 : blk (h ++ (some ⟨v, 1, cs⟩ :: some ⟨w, 1, ds⟩ :: g)) (h.length + 1) w = some ⟨w, 1, ds⟩ := by
    unfold blk
    rw [get_app]
    exact if_pos rfl
  generalize h ++ (some ⟨v, 1, cs⟩ :: some ⟨w, 1, ds⟩ :: g) = H at *
  have c1 : sub cs 0 t.length = cs := by unfold sub; rw [List.drop_zero]; exact List.take_of_length_le (by rw [R1.1]; omega)
  have c2 : sub ds 0 t.length = ds := by unfold sub; rw [List.drop_zero]; exact List.take_of_length_le (by rw [R2.1]; omega)
  have d1 : frz H 6 (.ref h.length v 1 0 t.length) = some (eT t) := by
    show (blk H h.length v).bind (fun b => ((sub b.xs 0 t.length).mapM (Go.AM.frz H 5)).map AV.lst) = _
    rw [b1]
    show ((sub cs 0 t.length).mapM (Go.AM.frz H 5)).map AV.lst = _
    rw [c1, a1]
    rfl
  have d2 : frz H 6 (.ref (h.length + 1) w 1 0 t.length) = some (rT t) := by
    show (blk H (h.length + 1) w).bind (fun b => ((sub b.xs 0 t.length).mapM (Go.AM.frz H 5)).map AV.lst) = _
    rw [b2]
    show ((sub ds 0 t.length).mapM (Go.AM.frz H 5)).map AV.lst = _
    rw [c2, a2]
    rfl
  show ([AV.ref h.length v 1 0 t.length, .ref (h.length + 1) w 1 0 t.length].mapM (Go.AM.frz H 6)).map AV.tup = _
  rw [List.mapM_cons, d1, List.mapM_cons, d2]
  rfl
end Go.S

end
section
set_option linter.unusedVariables false
set_option linter.unusedSimpArgs false
set_option maxRecDepth 100000
namespace Go.Proofs.Ytpmbcdakpmceiaa.R
open Go Go.AM Go.S Go.RowKit Go.K Go.Proofs
theorem rdT : Rd Try.prog 69 (fun l : List (List XQ) => [.lst (em eXL l)]) fun l => ∀ r ∈ l, ∀ x ∈ r, x.ok :=
  (rd_slice Try.underlying69 rdR eXL (fun _ => rfl) (s := 1) (by kernel_rfl) (fun _ => rfl) (by decide)).map id (fun _ => rfl) fun l h => h.1
end Go.Proofs.Ytpmbcdakpmceiaa.R

end
section
set_option linter.unusedVariables false
set_option linter.unusedSimpArgs false
set_option maxRecDepth 100000
namespace Go.S
open Go Go.AM Go.RowKit Go.K
theorem getD_inj' {α : Type} [Inhabited α] {l r : List α} {i : Nat} (hne : l.getD i default ≠ r.getD i default) : l ≠ r := fun e => hne (by rw [e])
theorem s_EqualRows {a b : List (List Rat)} {g : Nat} (ha : a.length ≤ 1000000) (hg : ∀ x ∈ a, ∀ y ∈ b, CP (CL F) g [eR x, eR y] = some (.bool (decide (x = y)))) :
    CP (CL F) 85 [eT a, eT b, .fn g [] []] = some (.bool (decide (a = b))) := by
  refine CP_X (F := F) (f := 85) rfl rfl ?_
  by_cases hl : a.length = b.length
  · have hl1 : ¬ ((a.length : Int) ≠ (b.length : Int)) := by omega
    have hl2 : (a.length : Int) = (b.length : Int) := by omega
    refine go3 ?_
    refine X_upto a.length (fun i s => ∃ j6 j7 j8 j9 j18 j30 g', (a.take i = b.take i) ∧ s = ⟨[(0, eT a), (1, eT b), (2, .fn g [] []), (6, j6), (7, j7), (8, j8), (9, j9), (14, .bool false), (15, eT a), (16, eI b.length), (17, eI i), (18, j18), (30, j30)], g'⟩) ?_ 0 (Nat.zero_le _) _ ⟨_, _, _, _, _, _, _, by simp, rfl⟩
    rintro i s hi ⟨j6, j7, j8, j9, j18, j30, g', heq, rfl⟩ rec
    by_cases hlt : i < a.length
    · have hlt1 : (i : Int) < (b.length : Int) := by omega
      have hlt2 : (i : Int) < (a.length : Int) := by omega
      have g1 := em_getN (f := eR) a i (by omega)
      have g2 := em_getN (f := eR) b i (by omega)
      have hc := hg _ (getD_mem (l := a) (i := i) (by omega)) _ (getD_mem (l := b) (i := i) (by omega))
      by_cases hx : a.getD i default = b.getD i default
      · have hx' : decide (a.getD i default = b.getD i default) = true := decide_eq_true hx
        rw [hx'] at hc
        have hnext : a.take (i + 1) = b.take (i + 1) := by rw [take_succ_getD a i hlt, take_succ_getD b i (by omega), heq, hx]
        have hw := i64_nat (n := i) (by omega)
        clear hx hx' heq hg
        refine go3 ?_
        exact rec _ hlt ⟨_, _, _, _, _, _, _, hnext, rfl⟩
      · have hx' : decide (a.getD i default = b.getD i default) = false := decide_eq_false hx
        rw [hx'] at hc
        have hne : decide (a = b) = false := by simpa using getD_inj' hx
        clear hx hx' heq hg rec
        refine go3 ?_
        trivial
    · have hl3 : ¬ ((i : Int) < (b.length : Int)) := by omega
      have he : decide (a = b) = true := by
        rw [List.take_of_length_le (by omega), List.take_of_length_le (by omega)] at heq
        simpa using heq
      clear heq hg rec
      refine go3 ?_
      trivial
  · have hl1 : (a.length : Int) ≠ (b.length : Int) := by omega
    have hl2 : ¬ (a.length : Int) = (b.length : Int) := by omega
    have he : decide (a = b) = false := by simpa using fun e => hl (by rw [e])
    clear hg
    refine go3 ?_
    trivial
theorem s_mSame {a b : List (List Rat)} (ha : a.length ≤ 1000000) (h0 : ∀ r ∈ a, r.length ≤ 1000000 ∧ ∀ q ∈ r, Lq q < 100000000) : CP (CL F) 39 [eT a, eT b] = some (.bool (decide (a = b))) := by
  refine CP_X (F := F) (f := 39) rfl rfl ?_
  have h := s_EqualRows (a := a) (b := b) (g := 26) ha fun x hx y hy => s_vect_Same (h0 x hx).1 (h0 x hx).2
  clear h0
  refine go3 ?_
  trivial
def unitR (n i : Nat) : List Rat := (List.replicate n 0).set i 1
def ident (n : Nat) : List (List Rat) := (List.range n).map (unitR n)
theorem s_Ident {n : Nat} (hn : n ≤ 200) : CP (CL F) 41 [eI n] = some (.tup [eT (ident n), eI 0]) := by
  refine CP_X (F := F) (f := 41) rfl rfl ?_
  have h0 : ¬ ((n : Int) < 0) := by omega
  have h1 : ¬ ((200 : Int) < (n : Int)) := by omega
  have h2 : n ≤ 11728124029610 := by omega
  refine go3 ?_
  refine X_up n (fun i s => ∃ j5 j11 j17 g, s = ⟨[(0, eI n), (2, .nil), (3, eI 0), (4, .ref 0 0 1 0 n), (5, j5), (11, j11), (15, eI n), (16, eI i), (17, j17)], some ⟨0, 1, em eR ((List.range i).map (unitR n)) ++ List.replicate (n - i) .nil⟩ :: g⟩) ?_ ?_ 0 (Nat.zero_le _) _ ⟨_, _, _, [], rfl⟩
  · rintro i s hi ⟨j5, j11, j17, g, rfl⟩ rec
    have hl := lt_c hi
    have hu := s_vect_Unit hn hi
    rw [show (List.replicate n (0 : Rat)).set i 1 = unitR n i from rfl] at hu
    obtain ⟨m, hm⟩ : ∃ m, n - i = m + 1 := ⟨n - i - 1, by omega⟩
    have hg := fill_get (f := eR) ((List.range i).map (unitR n)) m .nil
    have hs := fill_set (f := eR) ((List.range i).map (unitR n)) m .nil (unitR n i)
    rw [List.length_map, List.length_range] at hg hs
    rw [← hm, show m = n - (i + 1) by omega, show (List.range i).map (unitR n) ++ [unitR n i] = (List.range (i + 1)).map (unitR n) by rw [List.range_succ]; simp] at hs
    rw [← hm] at hg
    have hw := i64_nat (n := i) (by omega)
    clear hm h0 h1 h2
    refine go3 ?_
    exact rec _ ⟨_, _, _, _, rfl⟩
  · rintro s ⟨j5, j11, j17, g, rfl⟩
    have hl : ¬ ((n : Int) < (n : Int)) := nlt_c
    have he : List.replicate (n - n) AV.nil = [] := by simp
    have ht : List.take n ((List.range n).map (unitR n)) = ident n := take_len_g _ (by simp)
    refine go3 ?_
    trivial
end Go.S

end
section
set_option linter.unusedVariables false
namespace Go.S
open Go Go.AM Go.RowKit Go.K
def runsTrue2 (F : Nat → Option AFunc) (n f : Nat) : Bool := match callN F n f [] [] with
  | some (.bool b, _) => b
  | _ => false
theorem CP_run2 {F : Nat → Option AFunc} {f : Nat} (n : Nat) (h : runsTrue2 F n f = true) : CP (CL F) f [] = some (.bool true) := by
  unfold runsTrue2 at h
  split at h
  · next b g hb =>
    subst h
    exact CP_raw (CL_of n hb) rfl
  · cases h
end Go.S

end
section
set_option linter.unusedVariables false
set_option linter.unusedSimpArgs false
set_option maxRecDepth 100000
namespace Go.S
open Go Go.AM Go.RowKit Go.K
theorem s_works12 : CP (CL F) 36 [] = some (.bool true) := CP_run2 300 (by decide +kernel)
set_option maxHeartbeats 4000000
end Go.S

end
section
set_option linter.unusedVariables false
set_option linter.unusedSimpArgs false
set_option maxRecDepth 100000
namespace Go.S
open Go Go.AM Go.RowKit Go.K
def colR (t : List (List Rat)) (j : Nat) : List Rat := t.map fun r => r.getD j default
def turnR (t : List (List Rat)) : List (List Rat) := (List.range (wide t)).map (colR t)
theorem fz_tab {H : Heap} {b id v : Nat} {cs : List AV} {g : Heap} {t : List (List Rat)} {ks : List Nat} (R : RowsIn b g eQ cs t ks) (hH : ∀ k, H[b + k]? = g[k]?) (hb : H[id]? = some (some ⟨v, 1, cs⟩)) (m : Nat) : frz H (m + 5) (.ref id v 1 0 t.length) = some (eT t) := by
  have a1 := R.frz (fun x => E_eQ.pl x) hH (m + 1)
  have b1 : blk H id v = some ⟨v, 1, cs⟩ := by
    unfold blk
    rw [hb]
    exact if_pos rfl
  have c1 : sub cs 0 t.length = cs := by unfold sub; rw [List.drop_zero]; exact List.take_of_length_le (by rw [R.1]; omega)
  show (blk H id v).bind (fun b => ((sub b.xs 0 t.length).mapM (Go.AM.frz H (m + 4))).map AV.lst) = _
  rw [b1]
  show ((sub cs 0 t.length).mapM (Go.AM.frz H (m + 4))).map AV.lst = _
  rw [c1, a1]
  rfl
theorem fz_tabE {H : Heap} {b id v : Nat} {cs : List AV} {g : Heap} {t : List (List Rat)} {ks : List Nat} {e : Int} (R : RowsIn b g eQ cs t ks) (hH : ∀ k, H[b + k]? = g[k]?) (hb : H[id]? = some (some ⟨v, 1, cs⟩)) : fz H (.tup [.ref id v 1 0 t.length, .int .i64 e]) = some (.tup [eT t, .int .i64 e]) := by
  show ([AV.ref id v 1 0 t.length, .int .i64 e].mapM (Go.AM.frz H 6)).map AV.tup = _
  rw [List.mapM_cons, show Go.AM.frz H 6 (.ref id v 1 0 t.length) = some (eT t) from fz_tab R hH hb 1]
  rfl
theorem s_Turn {t : List (List Rat)} (hm : may t = true) : CP (CL F) 42 [eT t] = some (.tup [eT (turnR t), eI 0]) := by
  have m1 : t.length ≤ 200 := by simp [may] at hm; exact hm.1.1
  have m2 : wide t ≤ 200 := by simp [may] at hm; exact hm.1.2
  have m3 : ∀ r ∈ t, r.length = wide t := even_iff.1 (by simp [may] at hm; exact hm.2)
  let cs : Nat → List AV := fun j => (List.range j).map fun k => AV.ref (k + 1) 0 3 0 t.length
  let bs : Nat → Heap := fun j => (List.range j).map fun k => some (⟨0, 3, em eQ (colR t k)⟩ : Blk)
  have cl : ∀ j, (cs j).length = j := fun j => by simp [cs]
  have bl : ∀ j, (bs j).length = j := fun j => by simp [bs]
  have cs1 : ∀ j, cs (j + 1) = cs j ++ [AV.ref (j + 1) 0 3 0 t.length] := fun j => by simp [cs, List.range_succ]
  have bs1 : ∀ j, bs (j + 1) = bs j ++ [some ⟨0, 3, em eQ (colR t j)⟩] := fun j => by simp [bs, List.range_succ]
  suffices H : CL F 42 [eT t] [] = some (.tup [.ref 0 0 1 0 (wide t), eI 0], some ⟨0, 1, cs (wide t)⟩ :: bs (wide t)) by
    refine CP_raw H ?_
    have hR : RowsIn 1 (bs (wide t)) eQ (cs (wide t)) (turnR t) (List.range (wide t)) := by
      refine ⟨by simp [cl, turnR], by simp [turnR], fun i hi => ?_⟩
      have hi' : i < wide t := by simpa [turnR] using hi
      have e1 : (cs (wide t)).getD i default = AV.ref (i + 1) 0 3 0 t.length := by simp [cs, List.getD, hi']
      have e2 : (turnR t).getD i default = colR t i := by simp [turnR, List.getD, hi']
      have e3 : (List.range (wide t)).getD i default = i := by simp [List.getD, hi']
      rw [e1, e2, e3]
      refine ⟨0, [], by simp [colR]; omega, by simp [bs, hi']⟩
    have := fz_tabE (e := 0) (H := some ⟨0, 1, cs (wide t)⟩ :: bs (wide t)) (id := 0) (v := 0) hR (fun k => by rw [Nat.add_comm]; rfl) rfl
    rwa [show (turnR t).length = wide t by simp [turnR]] at this
  refine CL_X (F := F) (f := 42) rfl rfl ?_
  have h1 := s_Check (t := t) (by omega)
  rw [hm, if_pos rfl] at h1
  have h2 := s_Size t
  have h3 : wide t ≤ 11728124029610 := by omega
  have h4 : t.length ≤ 5026338869833 := by omega
  clear hm
  refine go3 ?_
  refine X_up (wide t) (fun j s => ∃ j8 j9 j25 j32 j33 j34, s = ⟨[(0, eT t), (2, .nil), (3, eI 0), (4, eI 0), (5, eI t.length), (6, eI (wide t)), (7, .ref 0 0 1 0 (wide t)), (8, j8), (9, j9), (13, .bool false), (23, eI (wide t)), (24, eI j), (25, j25), (32, j32), (33, j33), (34, j34)], some ⟨0, 1, cs j ++ List.replicate (wide t - j) .nil⟩ :: bs j⟩) ?_ ?_ 0 (Nat.zero_le _) _ ⟨_, _, _, _, _, _, rfl⟩
  · rintro j s hj ⟨j8, j9, j25, j32, j33, j34, rfl⟩ rec
    have hlt := lt_c hj
    obtain ⟨m, hm⟩ : ∃ m, wide t - j = m + 1 := ⟨wide t - j - 1, by omega⟩
    have a1 : (cs j ++ List.replicate (wide t - j) AV.nil)[j]? = some .nil := by rw [hm, List.getElem?_append_right (by rw [cl]; omega), cl]; simp
    have a2 : (cs j ++ List.replicate (wide t - j) AV.nil).set j (AV.ref (j + 1) 0 3 0 t.length) = cs (j + 1) ++ List.replicate (wide t - (j + 1)) .nil := by
      rw [hm, List.set_append_right _ _ (by rw [cl]; omega), cl, cs1, show wide t - (j + 1) = m by omega, Nat.sub_self]
      simp [List.replicate_succ]
    have a3 : (cs (j + 1) ++ List.replicate (wide t - (j + 1)) AV.nil)[j]? = some (AV.ref (j + 1) 0 3 0 t.length) := by
      rw [cs1, List.append_assoc, List.getElem?_append_right (by rw [cl]; omega), cl]; simp
    have a4 := bl j
    simp only [bs1 j] at rec
    have B1 : ∀ x, (bs j ++ [x])[j]? = some x := fun x => by rw [List.getElem?_append_right (by rw [bl]; omega), bl]; simp
    have B2 : ∀ x y, (bs j ++ [x]).set j y = bs j ++ [y] := fun x y => by rw [List.set_append_right _ _ (by rw [bl]; omega), bl]; simp
    have hw := i64_nat (n := j) (by omega)
    clear hm cs1 bs1 cl bl
    generalize cs j = c0 at *
    generalize cs (j + 1) = c1 at *
    refine go3 ?_
    refine X_up t.length (fun i s => ∃ j9 j34, s = ⟨[(0, eT t), (2, .nil), (3, eI 0), (4, eI 0), (5, eI t.length), (6, eI (wide t)), (7, .ref 0 0 1 0 (wide t)), (8, eI j), (9, j9), (13, .bool false), (23, eI (wide t)), (24, eI j), (25, .bool true), (32, eI t.length), (33, eI i), (34, j34)], some ⟨0, 1, c1 ++ List.replicate (wide t - (j + 1)) .nil⟩ :: (bs j ++ [some ⟨0, 3, em eQ (colR (t.take i) j) ++ List.replicate (t.length - i) zQ⟩])⟩) ?_ ?_ 0 (Nat.zero_le _) _ ⟨_, _, rfl⟩
    · rintro i s hi ⟨j9, j34, rfl⟩ rec2
      have hlt2 := lt_c hi
      have g1 := em_getN (f := eR) t i hi
      have hr := m3 _ (getD_mem hi)
      obtain ⟨m, hm'⟩ : ∃ m, t.length - i = m + 1 := ⟨t.length - i - 1, by omega⟩
      have hg := fill_get (f := eQ) (colR (t.take i) j) m zQ
      have hs := fill_set (f := eQ) (colR (t.take i) j) m zQ ((t.getD i default).getD j default)
      have hlen : (colR (t.take i) j).length = i := by simp [colR]; omega
      rw [hlen] at hg hs
      rw [← hm', show m = t.length - (i + 1) by omega, show colR (t.take i) j ++ [(t.getD i default).getD j default] = colR (t.take (i + 1)) j by rw [take_succ_getD t i hi]; simp [colR]] at hs
      rw [← hm'] at hg
      generalize t.getD i default = r at *
      have g2 := em_getN (f := eQ) r j (by omega)
      have hr1 : (j : Int) < (r.length : Int) := by omega
      have hw2 := i64_nat (n := i) (by omega)
      clear hm' hlen m3 h3 h4 rec hw
      refine go3 ?_
      exact rec2 _ ⟨_, _, rfl⟩
    · rintro s ⟨j9, j34, rfl⟩
      have hlt2 : ¬ ((t.length : Int) < (t.length : Int)) := nlt_c
      have he : List.replicate (t.length - t.length) zQ = [] := by simp
      clear m3 h3 h4
      refine go3 ?_
      exact rec _ ⟨_, _, _, _, _, _, rfl⟩
  · rintro s ⟨j8, j9, j25, j32, j33, j34, rfl⟩
    have hlt : ¬ ((wide t : Int) < (wide t : Int)) := nlt_c
    have he : List.replicate (wide t - wide t) AV.nil = [] := by simp
    clear cs1 bs1 cl bl m3
    refine go3 ?_
    trivial
def ownC (b : Nat) (c j : Nat) : List AV := (List.range j).map fun k => AV.ref (b + (k + 1)) 0 3 0 c
def ownB (t : List (List Rat)) (j : Nat) : Heap := (List.range j).map fun k => some (⟨0, 3, em eQ (t.getD k default)⟩ : Blk)
theorem ownC_len (b c j : Nat) : (ownC b c j).length = j := by simp [ownC]
theorem ownB_len (t : List (List Rat)) (j : Nat) : (ownB t j).length = j := by simp [ownB]
theorem ownC_succ (b c j : Nat) : ownC b c (j + 1) = ownC b c j ++ [AV.ref (b + (j + 1)) 0 3 0 c] := by simp [ownC, List.range_succ]
theorem ownB_succ (t : List (List Rat)) (j : Nat) : ownB t (j + 1) = ownB t j ++ [some ⟨0, 3, em eQ (t.getD j default)⟩] := by simp [ownB, List.range_succ]
theorem s_own_raw {t : List (List Rat)} {c : Nat} (hl : t.length ≤ 1000000) (hc : 0 < c) (hc2 : c ≤ 1000000) (ht : ∀ r ∈ t, r.length = c) (h : Heap) :
    CL F 84 [eT t] h = some (.ref h.length 0 1 0 t.length, h ++ (some ⟨0, 1, ownC h.length c t.length⟩ :: ownB t t.length)) := by
  refine CL_X (F := F) (f := 84) rfl rfl ?_
  have h2 : t.length ≤ 11728124029610 := by omega
  refine go3 ?_
  refine X_up t.length (fun i s => ∃ j4 j5 j12, s = ⟨[(0, eT t), (2, .nil), (3, .ref h.length 0 1 0 t.length), (4, j4), (5, j5), (9, eT t), (10, eI t.length), (11, eI i), (12, j12)], h ++ (some ⟨0, 1, ownC h.length c i ++ List.replicate (t.length - i) .nil⟩ :: ownB t i)⟩) ?_ ?_ 0 (Nat.zero_le _) _ ⟨_, _, _, rfl⟩
  · rintro i s hi ⟨j4, j5, j12, rfl⟩ rec
    have hlt := lt_c hi
    have g1 := em_getN (f := eR) t i hi
    have hr := ht _ (getD_mem hi)
    have k1 := fun h => s_clone' (l := t.getD i default) (by omega) h (fun e => by rw [e] at hr; simp at hr; omega)
    simp only [ownC_succ, ownB_succ] at rec
    have hb := ownB_len t i
    obtain ⟨m, hm⟩ : ∃ m, t.length - i = m + 1 := ⟨t.length - i - 1, by omega⟩
    have a1 : (ownC h.length c i ++ List.replicate (t.length - i) AV.nil)[i]? = some .nil := by rw [hm, List.getElem?_append_right (by rw [ownC_len]; omega), ownC_len]; simp
    have a2 : (ownC h.length c i ++ List.replicate (t.length - i) AV.nil).set i (AV.ref (h.length + (i + 1)) 0 3 0 c) = ownC h.length c i ++ [AV.ref (h.length + (i + 1)) 0 3 0 c] ++ List.replicate (t.length - (i + 1)) .nil := by
      rw [hm, List.set_append_right _ _ (by rw [ownC_len]; omega), ownC_len, show t.length - (i + 1) = m by omega, Nat.sub_self]
      simp [List.replicate_succ]
    generalize t.getD i default = r at *
    have hw := i64_nat (n := i) (by omega)
    clear hm ht hc hc2
    refine go3 ?_
    exact rec _ ⟨eI i, eR r, .bool true, by simp⟩
  · rintro s ⟨j4, j5, j12, rfl⟩
    have hlt : ¬ ((t.length : Int) < (t.length : Int)) := nlt_c
    have he : List.replicate (t.length - t.length) AV.nil = [] := by simp
    clear ht
    refine go3 ?_
    trivial
theorem s_own_raw0 {t : List (List Rat)} (hl : t.length ≤ 1000000) (ht : ∀ r ∈ t, r = []) (h : Heap) :
    CL F 84 [eT t] h = some (.ref h.length 0 1 0 t.length, h ++ [some ⟨0, 1, List.replicate t.length .zero⟩]) := by
  refine CL_X (F := F) (f := 84) rfl rfl ?_
  have h2 : t.length ≤ 11728124029610 := by omega
  have k1 := fun h => s_clone_nil h
  have e0 : em eQ [] = [] := rfl
  refine go3 ?_
  refine X_up t.length (fun i s => ∃ j4 j5 j12, s = ⟨[(0, eT t), (2, .nil), (3, .ref h.length 0 1 0 t.length), (4, j4), (5, j5), (9, eT t), (10, eI t.length), (11, eI i), (12, j12)], h ++ [some ⟨0, 1, List.replicate i .zero ++ List.replicate (t.length - i) .nil⟩]⟩) ?_ ?_ 0 (Nat.zero_le _) _ ⟨_, _, _, rfl⟩
  · rintro i s hi ⟨j4, j5, j12, rfl⟩ rec
    have hlt := lt_c hi
    have g1 := em_getN (f := eR) t i hi
    rw [ht _ (getD_mem hi)] at g1
    obtain ⟨m, hm⟩ : ∃ m, t.length - i = m + 1 := ⟨t.length - i - 1, by omega⟩
    have a1 : (List.replicate i AV.zero ++ List.replicate (t.length - i) AV.nil)[i]? = some .nil := by rw [hm, List.getElem?_append_right (by simp)]; simp
    have a2 : (List.replicate i AV.zero ++ List.replicate (t.length - i) AV.nil).set i AV.zero = List.replicate (i + 1) AV.zero ++ List.replicate (t.length - (i + 1)) .nil := by
      rw [hm, List.set_append_right _ _ (by simp), show t.length - (i + 1) = m by omega, List.length_replicate, Nat.sub_self]
      rw [List.replicate_succ (n := m), List.set_cons_zero, List.replicate_succ' (n := i), List.append_assoc]
      rfl
    have hw := i64_nat (n := i) (by omega)
    clear hm ht
    refine go3 ?_
    exact rec _ ⟨_, _, _, rfl⟩
  · rintro s ⟨j4, j5, j12, rfl⟩
    have hlt : ¬ ((t.length : Int) < (t.length : Int)) := nlt_c
    have he : List.replicate (t.length - t.length) AV.nil = [] := by simp
    clear ht
    refine go3 ?_
    trivial
theorem own_rows {t : List (List Rat)} {c b : Nat} (ht : ∀ r ∈ t, r.length = c) : RowsIn (b + 1) (ownB t t.length) eQ (ownC b c t.length) t (List.range t.length) := by
  refine ⟨ownC_len _ _ _, by simp, fun i hi => ?_⟩
  have e1 : (ownC b c t.length).getD i default = AV.ref (b + (i + 1)) 0 3 0 c := by simp [ownC, List.getD, hi]
  have e3 : (List.range t.length).getD i default = i := by simp [List.getD, hi]
  rw [e1, e3]
  refine ⟨0, [], by rw [ht _ (getD_mem hi)]; congr 1; omega, by simp [ownB, hi]⟩
theorem s_own {t : List (List Rat)} {c : Nat} (hl : t.length ≤ 1000000) (hc2 : c ≤ 1000000) (ht : ∀ r ∈ t, r.length = c) : CP (CL F) 84 [eT t] = some (eT t) := by
  rcases Nat.eq_zero_or_pos c with rfl | hc
  · have h0 : ∀ r ∈ t, r = [] := fun r hr => List.eq_nil_of_length_eq_zero (ht r hr)
    refine CP_raw (s_own_raw0 hl h0 []) ?_
    have e : em eR t = List.replicate t.length (AV.lst []) := by
      refine List.eq_replicate_iff.2 ⟨em_len _, fun x hx => ?_⟩
      obtain ⟨r, hr, rfl⟩ := List.mem_map.1 hx
      rw [h0 r hr]; rfl
    show (((sub (List.replicate t.length AV.zero) 0 t.length).mapM (Go.AM.frz _ 6)).map AV.lst) = _
    have c1 : sub (List.replicate t.length AV.zero) 0 t.length = List.replicate t.length AV.zero := by unfold sub; rw [List.drop_zero]; exact List.take_of_length_le (by simp)
    rw [c1, mapM_some (G := fun _ => AV.lst []) _ fun x hx => by rw [List.eq_of_mem_replicate hx]; rfl]
    show some (AV.lst _) = some (AV.lst (em eR t))
    rw [e]
    simp
  · refine CP_raw (s_own_raw hl hc hc2 ht []) ?_
    exact fz_tab (H := some ⟨0, 1, ownC 0 c t.length⟩ :: ownB t t.length) (id := 0) (v := 0) (g := ownB t t.length) (own_rows (b := 0) ht) (fun k => by rw [Nat.add_comm]; rfl) rfl 2
end Go.S

end
section
set_option linter.unusedVariables false
set_option linter.unusedSimpArgs false
set_option maxRecDepth 100000
namespace Go.S
open Go Go.AM Go.RowKit Go.K
def upd {α : Type} (n : Nat) (f g : Nat → α) (i : Nat) : List α := (List.range n).map fun k => if k < i then g k else f k
section
variable {α : Type} {n : Nat} {f g : Nat → α}
end
theorem may_spec {t : List (List Rat)} : may t = true ↔ t.length ≤ 200 ∧ wide t ≤ 200 ∧ ∀ r ∈ t, r.length = wide t := by
  unfold may
  simp only [Bool.and_eq_true, decide_eq_true_eq, even_iff, and_assoc]
end Go.S

end
section
set_option linter.unusedVariables false
set_option linter.unusedSimpArgs false
namespace Go.S
abbrev Mt := Nat → Nat → Rat
def sm : Nat → (Nat → Rat) → Rat
  | 0, _ => 0
  | n + 1, f => sm n f + f n
theorem sm_congr {n : Nat} {f g : Nat → Rat} (h : ∀ i, i < n → f i = g i) : sm n f = sm n g := by
  induction n with
  | zero => rfl
  | succ n ih => simp only [sm]; rw [ih fun i hi => h i (by omega), h n (by omega)]
theorem sm_zero (n : Nat) : sm n (fun _ => 0) = 0 := by
  induction n with
  | zero => rfl
  | succ n ih => simp only [sm]; rw [ih]; grind
theorem sm_zero' {n : Nat} {f : Nat → Rat} (h : ∀ i, i < n → f i = 0) : sm n f = 0 := (sm_congr h).trans (sm_zero n)
theorem sm_add (n : Nat) (f g : Nat → Rat) : sm n (fun i => f i + g i) = sm n f + sm n g := by
  induction n with
  | zero => simp only [sm]; grind
  | succ n ih => simp only [sm]; rw [ih]; grind
theorem sm_mul (n : Nat) (k : Rat) (f : Nat → Rat) : sm n (fun i => k * f i) = k * sm n f := by
  induction n with
  | zero => simp only [sm]; grind
  | succ n ih => simp only [sm]; rw [ih]; grind
theorem sm_one {n j : Nat} {f : Nat → Rat} (hj : j < n) (h : ∀ i, i < n → i ≠ j → f i = 0) : sm n f = f j := by
  induction n with
  | zero => omega
  | succ n ih =>
    simp only [sm]
    by_cases e : j = n
    · subst e
      rw [sm_zero' fun i hi => h i (by omega) (by omega)]; grind
    · rw [ih (by omega) fun i hi hne => h i (by omega) hne, h n (by omega) (by omega)]; grind
theorem sm_swap (n m : Nat) (F : Nat → Nat → Rat) : sm n (fun i => sm m (F i)) = sm m (fun j => sm n fun i => F i j) := by
  induction n with
  | zero => simp only [sm]; exact (sm_zero m).symm
  | succ n ih => simp only [sm]; rw [ih, ← sm_add]
def setr (A : Mt) (r : Nat) (f : Nat → Rat) : Mt := fun i c => if i = r then f c else A i c
def sw (A : Mt) (r : Nat) : Mt := fun i => A (if i = r then r + 1 else if i = r + 1 then r else i)
def swp (A : Mt) (r s : Nat) : Mt := fun i => A (if i = r then s else if i = s then r else i)
structure LinR (φ : (Nat → Rat) → Nat → Rat) : Prop where
  add : ∀ f g k c, φ (fun x => f x + k * g x) c = φ f c + k * φ g c
theorem LinR.zero {φ : (Nat → Rat) → Nat → Rat} (L : LinR φ) (c : Nat) : φ (fun _ => 0) c = 0 := by
  have h := L.add (fun _ => 0) (fun _ => 0) 1 c
  rw [show (fun x : Nat => (0 : Rat) + 1 * 0) = fun _ => 0 from by funext x; grind] at h
  grind
theorem LinR.mul {φ : (Nat → Rat) → Nat → Rat} (L : LinR φ) (f : Nat → Rat) (k : Rat) (c : Nat) : φ (fun x => k * f x) c = k * φ f c := by
  have h := L.add (fun _ => 0) f k c
  rw [show (fun x : Nat => (0 : Rat) + k * f x) = fun x => k * f x from by funext x; grind, L.zero] at h
  grind
end Go.S

end
section
set_option linter.unusedVariables false
set_option linter.unusedSimpArgs false
namespace Go.S
theorem setr_row (B : Mt) (r : Nat) (g : Nat → Rat) (i : Nat) : setr B r g i = if i = r then g else B i := by
  funext c; unfold setr; split <;> rfl
inductive Rop (n : Nat) : Mt → Mt → Rat → Prop
  | refl (A : Mt) : Rop n A A 1
  | scale {A B : Mt} {f : Rat} (r : Nat) (k : Rat) (hr : r < n) (hk : k ≠ 0) : Rop n A B f → Rop n A (setr B r fun x => k * B r x) (f * k⁻¹)
  | more {A B : Mt} {f : Rat} (r s : Nat) (k : Rat) (hr : r < n) (hs : s < n) (h : r ≠ s) : Rop n A B f → Rop n A (setr B r fun x => B r x + k * B s x) f
  | swap {A B : Mt} {f : Rat} (r s : Nat) (hr : r < n) (hs : s < n) (h : r ≠ s) : Rop n A B f → Rop n A (swp B r s) (-f)
structure Sub (P : (Nat → Rat) → Prop) : Prop where
  more : ∀ f g k, P f → P g → P fun x => f x + k * g x
  scale : ∀ f k, P f → P fun x => k * f x
theorem Rop.sub {n : Nat} {A B : Mt} {f : Rat} (H : Rop n A B f) {P : (Nat → Rat) → Prop} (S : Sub P) : (∀ i, i < n → P (A i)) ↔ (∀ i, i < n → P (B i)) := by
  induction H with
  | refl => exact Iff.rfl
  | scale r k hr hk _ ih =>
    rename_i B f _
    rw [ih]
    constructor
    · intro h i hi
      rw [setr_row]
      split
      · exact S.scale _ _ (h r hr)
      · exact h i hi
    · intro h i hi
      have h1 := h i hi
      rw [setr_row] at h1
      by_cases e : i = r
      · rw [if_pos e] at h1
        have h2 := S.scale _ k⁻¹ h1
        have : k⁻¹ * k = 1 := by rw [Rat.inv_mul_cancel _ hk]
        rw [show (fun x => k⁻¹ * (k * B r x)) = B i from by funext x; rw [e]; grind] at h2
        exact h2
      · rw [if_neg e] at h1; exact h1
  | more r s k hr hs h _ ih =>
    rename_i B f _
    rw [ih]
    constructor
    · intro h i hi
      rw [setr_row]
      split
      · exact S.more _ _ _ (h r hr) (h s hs)
      · exact h i hi
    · intro h' i hi
      have h1 := h' i hi
      rw [setr_row] at h1
      by_cases e : i = r
      · rw [if_pos e] at h1
        have h3 := h' s hs
        rw [setr_row, if_neg (Ne.symm h)] at h3
        have h2 := S.more _ _ (-k) h1 h3
        rw [show (fun x => (B r x + k * B s x) + -k * B s x) = B i from by funext x; rw [e]; grind] at h2
        exact h2
      · rw [if_neg e] at h1; exact h1
  | swap r s hr hs h _ ih =>
    rename_i B f _
    rw [ih]
    constructor
    · intro h i hi
      unfold swp
      split
      · exact h s hs
      · split
        · exact h r hr
        · exact h i hi
    · intro h' i hi
      by_cases e : i = r
      · subst e; have := h' s hs; unfold swp at this; rwa [if_neg (Ne.symm h), if_pos rfl] at this
      · by_cases e2 : i = s
        · subst e2; have := h' r hr; unfold swp at this; rwa [if_pos rfl] at this
        · have := h' i hi; unfold swp at this; rwa [if_neg e, if_neg e2] at this
def fndF (A : Mt) (j : Nat) : Nat → Nat → Nat
  | 0, a => a
  | d + 1, a => if A a j = 0 then fndF A j d (a + 1) else a
def fnd (n : Nat) (A : Mt) (j a : Nat) : Nat := fndF A j (n - a) a
theorem fndF_spec (A : Mt) (j : Nat) : ∀ d a, a ≤ fndF A j d a ∧ fndF A j d a ≤ a + d ∧ (∀ i, a ≤ i → i < fndF A j d a → A i j = 0) ∧ (fndF A j d a < a + d → A (fndF A j d a) j ≠ 0) := by
  intro d
  induction d with
  | zero => intro a; exact ⟨Nat.le_refl _, Nat.le_refl _, fun i h1 h2 => by simp only [fndF] at h2; omega, fun h => by simp only [fndF] at h; omega⟩
  | succ d ih =>
    intro a
    simp only [fndF]
    by_cases h : A a j = 0
    · rw [if_pos h]
      obtain ⟨h1, h2, h3, h4⟩ := ih (a + 1)
      refine ⟨by omega, by omega, fun i hi hi2 => ?_, fun hlt => h4 (by omega)⟩
      by_cases e : i = a
      · rw [e]; exact h
      · exact h3 i (by omega) hi2
    · rw [if_neg h]
      exact ⟨Nat.le_refl _, by omega, fun i h1 h2 => by omega, fun _ => h⟩
theorem fnd_spec {n : Nat} {A : Mt} {j a : Nat} (h : a ≤ n) : a ≤ fnd n A j a ∧ fnd n A j a ≤ n ∧ (∀ i, a ≤ i → i < fnd n A j a → A i j = 0) ∧ (fnd n A j a < n → A (fnd n A j a) j ≠ 0) := by
  obtain ⟨h1, h2, h3, h4⟩ := fndF_spec A j (n - a) a
  exact ⟨h1, by unfold fnd; omega, h3, fun hlt => h4 (by unfold fnd at hlt; omega)⟩
def elimTo (A : Mt) (a j i : Nat) : Mt := fun r x => if r < i ∧ r ≠ a then A r x - A r j * A a x else A r x
theorem elimTo_zero (A : Mt) (a j : Nat) : elimTo A a j 0 = A := by funext r x; simp [elimTo]
theorem elimTo_self (A : Mt) (a j : Nat) : elimTo A a j (a + 1) = elimTo A a j a := by
  funext r x
  unfold elimTo
  by_cases h : r < a
  · rw [if_pos (show r < a + 1 ∧ r ≠ a by omega), if_pos (show r < a ∧ r ≠ a by omega)]
  · rw [if_neg (show ¬ (r < a ∧ r ≠ a) by omega), if_neg (by omega)]
theorem elimTo_succ (A : Mt) {a j i : Nat} (h : i ≠ a) : elimTo A a j (i + 1) = setr (elimTo A a j i) i fun x => elimTo A a j i i x + -(A i j) * elimTo A a j i a x := by
  funext r x
  unfold setr
  by_cases e : r = i
  · subst e
    rw [if_pos rfl]
    unfold elimTo
    rw [if_pos (show r < r + 1 ∧ r ≠ a by omega)]
    show _ = (if r < r ∧ r ≠ a then _ else _) + -A r j * (if a < r ∧ a ≠ a then _ else _)
    rw [if_neg (by omega), if_neg (by omega)]
    grind
  · rw [if_neg e]
    unfold elimTo
    by_cases h1 : r < i ∧ r ≠ a
    · rw [if_pos h1, if_pos ⟨by omega, h1.2⟩]
    · rw [if_neg h1, if_neg (by omega)]
theorem elimTo_at (A : Mt) (a j i : Nat) : elimTo A a j i a = A a := by funext x; unfold elimTo; rw [if_neg (by omega)]
theorem Rop.elim {n : Nat} {A B : Mt} {f : Rat} (H : Rop n A B f) {a j : Nat} (ha : a < n) : ∀ i, i ≤ n → Rop n A (elimTo B a j i) f := by
  intro i
  induction i with
  | zero => intro _; rw [elimTo_zero]; exact H
  | succ i ih =>
    intro hi
    by_cases e : i = a
    · subst e; rw [elimTo_self]; exact ih (by omega)
    · rw [elimTo_succ _ e]
      exact .more i a _ (by omega) ha e (ih (by omega))
theorem swp_self (A : Mt) (a : Nat) : swp A a a = A := by
  funext i; unfold swp; congr 1; split
  · next h => exact h.symm
  · rfl
def pivR (A : Mt) (a k j : Nat) : Mt := setr (swp A a k) a fun x => (A k j)⁻¹ * A k x
def gstep (n j : Nat) (s : Mt × List Nat × Rat) : Mt × List Nat × Rat :=
  if fnd n s.1 j s.2.1.length = n then s else
    (elimTo (pivR s.1 s.2.1.length (fnd n s.1 j s.2.1.length) j) s.2.1.length j n, s.2.1 ++ [j], (if s.2.1.length = fnd n s.1 j s.2.1.length then s.2.2 else -s.2.2) * s.1 (fnd n s.1 j s.2.1.length) j)
theorem Rop.gstep {n j : Nat} {A : Mt} {s : Mt × List Nat × Rat} (H : Rop n A s.1 s.2.2) (h : s.2.1.length ≤ n) : Rop n A (Go.S.gstep n j s).1 (Go.S.gstep n j s).2.2 := by
  unfold Go.S.gstep
  obtain ⟨g1, g2, g3, g4⟩ := fnd_spec (n := n) (A := s.1) (j := j) (a := s.2.1.length) h
  generalize fnd n s.1 j s.2.1.length = k at *
  split
  · exact H
  · next hk =>
    have hk2 : k < n := by omega
    have hp := g4 hk2
    generalize s.2.1.length = a at *
    refine Rop.elim ?_ (by omega) n (Nat.le_refl _)
    have h1 : Rop n A (swp s.1 a k) (if a = k then s.2.2 else -s.2.2) := by
      by_cases e : a = k
      · subst e; rw [swp_self, if_pos rfl]; exact H
      · rw [if_neg e]; exact .swap a k (by omega) hk2 e H
    have h2 := Rop.scale a (s.1 k j)⁻¹ (by omega) (by
      intro e
      have := Rat.mul_inv_cancel _ hp
      rw [e] at this
      grind) h1
    rw [Rat.inv_inv] at h2
    have e : swp s.1 a k a = s.1 k := by unfold swp; rw [if_pos rfl]
    rw [e] at h2
    exact h2
structure RR (n j : Nat) (A : Mt) (piv : List Nat) : Prop where
  le : piv.length ≤ n
  lt : ∀ i, i < piv.length → piv.getD i default < j
  one : ∀ i, i < piv.length → A i (piv.getD i default) = 1
  col : ∀ i, i < piv.length → ∀ r, r < n → r ≠ i → A r (piv.getD i default) = 0
  ahead : ∀ i, i < piv.length → ∀ x, x < piv.getD i default → A i x = 0
  rest : ∀ r, piv.length ≤ r → r < n → ∀ x, x < j → A r x = 0
  mono : ∀ i i', i < i' → i' < piv.length → piv.getD i default < piv.getD i' default
theorem RR.nil (n : Nat) (A : Mt) : RR n 0 A [] := ⟨Nat.zero_le _, fun i h => by simp at h, fun i h => by simp at h, fun i h => by simp at h, fun i h => by simp at h, fun r _ _ x h => by omega, fun i i' _ h => by simp at h⟩
theorem snoc_lt {l : List Nat} {x i : Nat} (h : i < l.length) : (l ++ [x]).getD i default = l.getD i default := by simp [List.getD, List.getElem?_append_left h]
theorem snoc_at {l : List Nat} {x : Nat} : (l ++ [x]).getD l.length default = x := by simp [List.getD]
theorem RR.step {n j : Nat} {A : Mt} {piv : List Nat} {d : Rat} (H : RR n j A piv) : RR n (j + 1) (gstep n j (A, piv, d)).1 (gstep n j (A, piv, d)).2.1 := by
  unfold gstep
  obtain ⟨g1, g2, g3, g4⟩ := fnd_spec (n := n) (A := A) (j := j) (a := piv.length) H.le
  simp only
  generalize fnd n A j piv.length = k at *
  split
  · next hk =>
    subst hk
    refine ⟨H.le, fun i hi => Nat.lt_succ_of_lt (H.lt i hi), H.one, H.col, H.ahead, fun r h1 h2 x hx => ?_, H.mono⟩
    by_cases e : x = j
    · rw [e]; exact g3 r h1 h2
    · exact H.rest r h1 h2 x (by omega)
  · next hk =>
    have hk2 : k < n := by omega
    have hp := g4 hk2
    simp only
    have hpi : (A k j)⁻¹ * A k j = 1 := Rat.inv_mul_cancel _ hp
    have z0 : ∀ x, x < j → A k x = 0 := fun x hx => H.rest k g1 hk2 x hx
    have va : ∀ x, elimTo (pivR A piv.length k j) piv.length j n piv.length x = (A k j)⁻¹ * A k x := fun x => by
      rw [elimTo_at]; simp [pivR, setr]
    have vr : ∀ r, r < n → r ≠ piv.length → ∀ x, elimTo (pivR A piv.length k j) piv.length j n r x = swp A piv.length k r x - swp A piv.length k r j * ((A k j)⁻¹ * A k x) := fun r hr hne x => by
      unfold elimTo
      rw [if_pos ⟨hr, hne⟩]
      simp [pivR, setr, hne]
    generalize elimTo (pivR A piv.length k j) piv.length j n = D at *
    have sr : ∀ r, r < n → r ≠ piv.length → ∃ r', r' < n ∧ swp A piv.length k r = A r' ∧ (r < piv.length → r' = r) ∧ (piv.length ≤ r → piv.length ≤ r') ∧ ∀ i, i < piv.length → r ≠ i → r' ≠ i := fun r hr hne => by
      unfold swp
      rw [if_neg hne]
      by_cases e : r = k
      · rw [if_pos e]; exact ⟨piv.length, by omega, rfl, fun h => by omega, fun _ => Nat.le_refl _, fun i hi _ => by omega⟩
      · rw [if_neg e]; exact ⟨r, hr, rfl, fun _ => rfl, fun h => h, fun i _ h => h⟩
    have low : ∀ r, r < n → r ≠ piv.length → ∀ x, x < j → D r x = swp A piv.length k r x := fun r hr hne x hx => by
      rw [vr r hr hne x, z0 x hx]; grind
    have lowa : ∀ x, x < j → D piv.length x = 0 := fun x hx => by rw [va, z0 x hx]; grind
    refine ⟨by simp; omega, ?_, ?_, ?_, ?_, ?_, ?_⟩
    · intro i hi
      by_cases e : i < piv.length
      · rw [snoc_lt e]; have := H.lt i e; omega
      · have : i = piv.length := by simp at hi; omega
        subst this; rw [snoc_at]; omega
    · intro i hi
      by_cases e : i < piv.length
      · rw [snoc_lt e, low i (by have := H.le; omega) (by omega) _ (H.lt i e)]
        obtain ⟨r', _, h2, h3, _, _⟩ := sr i (by have := H.le; omega) (by omega)
        rw [h2, h3 e]; exact H.one i e
      · have : i = piv.length := by simp at hi; omega
        subst this; rw [snoc_at, va, hpi]
    · intro i hi r hr hne
      by_cases e : i < piv.length
      · rw [snoc_lt e]
        by_cases e2 : r = piv.length
        · rw [e2]; exact lowa _ (H.lt i e)
        · rw [low r hr e2 _ (H.lt i e)]
          obtain ⟨r', h1, h2, _, _, h5⟩ := sr r hr e2
          rw [h2]; exact H.col i e r' h1 (h5 i e hne)
      · have : i = piv.length := by simp at hi; omega
        subst this; rw [snoc_at, vr r hr hne, hpi]; grind
    · intro i hi x hx
      by_cases e : i < piv.length
      · rw [snoc_lt e] at hx
        have := H.lt i e
        rw [low i (by have := H.le; omega) (by omega) x (by omega)]
        obtain ⟨r', _, h2, h3, _, _⟩ := sr i (by have := H.le; omega) (by omega)
        rw [h2, h3 e]; exact H.ahead i e x hx
      · have : i = piv.length := by simp at hi; omega
        subst this; rw [snoc_at] at hx; exact lowa x hx
    · intro r h1 h2 x hx
      simp at h1
      by_cases e : x = j
      · rw [e, vr r h2 (by omega), hpi]; grind
      · rw [low r h2 (by omega) x (by omega)]
        obtain ⟨r', q1, q2, _, q4, _⟩ := sr r h2 (by omega)
        rw [q2]; exact H.rest r' (q4 (by omega)) q1 x (by omega)
    · intro i i' h1 h2
      simp at h2
      by_cases e : i' < piv.length
      · rw [snoc_lt e, snoc_lt (by omega)]; exact H.mono i i' h1 e
      · have : i' = piv.length := by omega
        subst this; rw [snoc_at, snoc_lt h1]; exact H.lt i h1
end Go.S

end
section
set_option linter.unusedVariables false
set_option linter.unusedSimpArgs false
namespace Go.S
def rowf (c : Nat) (f : Nat → Rat) : List Rat := (List.range c).map f
def tab (n c : Nat) (A : Mt) : List (List Rat) := (List.range n).map fun i => rowf c (A i)
def ent (t : List (List Rat)) : Mt := fun i j => (t.getD i default).getD j default
theorem rowf_len (c : Nat) (f : Nat → Rat) : (rowf c f).length = c := by simp [rowf]
theorem rowf_get {c : Nat} {f : Nat → Rat} {j : Nat} (h : j < c) : (rowf c f).getD j default = f j := by simp [rowf, List.getD, h]
theorem rowf_congr {c : Nat} {f g : Nat → Rat} (h : ∀ j, j < c → f j = g j) : rowf c f = rowf c g := List.map_congr_left fun j hj => h j (by simpa using hj)
theorem rowf_of (r : List Rat) : rowf r.length (fun j => r.getD j default) = r := by
  refine List.ext_getElem (by simp [rowf]) fun i h1 h2 => ?_
  simp [rowf, List.getD, List.getElem?_eq_getElem h2]
theorem mem_rowf {c : Nat} {f : Nat → Rat} {q : Rat} : q ∈ rowf c f ↔ ∃ j, j < c ∧ f j = q := by simp [rowf]
theorem rowf_map {c : Nat} {f : Nat → Rat} (k : Rat → Rat) : (rowf c f).map k = rowf c fun j => k (f j) := by simp [rowf]
theorem rowf_zip {c : Nat} {f g : Nat → Rat} (k : Rat → Rat → Rat) : List.zipWith k (rowf c f) (rowf c g) = rowf c fun j => k (f j) (g j) := by
  refine List.ext_getElem (by simp [rowf]) fun i h1 h2 => ?_
  simp [rowf]
theorem tab_len (n c : Nat) (A : Mt) : (tab n c A).length = n := by simp [tab]
theorem tab_get {n c : Nat} {A : Mt} {i : Nat} (h : i < n) : (tab n c A).getD i default = rowf c (A i) := by simp [tab, List.getD, h]
theorem mem_tab {n c : Nat} {A : Mt} {r : List Rat} : r ∈ tab n c A ↔ ∃ i, i < n ∧ rowf c (A i) = r := by simp [tab]
theorem tab_row {n c : Nat} {A : Mt} : ∀ r ∈ tab n c A, r.length = c := fun r h => by obtain ⟨i, _, rfl⟩ := mem_tab.1 h; exact rowf_len _ _
theorem tab_congr {n c : Nat} {A B : Mt} (h : ∀ i, i < n → ∀ j, j < c → A i j = B i j) : tab n c A = tab n c B := List.map_congr_left fun i hi => rowf_congr (h i (by simpa using hi))
theorem tab_of {t : List (List Rat)} {c : Nat} (h : ∀ r ∈ t, r.length = c) : tab t.length c (ent t) = t := by
  refine List.ext_getElem (by simp [tab]) fun i h1 h2 => ?_
  have e := rowf_of t[i]
  rw [h _ (List.getElem_mem h2)] at e
  rw [← e]
  simp only [tab, List.getElem_map, List.getElem_range]
  refine rowf_congr fun j _ => ?_
  simp [ent, List.getD, List.getElem?_eq_getElem h2]
theorem mem_tab2 {n c : Nat} {A : Mt} {r : List Rat} (h : r ∈ tab n c A) {q : Rat} (hq : q ∈ r) : ∃ i, i < n ∧ ∃ j, j < c ∧ A i j = q := by
  obtain ⟨i, hi, rfl⟩ := mem_tab.1 h
  obtain ⟨j, hj, e⟩ := mem_rowf.1 hq
  exact ⟨i, hi, j, hj, e⟩
def mm (m : Nat) (A B : Mt) : Mt := fun i j => sm m fun k => A i k * B k j
theorem mm_assoc (m k : Nat) (A B C : Mt) : mm k (mm m A B) C = mm m A (mm k B C) := by
  funext i j
  show sm k (fun x => sm m (fun y => A i y * B y x) * C x j) = sm m fun y => A i y * sm k fun x => B y x * C x j
  rw [sm_congr (g := fun x => sm m fun y => A i y * B y x * C x j) fun x _ => by
    rw [sm_congr (n := m) (f := fun y => A i y * B y x * C x j) (g := fun y => C x j * (A i y * B y x)) fun y _ => by grind, sm_mul]; grind]
  rw [sm_swap]
  refine sm_congr fun y _ => ?_
  rw [← sm_mul]
  exact sm_congr fun x _ => by grind
def idm : Mt := fun i j => if i = j then 1 else 0
theorem mm_one_l {m : Nat} {A : Mt} {i : Nat} (h : i < m) (j : Nat) : mm m idm A i j = A i j := by
  unfold mm idm
  rw [sm_one h fun k hk hne => by rw [if_neg (Ne.symm hne)]; grind, if_pos rfl]; grind
theorem mm_one_r {m : Nat} {A : Mt} {j : Nat} (i : Nat) (h : j < m) : mm m A idm i j = A i j := by
  unfold mm idm
  rw [sm_one h fun k hk hne => by rw [if_neg hne]; grind, if_pos rfl]; grind
def trn (A : Mt) : Mt := fun i j => A j i
theorem mm_trn (m : Nat) (A B : Mt) : mm m (trn B) (trn A) = trn (mm m A B) := by
  funext i j
  exact sm_congr fun k _ => by unfold trn; grind
end Go.S

end
section
set_option linter.unusedVariables false
set_option linter.unusedSimpArgs false
set_option maxRecDepth 100000
namespace Go.S
open Go Go.AM Go.RowKit Go.K
def partsTo (r : List Rat) (b : List (List Rat)) : Nat → List (List Rat)
  | 0 => []
  | k + 1 => partsTo r b k ++ if r.getD k default = 0 then [] else [(b.getD k default).map (· * r.getD k default)]
def rowMul (r : List Rat) (b : List (List Rat)) (c : Nat) : List Rat := rowf c fun j => sm r.length fun k => r.getD k default * (b.getD k default).getD j default
def mulR (a b : List (List Rat)) : List (List Rat) := a.map fun r => rowMul r b (wide b)
theorem partsTo_len (r : List Rat) (b : List (List Rat)) : ∀ k, (partsTo r b k).length ≤ k := by
  intro k
  induction k with
  | zero => exact Nat.le_refl _
  | succ k ih =>
    show (partsTo r b k ++ _).length ≤ _
    rw [List.length_append]
    split
    · simp; omega
    · simp; omega
theorem partsTo_mem {r : List Rat} {b : List (List Rat)} {s : List Rat} : ∀ {k}, s ∈ partsTo r b k → ∃ i, i < k ∧ s = (b.getD i default).map (· * r.getD i default) := by
  intro k
  induction k with
  | zero => intro h; cases h
  | succ k ih =>
    intro h
    rcases List.mem_append.1 h with h | h
    · obtain ⟨i, hi, e⟩ := ih h
      exact ⟨i, by omega, e⟩
    · split at h
      · cases h
      · exact ⟨k, by omega, by simpa using h⟩
theorem rowf_addR (c : Nat) (f g : Nat → Rat) : addR (rowf c f) (rowf c g) = rowf c fun j => f j + g j := rowf_zip _
theorem sum_parts {r : List Rat} {b : List (List Rat)} {c : Nat} (hb : ∀ s ∈ b, s.length = c) : ∀ k, k ≤ r.length → k ≤ b.length → sumR (List.replicate c 0) (partsTo r b k) = rowf c fun j => sm k fun i => r.getD i default * (b.getD i default).getD j default := by
  intro k
  induction k with
  | zero =>
    intro _ _
    refine List.ext_getElem (by simp [sumR, partsTo, rowf]) fun i h1 h2 => ?_
    simp [sumR, partsTo, rowf, sm]
  | succ k ih =>
    intro h1 h2
    have e : (b.getD k default) = rowf c fun j => (b.getD k default).getD j default := by
      have := rowf_of (b.getD k default)
      rw [hb _ (getD_mem (by omega))] at this
      exact this.symm
    show sumR _ (partsTo r b k ++ _) = rowf c fun j => sm k _ + r.getD k default * (b.getD k default).getD j default
    split
    · next h =>
      rw [List.append_nil, ih (by omega) (by omega), h]
      exact rowf_congr fun j _ => by grind
    · rw [sumR_snoc, ih (by omega) (by omega)]
      rw [show (b.getD k default).map (· * r.getD k default) = rowf c fun j => (b.getD k default).getD j default * r.getD k default from by
        rw [← rowf_map (f := fun j => (b.getD k default).getD j default) (· * r.getD k default), ← e]]
      rw [rowf_addR]
      exact rowf_congr fun j _ => by grind
theorem s_times {a b : List (List Rat)} (ha : a.length ≤ 1000) (hb : b.length ≤ 1000) (hw : wide a = b.length) (hc : wide b ≤ 200) (ea : ∀ r ∈ a, r.length = wide a) (eb : ∀ r ∈ b, r.length = wide b) {M : Nat} (hM : M ≤ 1000) (la : ∀ r ∈ a, ∀ q ∈ r, Lq q ≤ M) (lb : ∀ r ∈ b, ∀ q ∈ r, Lq q ≤ M) :
    CP (CL F) 83 [eT a, eT b] = some (.tup [eT (mulR a b), eI 0]) := by
  refine CP_X (F := F) (f := 83) rfl rfl ?_
  have h1 := s_Size a
  have h2 := s_Size b
  rw [hw] at h1
  have h3 : a.length ≤ 11728124029610 := by omega
  have z := s_vect_Zero (n := wide b) hc
  generalize hW : wide b = c at *
  refine go3 ?_
  refine X_up a.length (fun i s => ∃ j11 j12 j13 j14 j16 j17 j37 j53 j54 j55 j56 j62 g, s = ⟨[(0, eT a), (1, eT b), (4, .nil), (5, eI 0), (6, eI b.length), (7, eI c), (9, eI b.length), (10, .ref 0 0 1 0 a.length), (11, j11), (12, j12), (13, j13), (14, j14), (16, j16), (17, j17), (30, .bool false), (34, eT a), (35, eI a.length), (36, eI i), (37, j37), (53, j53), (54, j54), (55, j55), (56, j56), (62, j62)], some ⟨0, 1, em eR ((a.take i).map fun r => rowMul r b c) ++ List.replicate (a.length - i) .nil⟩ :: g⟩) ?_ ?_ 0 (Nat.zero_le _) _ ⟨_, _, _, _, _, _, _, _, _, _, _, _, [], rfl⟩
  · rintro i s hi ⟨j11, j12, j13, j14, j16, j17, j37, j53, j54, j55, j56, j62, g, rfl⟩ rec
    have hlt := lt_c hi
    have g1 := em_getN (f := eR) a i hi
    have hr := ea _ (getD_mem hi)
    have lr := la _ (getD_mem hi)
    obtain ⟨m, hm⟩ : ∃ m, a.length - i = m + 1 := ⟨a.length - i - 1, by omega⟩
    have hg := fill_get (f := eR) ((a.take i).map fun r => rowMul r b c) m .nil
    have hs := fill_set (f := eR) ((a.take i).map fun r => rowMul r b c) m .nil (rowMul (a.getD i default) b c)
    have hlen : ((a.take i).map fun r => rowMul r b c).length = i := by simp; omega
    rw [hlen] at hg hs
    rw [← hm, show m = a.length - (i + 1) by omega, show ((a.take i).map fun r => rowMul r b c) ++ [rowMul (a.getD i default) b c] = (a.take (i + 1)).map fun r => rowMul r b c by rw [take_succ_getD a i hi]; simp] at hs
    rw [← hm] at hg
    generalize a.getD i default = r at *
    have hrb : r.length = b.length := by rw [hr, hw]
    have hcap : ¬ ((b.length : Int) + 1 < 0) := by omega
    have hsum := sum_parts (r := r) (b := b) (c := c) eb r.length (Nat.le_refl _) (by omega)
    rw [show (rowf c fun j => sm r.length fun i => r.getD i default * (b.getD i default).getD j default) = rowMul r b c from rfl] at hsum
    have hpl := partsTo_len r b r.length
    have hadd := s_vect_Add (r0 := List.replicate c 0) (rs := partsTo r b r.length) (M := 2 * M + 1) (by simp; omega) (by omega) (fun s hs => by
      obtain ⟨i, hi, rfl⟩ := partsTo_mem hs
      rw [List.length_map, List.length_replicate, eb _ (getD_mem (by omega))]) (fun q hq => by
      rw [List.eq_of_mem_replicate hq]
      have := Lq_zero
      omega) (fun s hs q hq => by
      obtain ⟨i, hi, rfl⟩ := partsTo_mem hs
      obtain ⟨x, hx, rfl⟩ := List.mem_map.1 hq
      have h1 := lb _ (getD_mem (l := b) (i := i) (by omega)) x hx
      have h2 := lr _ (getD_mem (l := r) (i := i) (by omega))
      have := Lq_mul x (r.getD i default)
      omega) (by
      have : (partsTo r b r.length).length + 1 ≤ 1001 := by omega
      have h2 : 2 * M + 1 + 1 ≤ 2002 := by omega
      calc _ ≤ 1001 * 2002 := Nat.mul_le_mul this h2
        _ < _ := by decide)
    rw [hsum] at hadd
    have z1 : [eR (List.replicate c 0)] = em eR [List.replicate c 0] := rfl
    have z2 : (em eR [List.replicate c 0]).all okCell = true := rfl
    have w2 : b.length + 1 ≤ 11728124029610 := by omega
    have w3 : (0 : Int) ≤ ((b.length + 1 : Nat) : Int) := by omega
    have hlim : (partsTo r b r.length).length + 1 ≤ 5864062014805 := by omega
    have w0 : b.length < 9223372036854775807 := by omega
    have w1 : wrap64 ((b.length : Int) + 1) = ((b.length + 1 : Nat) : Int) := i64_nat w0
    clear hm hlen ea la hpl
    refine go3 ?_
    refine X_up b.length (fun k s => ∃ j16 j17 j56 j62 v ps g', ps = partsTo r b k ∧ s = ⟨[(0, eT a), (1, eT b), (4, .nil), (5, eI 0), (6, eI b.length), (7, eI c), (9, eI b.length), (10, .ref 0 0 1 0 a.length), (11, eI i), (12, eR r), (13, .ref (g.length + 1) v 1 0 (ps.length + 1)), (14, eR (List.replicate c 0)), (16, j16), (17, j17), (30, .bool false), (34, eT a), (35, eI a.length), (36, eI i), (37, .bool true), (53, eR r), (54, eI b.length), (55, eI k), (56, j56), (62, j62)], some ⟨0, 1, em eR ((a.take i).map fun r => rowMul r b c) ++ List.replicate (a.length - i) .nil⟩ :: (g ++ (some ⟨v, 1, em eR (List.replicate c 0 :: ps)⟩ :: g'))⟩) ?_ ?_ 0 (Nat.zero_le _) _ ⟨_, _, _, _, 1, [], _, rfl, rfl⟩
    · rintro k s hk ⟨j16, j17, j56, j62, v, ps, g', hps, rfl⟩ rec2
      clear w1
      have hlt2 := lt_c hk
      have q1 := em_getN (f := eQ) r k (by omega)
      have q2 := em_getN (f := eR) b k hk
      have q3 := s_rat_Sign (r.getD k default)
      have lx := lr _ (getD_mem (l := r) (i := k) (by omega))
      have ly := lb _ (getD_mem hk)
      have eb' := eb _ (getD_mem hk)
      have q4 := s_vect_Scale (l := b.getD k default) (c := r.getD k default) (by omega) (M := M) (by omega) ly (by omega)
      have pl : ps.length ≤ k := by rw [hps]; exact partsTo_len r b k
      have hlim2 : ps.length + 1 < 5864062014805 := by omega
      have hw2 := i64_nat (n := k) (by omega)
      clear hadd hsum hlim w2 w3 hcap hg hs
      by_cases hx : r.getD k default = 0
      · have q5 : sgn (r.getD k default).num = 0 := (sgn_num_zero _).2 hx
        have hp : partsTo r b (k + 1) = ps := by
          show partsTo r b k ++ _ = ps
          rw [if_pos hx, List.append_nil, hps]
        generalize r.getD k default = x at *
        generalize b.getD k default = bk at *
        rw [q5] at q3
        clear eb lb lr hx hps
        refine go3 ?_
        exact rec2 _ ⟨_, _, _, _, _, ps, _, hp.symm, rfl⟩
      · have q5 : ¬ (sgn (r.getD k default).num = 0) := fun h => hx ((sgn_num_zero _).1 h)
        have hp : partsTo r b (k + 1) = ps ++ [(b.getD k default).map (· * r.getD k default)] := by
          show partsTo r b k ++ _ = _
          rw [if_neg hx, hps]
        generalize r.getD k default = x at *
        generalize b.getD k default = bk at *
        clear eb lb lr hx hps
        refine go3 ?_
        rw [show ps.length + 1 = (ps ++ [bk.map (· * x)]).length by simp]
        exact rec2 _ ⟨_, _, _, _, _, ps ++ [bk.map (· * x)], _, hp.symm, rfl⟩
    · rintro s ⟨j16, j17, j56, j62, v, ps, g', hps, rfl⟩
      clear w1
      have hlt2 : ¬ ((b.length : Int) < (b.length : Int)) := nlt_c
      rw [hrb, ← hps] at hadd
      have hw := i64_nat (n := i) (by omega)
      clear eb lb lr hps hsum hlim w2 w3 hcap
      refine go3 ?_
      exact rec _ ⟨_, _, _, _, _, _, _, _, _, _, _, _, _, rfl⟩
  · rintro s ⟨j11, j12, j13, j14, j16, j17, j37, j53, j54, j55, j56, j62, g, rfl⟩
    have hlt : ¬ ((a.length : Int) < (a.length : Int)) := nlt_c
    have he : List.replicate (a.length - a.length) AV.nil = [] := by simp
    have ht : List.take a.length (a.map fun r => rowMul r b c) = mulR a b := by unfold mulR; rw [hW]; exact take_len_g _ (by simp)
    clear ea eb la lb
    refine go3 ?_
    trivial
theorem s_times_bad {a b : List (List Rat)} (h : wide a ≠ b.length) : CP (CL F) 83 [eT a, eT b] = some (.tup [.lst [], eI 8]) := by
  refine CP_X (F := F) (f := 83) rfl rfl ?_
  have h1 := s_Size a
  have h2 := s_Size b
  have h3 : ((wide a : Int) ≠ (b.length : Int)) := by omega
  have h4 : ¬ ((wide a : Int) = (b.length : Int)) := by omega
  clear h
  refine go3 ?_
  trivial
theorem mulR_len (a b : List (List Rat)) : (mulR a b).length = a.length := by simp [mulR]
theorem mulR_row {a b : List (List Rat)} : ∀ r ∈ mulR a b, r.length = wide b := fun r hr => by
  obtain ⟨s, _, rfl⟩ := List.mem_map.1 hr
  exact rowf_len _ _
theorem s_Mul_shape {a b : List (List Rat)} (ha : may a = true) (hb : may b = true) (h : wide a ≠ b.length) : CP (CL F) 38 [.lst (em eT [a, b])] = some (.tup [.lst [], eI 8]) := by
  refine CP_X (F := F) (f := 38) rfl rfl ?_
  have a1 := (may_spec.1 ha).1
  have b1 := (may_spec.1 hb).1
  have hk := s_checks (l := [a, b]) (by simp) fun t ht => by simp at ht; rcases ht with rfl | rfl <;> omega
  rw [show [a, b].all may = true by simp [ha, hb]] at hk
  have hl : (em eT [a, b]).length = 2 := rfl
  have g0 : (em eT [a, b])[0]? = some (eT a) := rfl
  have hdr : List.drop 1 (em eT [a, b]) = [eT b] := rfl
  have hok : okS 1 (em eT [a, b]) = true := rfl
  have hn : nth [b] (0 : Int) = b := rfl
  have t1 := s_times_bad h
  clear h ha hb
  refine go3 ?_
  refine X_round ?_
  refine go3 ?_
  trivial
theorem s_Mul2 {a b : List (List Rat)} (ha : may a = true) (hb : may b = true) (h : wide a = b.length) {M : Nat} (hM : M ≤ 1000) (la : ∀ r ∈ a, ∀ q ∈ r, Lq q ≤ M) (lb : ∀ r ∈ b, ∀ q ∈ r, Lq q ≤ M) : CP (CL F) 38 [.lst (em eT [a, b])] = some (.tup [eT (mulR a b), eI 0]) := by
  refine CP_X (F := F) (f := 38) rfl rfl ?_
  obtain ⟨a1, a2, a3⟩ := may_spec.1 ha
  obtain ⟨b1, b2, b3⟩ := may_spec.1 hb
  have hk := s_checks (l := [a, b]) (by simp) fun t ht => by simp at ht; rcases ht with rfl | rfl <;> omega
  rw [show [a, b].all may = true by simp [ha, hb]] at hk
  have hl : (em eT [a, b]).length = 2 := rfl
  have g0 : (em eT [a, b])[0]? = some (eT a) := rfl
  have hdr : List.drop 1 (em eT [a, b]) = [eT b] := rfl
  have hok : okS 1 (em eT [a, b]) = true := rfl
  have hn : nth [b] (0 : Int) = b := rfl
  have t1 := s_times (by omega) (by omega) h b2 a3 b3 hM la lb
  have o1 := s_own (t := mulR a b) (c := wide b) (by rw [mulR_len]; omega) (by omega) mulR_row
  have hw : wrap64 (0 + 1) = 1 := by rw [show (0 : Int) + 1 = 1 from rfl, w64 (by omega) (by omega)]
  clear h ha hb la lb a1 a2 a3 b1 b2 b3
  refine go3 ?_
  refine X_round ?_
  refine go3 ?_
  refine X_round ?_
  refine go3 ?_
  trivial
end Go.S

end
section
set_option linter.unusedVariables false
set_option linter.unusedSimpArgs false
set_option maxRecDepth 100000
namespace Go.S
open Go Go.AM Go.RowKit Go.K
theorem dotTo_sm (a b : List Rat) : ∀ k, dotTo a b k = sm k fun i => a.getD i default * b.getD i default := by
  intro k
  induction k with
  | zero => rfl
  | succ k ih => show dotTo a b k + _ = _ ; rw [ih]; rfl
theorem colR_getD {t : List (List Rat)} {j k : Nat} (h : k < t.length) : (colR t j).getD k default = (t.getD k default).getD j default := by
  simp [colR, List.getD, List.getElem?_eq_getElem h]
theorem dot_col {r : List Rat} {b : List (List Rat)} {c j : Nat} (h : r.length = b.length) (hj : j < c) : dot r (colR b j) = (rowMul r b c).getD j default := by
  unfold rowMul
  rw [rowf_get hj]
  unfold dot
  rw [dotTo_sm]
  exact sm_congr fun k hk => by rw [colR_getD (by omega)]
theorem mulR_size {a b : List (List Rat)} {M : Nat} (ea : ∀ r ∈ a, r.length = b.length) (eb : ∀ r ∈ b, r.length = wide b) (la : ∀ r ∈ a, ∀ q ∈ r, Lq q ≤ M) (lb : ∀ r ∈ b, ∀ q ∈ r, Lq q ≤ M) : ∀ r ∈ mulR a b, ∀ q ∈ r, Lq q ≤ 1 + b.length * (2 * M + 1) := by
  intro r hr q hq
  obtain ⟨s, hs, rfl⟩ := List.mem_map.1 hr
  obtain ⟨j, hj, rfl⟩ := mem_rowf.1 hq
  have e := dot_col (r := s) (b := b) (c := wide b) (j := j) (ea s hs) hj
  unfold rowMul at e
  rw [rowf_get hj] at e
  rw [← e]
  have h := dotTo_size (a := s) (b := colR b j) (M := M) (la s hs) (fun q hq => by
    obtain ⟨x, hx, rfl⟩ := List.mem_map.1 hq
    exact lb x hx _ (getD_mem (by rw [eb x hx]; exact hj))) s.length (Nat.le_refl _) (by simp [colR, ea s hs])
  rw [ea s hs] at h
  unfold dot
  rw [ea s hs]
  exact h
end Go.S

end
section
set_option linter.unusedVariables false
set_option linter.unusedSimpArgs false
set_option maxRecDepth 100000
namespace Go.S
open Go Go.AM Go.RowKit Go.K
theorem RowsIn.same {b : Nat} {g g' : Heap} {f : Rat → AV} {cs : List AV} {t : List (List Rat)} {ks : List Nat} (h : RowsIn b g f cs t ks) (h2 : ∀ k ∈ ks, g'[k]? = g[k]?) : RowsIn b g' f cs t ks := by
  refine ⟨h.1, h.2.1, fun i hi => ?_⟩
  obtain ⟨v, ys, h3, h4⟩ := h.2.2 i hi
  refine ⟨v, ys, h3, ?_⟩
  rw [h2 _ (getD_mem (by rw [h.2.1]; exact hi))]
  exact h4
theorem getD_set_self {α : Type} [Inhabited α] {l : List α} {i : Nat} {x : α} (h : i < l.length) : (l.set i x).getD i default = x := by simp [List.getD, h]
theorem getD_set_other {α : Type} [Inhabited α] {l : List α} {i j : Nat} {x : α} (h : i ≠ j) : (l.set i x).getD j default = l.getD j default := by simp [List.getD, List.getElem?_set_ne h]
theorem nodup_getD {l : List Nat} (h : l.Nodup) {i j : Nat} (hi : i < l.length) (hj : j < l.length) (hne : i ≠ j) : l.getD i default ≠ l.getD j default := by
  intro e
  simp only [List.getD, List.getElem?_eq_getElem hi, List.getElem?_eq_getElem hj, Option.getD_some] at e
  rcases Nat.lt_or_ge i j with h1 | h1
  · exact List.pairwise_iff_getElem.1 h i j hi hj h1 e
  · exact List.pairwise_iff_getElem.1 h j i hj hi (by omega) e.symm
theorem RowsIn.upd {b : Nat} {g g' : Heap} {f : Rat → AV} {cs : List AV} {t : List (List Rat)} {ks : List Nat} (h : RowsIn b g f cs t ks) (hN : ks.Nodup) {i : Nat} (hi : i < t.length) {c : AV} {r : List Rat} (h1 : RowAt b g' f c r (ks.getD i default)) (h2 : ∀ k ∈ ks, k ≠ ks.getD i default → g'[k]? = g[k]?) : RowsIn b g' f (cs.set i c) (t.set i r) ks := by
  have l1 := h.1
  have l2 := h.2.1
  refine ⟨by rw [List.length_set, List.length_set]; exact l1, by rw [List.length_set]; exact l2, fun j hj => ?_⟩
  rw [List.length_set] at hj
  by_cases e : i = j
  · subst e
    rw [getD_set_self (by omega), getD_set_self hi]
    exact h1
  · rw [getD_set_other e, getD_set_other e]
    obtain ⟨v, ys, h3, h4⟩ := h.2.2 j hj
    refine ⟨v, ys, h3, ?_⟩
    rw [h2 _ (getD_mem (by omega)) (nodup_getD hN (by omega) (by omega) (Ne.symm e))]
    exact h4
def EvenS (n c most : Nat) (ks ls : List Nat) (p : List (List Rat)) (cs ds : List AV) (g : Heap) : Prop :=
  RowsIn 2 g eQ cs p ks ∧ RowsIn 2 g rQ ds p ls ∧ p.length = n ∧ (0 < n → (p.getD 0 default).length = c) ∧ ∀ r ∈ p, r.length ≤ most ∧ ∀ q ∈ r, Lq q ≤ 1
theorem Lq_small {z : Int} (h : ab z < 4294967296) : Lq (z : Rat) ≤ 1 := by
  have := Lq_int z
  have := L_small h
  omega
set_option maxHeartbeats 4000000
theorem s_Even {t : List (List XQ)} (hx : ∀ l ∈ t, ∀ x ∈ l, x.ok) {most : Nat} (hm : most ≤ 1000000) : ∃ p : List (List Rat), p.length ≤ most ∧ (∀ r ∈ p, r.length = wide p ∧ r.length ≤ most ∧ ∀ q ∈ r, Lq q ≤ 1) ∧ CP (CL F) 37 [.lst (em eXL t), eI most] = some (.tup [eT p, rT p]) := by
  obtain ⟨p0, f1, f2, f3⟩ := s_Few12_raw hx hm
  obtain ⟨v, w, cs0, ds0, ks, ls, g0, f4, R1, R2, hN⟩ := f3 []
  have f5 : CL F 81 [.lst (em eXL t), eI most] [] = some (.tup [.ref 0 v 1 0 p0.length, .ref 1 w 1 0 p0.length], some ⟨v, 1, cs0⟩ :: some ⟨w, 1, ds0⟩ :: g0) := f4
  have hN1 : ks.Nodup := (List.nodup_append.1 hN).1
  have hN2 : ls.Nodup := (List.nodup_append.1 hN).2.1
  have hN3 : ∀ a ∈ ks, ∀ b ∈ ls, a ≠ b := (List.nodup_append.1 hN).2.2
  have hpl : p0.length ≤ most := by omega
  suffices H : ∃ x, CL F 37 [.lst (em eXL t), eI most] [] = some x ∧ ∃ p cs ds g, x = (.tup [.ref 0 v 1 0 p0.length, .ref 1 w 1 0 p0.length], some ⟨v, 1, cs⟩ :: some ⟨w, 1, ds⟩ :: g) ∧ EvenS p0.length (p0.getD 0 default).length most ks ls p cs ds g ∧ ∀ j, j < p0.length → (p.getD j default).length = (p0.getD 0 default).length by
    obtain ⟨x, h1, p, cs, ds, g, rfl, ⟨S1, S2, S3, S4, S5⟩, S6⟩ := H
    refine ⟨p, by omega, fun r hr => ⟨?_, S5 r hr⟩, CP_raw h1 ?_⟩
    · obtain ⟨j, hj, rfl⟩ := List.getElem_of_mem hr
      have e1 := S6 j (by omega)
      rw [List.getD, List.getElem?_eq_getElem hj] at e1
      have e2 := S4 (by omega)
      unfold wide
      exact e1.trans e2.symm
    · have := fz_rows2 (h := []) (v := v) (w := w) S1 S2
      rw [S3] at this
      exact this
  refine CL_XE (F := F) (f := 37) rfl rfl ?_
  have st0 : EvenS p0.length (p0.getD 0 default).length most ks ls p0 cs0 ds0 g0 := ⟨R1, R2, rfl, fun _ => rfl, f2⟩
  clear f3 f4 hN f2 R1 R2 hx f1
  refine go3 ?_
  clear f5
  generalize (p0.getD 0 default).length = c at *
  generalize p0.length = n at *
  refine X_up n (fun i s => ∃ j18 j30 p cs ds g, (EvenS n c most ks ls p cs ds g ∧ ∀ j, j < i → (p.getD j default).length = c) ∧ s = ⟨[(0, .lst (em eXL t)), (1, eI most), (4, .nil), (5, .nil), (6, .ref 0 v 1 0 n), (7, .ref 1 w 1 0 n), (8, eI i), (18, j18), (30, j30)], some ⟨v, 1, cs⟩ :: some ⟨w, 1, ds⟩ :: g⟩) ?_ ?_ 0 (Nat.zero_le _) _ ⟨_, _, _, _, _, _, ⟨st0, fun j hj => by omega⟩, rfl⟩
  · rintro i s hi ⟨j18, j30, p, cs, ds, g, ⟨st, hall⟩, rfl⟩ rec
    have hlt := lt_c hi
    have hcm : c ≤ most := by
      obtain ⟨_, _, S3, S4, S5⟩ := st
      rw [← S4 (by omega)]
      exact (S5 _ (getD_mem (by omega))).1
    refine go3 ?_
    refine X_upto (c - (p.getD i default).length) (fun k s => ∃ j30 p' cs ds g, (EvenS n c most ks ls p' cs ds g ∧ (∀ j, j < i → (p'.getD j default).length = c) ∧ (p'.getD i default).length = (p.getD i default).length + k) ∧ s = ⟨[(0, .lst (em eXL t)), (1, eI most), (4, .nil), (5, .nil), (6, .ref 0 v 1 0 n), (7, .ref 1 w 1 0 n), (8, eI i), (18, .bool true), (30, j30)], some ⟨v, 1, cs⟩ :: some ⟨w, 1, ds⟩ :: g⟩) ?_ 0 (Nat.zero_le _) _ ⟨_, _, _, _, _, ⟨st, hall, rfl⟩, rfl⟩
    clear st hall cs ds g
    rintro k s hk ⟨j30, p', cs, ds, g, ⟨st, hall, hlen⟩, rfl⟩ rec2
    generalize (p.getD i default).length = L0 at *
    obtain ⟨S1, S2, S3, S4, S5⟩ := st
    obtain ⟨v1, ys1, a1, a2⟩ := S1.2.2 i (by omega)
    obtain ⟨v2, ys2, b1, b2⟩ := S2.2.2 i (by omega)
    obtain ⟨v3, ys3, c1, c2⟩ := S1.2.2 0 (by omega)
    have hc0 := S4 (by omega)
    rw [hc0] at c1
    have lcs : cs.length = n := by rw [S1.1, S3]
    have lds : ds.length = n := by rw [S2.1, S3]
    have x1 : cs[i]? = some (.ref (ks.getD i default + 1 + 1) v1 3 0 (p'.getD i default).length) := by
      rw [List.getElem?_eq_getElem (by omega)]
      rw [List.getD, List.getElem?_eq_getElem (by omega)] at a1
      rw [show cs[i] = _ from a1, Nat.add_comm 2]
    have x2 : ds[i]? = some (.ref (ls.getD i default + 1 + 1) v2 3 0 (p'.getD i default).length) := by
      rw [List.getElem?_eq_getElem (by omega)]
      rw [List.getD, List.getElem?_eq_getElem (by omega)] at b1
      rw [show ds[i] = _ from b1, Nat.add_comm 2]
    have x3 : cs[0]? = some (.ref (ks.getD 0 default + 1 + 1) v3 3 0 c) := by
      rw [List.getElem?_eq_getElem (by omega)]
      rw [List.getD, List.getElem?_eq_getElem (by omega)] at c1
      rw [show cs[0] = _ from c1, Nat.add_comm 2]
    have hlt0 : ((0 : Int) < (n : Int)) := by omega
    have hkl : ks.getD i default ≠ ls.getD i default := hN3 _ (getD_mem (by rw [S1.2.1]; omega)) _ (getD_mem (by rw [S2.2.1]; omega))
    have hk1 : ks.getD i default < g.length := (List.getElem?_eq_some_iff.1 a2).1
    have hl1 : ls.getD i default < g.length := (List.getElem?_eq_some_iff.1 b2).1
    have hrb := (S5 _ (getD_mem (l := p') (i := i) (by omega))).1
    by_cases hdone : (p'.getD i default).length < c
    · have d1 : (((p'.getD i default).length : Int) < (c : Int)) := by omega
      generalize hr : p'.getD i default = r at *
      have y1 : ∀ l : Heap, (g ++ l)[ks.getD i default]? = some (some ⟨v1, 3, em eQ r ++ ys1⟩) := fun l => by rw [List.getElem?_append_left hk1]; exact a2
      have y2 : ∀ (l : Heap) y, (g.set (ks.getD i default) y ++ l)[ls.getD i default]? = some (some ⟨v2, 3, em rQ r ++ ys2⟩) := fun l y => by
        rw [List.getElem?_append_left (by rw [List.length_set]; exact hl1), List.getElem?_set_ne hkl]; exact b2
      have y3 : ∀ (l : Heap) y, (g ++ l).set (ks.getD i default) y = g.set (ks.getD i default) y ++ l := fun l y => List.set_append_left _ _ hk1
      have y4 : ∀ (l : Heap) y z, (g.set (ks.getD i default) y ++ l).set (ls.getD i default) z = (g.set (ks.getD i default) y).set (ls.getD i default) z ++ l := fun l y z => List.set_append_left _ _ (by rw [List.length_set]; exact hl1)
      have y5 : ∀ (l : Heap) y m, (g.set (ks.getD i default) y ++ l)[g.length + m]? = l[m]? := fun l y m => by
        rw [List.getElem?_append_right (by rw [List.length_set]; omega), List.length_set]
        congr 1; omega
      have t1 : sub (em eQ r ++ ys1) 0 r.length = em eQ r := by
        have := em_len (f := eQ) r
        unfold sub
        rw [List.drop_zero]
        rw [List.take_append_of_le_length (by omega), ← this, List.take_length]
      have t2 : sub (em rQ r ++ ys2) 0 r.length = em rQ r := by
        have := em_len (f := rQ) r
        unfold sub
        rw [List.drop_zero]
        rw [List.take_append_of_le_length (by omega), ← this, List.take_length]
      have q1 := s_rat_Of (a := (r.length + i : Nat)) (by omega) (by omega)
      have q2 := s_r08_Int (n := (r.length + i : Nat)) (by omega) (by omega)
      have q3 : Lq (((r.length + i : Nat) : Int) : Rat) ≤ 1 := Lq_small (by unfold ab; omega)
      have hlim : r.length < 2513169434916 := by omega
      have hmem : ∀ r' ∈ p'.set i (r ++ [(((r.length + i : Nat) : Int) : Rat)]), r'.length ≤ most ∧ ∀ q ∈ r', Lq q ≤ 1 := fun r' hr' => by
        rcases List.mem_or_eq_of_mem_set hr' with h | h
        · exact S5 r' h
        · subst h
          refine ⟨by simp; omega, fun q hq => ?_⟩
          rcases List.mem_append.1 hq with h | h
          · rw [← hr] at h
            exact (S5 _ (getD_mem (by omega))).2 q h
          · rw [List.mem_singleton] at h; rw [h]; exact q3
      have hi0 : i ≠ 0 := fun h => by subst h; rw [hr] at hc0; omega
      have hwA : -9223372036854775808 ≤ (r.length : Int) + (i : Int) := by omega
      have hwB : (r.length : Int) + (i : Int) ≤ 9223372036854775807 := by omega
      have hwC : (r.length : Int) + (i : Int) = ((r.length + i : Nat) : Int) := by omega
      generalize (((r.length + i : Nat) : Int) : Rat) = X at *
      have hlen' : (r.length = L0 + k) = True := eq_true hlen
      clear hlen
      have z1 : [eQ X] = em eQ [X] := rfl
      have z2 : [rQ X] = em rQ [X] := rfl
      have hk0 : k < c - L0 := by have h := of_eq_true hlen'; omega
      have e1 : ∀ (Y Z : Option Blk) (T : Heap), ((g.set (ks.getD i default) Y).set (ls.getD i default) Z ++ T)[ks.getD i default]? = some Y := fun Y Z T => by
        rw [List.getElem?_append_left (by rw [List.length_set, List.length_set]; exact hk1), List.getElem?_set_ne (Ne.symm hkl), List.getElem?_set_self hk1]
      have e2 : ∀ (Y Z : Option Blk) (T : Heap), ((g.set (ks.getD i default) Y).set (ls.getD i default) Z ++ T)[ls.getD i default]? = some Z := fun Y Z T => by
        rw [List.getElem?_append_left (by rw [List.length_set, List.length_set]; exact hl1), List.getElem?_set_self (by rw [List.length_set]; exact hl1)]
      have U1 := fun (Y Z : Option Blk) (T : Heap) (cc : AV) (rr : List Rat) h1 => S1.upd (g' := (g.set (ks.getD i default) Y).set (ls.getD i default) Z ++ T) hN1 (i := i) (by omega) (c := cc) (r := rr) h1 fun k' hk' hne => by
        have := S1.lt k' hk'
        rw [List.getElem?_append_left (by rw [List.length_set, List.length_set]; exact this), List.getElem?_set_ne (hN3 _ hk' _ (getD_mem (by rw [S2.2.1]; omega))).symm, List.getElem?_set_ne (Ne.symm hne)]
      have U2 := fun (Y Z : Option Blk) (T : Heap) (cc : AV) (rr : List Rat) h1 => S2.upd (g' := (g.set (ks.getD i default) Y).set (ls.getD i default) Z ++ T) hN2 (i := i) (by omega) (c := cc) (r := rr) h1 fun k' hk' hne => by
        have := S2.lt k' hk'
        rw [List.getElem?_append_left (by rw [List.length_set, List.length_set]; exact this), List.getElem?_set_ne (Ne.symm hne), List.getElem?_set_ne (hN3 _ (getD_mem (by rw [S1.2.1]; omega)) _ hk')]
      have hpl2 : p'.length = n := S3
      have hS4 : 0 < n → ((p'.set i (r ++ [X])).getD 0 default).length = c := fun _ => by rw [getD_set_other hi0]; exact hc0
      have hall2 : ∀ j, j < i → ((p'.set i (r ++ [X])).getD j default).length = c := fun j hj => by rw [getD_set_other (by omega)]; exact hall j hj
      have hlen2 : ((p'.set i (r ++ [X])).getD i default).length = L0 + (k + 1) := by
        rw [getD_set_self (by omega), List.length_append, List.length_singleton, of_eq_true hlen']; omega
      have hw0 : wrap64 ((r.length : Int) + (i : Int)) = ((r.length + i : Nat) : Int) := by rw [w64 hwA hwB, hwC]
      clear S1 S2 S3 S4 S5 rec hall hlen' hN1 hN2 hN3 a1 a2 b1 b2 c1 c2 st0 hr hc0 hrb hwA hwB hwC
      refine go3 ?_
      exact rec2 _ hk0 ⟨_, p'.set i (r ++ [X]), _, _, _, ⟨⟨U1 _ _ _ _ (r ++ [X]) ⟨v1 + 1, [], by rw [List.length_append, List.length_singleton, Nat.add_comm 2], by rw [e1, List.append_nil]⟩, U2 _ _ _ _ (r ++ [X]) ⟨v2 + 1, [], by rw [List.length_append, List.length_singleton, Nat.add_comm 2], by rw [e2, List.append_nil]⟩, by rw [List.length_set]; exact hpl2, hS4, hmem⟩, hall2, hlen2⟩, rfl⟩
    · have d1 : ¬ (((p'.getD i default).length : Int) < (c : Int)) := by omega
      have d2 : c ≤ (p'.getD i default).length := by omega
      have d3 : (c : Int) ≤ ((p'.getD i default).length : Int) := by omega
      have hi6 : i < 9223372036854775807 := by omega
      generalize hr : p'.getD i default = r at *
      have hlt2 : (r.take c).length = c := by rw [List.length_take]; omega
      have U1 := fun (cc : AV) (rr : List Rat) h1 => S1.upd (g' := g) hN1 (i := i) (by omega) (c := cc) (r := rr) h1 fun k' _ _ => rfl
      have U2 := fun (cc : AV) (rr : List Rat) h1 => S2.upd (g' := g) hN2 (i := i) (by omega) (c := cc) (r := rr) h1 fun k' _ _ => rfl
      have hpl2 : p'.length = n := S3
      have hS4 : 0 < n → ((p'.set i (r.take c)).getD 0 default).length = c := fun h => by
        by_cases e : i = 0
        · subst e; rw [getD_set_self (by omega)]; exact hlt2
        · rw [getD_set_other e]; exact hc0
      have hall2 : ∀ j, j < i + 1 → ((p'.set i (r.take c)).getD j default).length = c := fun j hj => by
        by_cases e : i = j
        · subst e; rw [getD_set_self (by omega)]; exact hlt2
        · rw [getD_set_other e]; exact hall j (by omega)
      have hmem : ∀ r' ∈ p'.set i (r.take c), r'.length ≤ most ∧ ∀ q ∈ r', Lq q ≤ 1 := fun r' hr' => by
        rcases List.mem_or_eq_of_mem_set hr' with h | h
        · exact S5 r' h
        · subst h
          refine ⟨by omega, fun q hq => ?_⟩
          have := List.mem_of_mem_take hq
          rw [← hr] at this
          exact (S5 _ (getD_mem (by omega))).2 q this
      have a2' : g[ks.getD i default]? = some (some ⟨v1, 3, em eQ (r.take c) ++ (em eQ (r.drop c) ++ ys1)⟩) := by
        rw [a2, ← List.append_assoc, em_app, List.take_append_drop]
      have b2' : g[ls.getD i default]? = some (some ⟨v2, 3, em rQ (r.take c) ++ (em rQ (r.drop c) ++ ys2)⟩) := by
        rw [b2, ← List.append_assoc, em_app, List.take_append_drop]
      have hw := i64_nat hi6
      have e0 : (cs.set i (.ref (ks.getD i default + 1 + 1) v1 3 0 c))[0]? = some (.ref (ks.getD 0 default + 1 + 1) v3 3 0 c) ∨ True := .inr trivial
      clear S1 S2 S3 S4 S5 rec2 hall hlen hN1 hN2 hN3 a1 a2 b1 b2 c1 c2 st0 hr hc0 hrb hdone e0
      refine go3 ?_
      exact rec _ ⟨_, _, p'.set i (r.take c), _, _, _, ⟨⟨U1 _ (r.take c) ⟨v1, _, by rw [hlt2, Nat.add_comm 2], a2'⟩, U2 _ (r.take c) ⟨v2, _, by rw [hlt2, Nat.add_comm 2], b2'⟩, by rw [List.length_set]; exact hpl2, hS4, hmem⟩, hall2⟩, rfl⟩
  · rintro s ⟨j18, j30, p, cs, ds, g, ⟨st, hall⟩, rfl⟩
    have hlt : ¬ ((n : Int) < (n : Int)) := nlt_c
    clear hN1 hN2 hN3 st0
    refine go3 ?_
    exact ⟨_, rfl, _, _, _, _, rfl, st, hall⟩
end Go.S

end
section
set_option linter.unusedVariables false
set_option linter.unusedSimpArgs false
set_option maxRecDepth 100000
namespace Go.S
open Go Go.AM Go.RowKit Go.K
theorem tab_wide' {n c : Nat} {A : Mt} (h : 0 < n) : wide (tab n c A) = c := by
  unfold wide
  rw [show (tab n c A).getD 0 [] = rowf c (A 0) from tab_get h, rowf_len]
theorem tab_wide0 {n c : Nat} {A : Mt} (h : n = 0 → c = 0) : wide (tab n c A) = c := by
  rcases Nat.eq_zero_or_pos n with e | e
  · subst e; rw [h rfl]; rfl
  · exact tab_wide' e
theorem mul_tab {n m k : Nat} {A B : Mt} (h : m = 0 → k = 0) : mulR (tab n m A) (tab m k B) = tab n k (mm m A B) := by
  unfold mulR
  rw [tab_wide0 h]
  unfold tab
  rw [List.map_map]
  refine List.map_congr_left fun i hi => ?_
  show rowMul (rowf m (A i)) (tab m k B) k = rowf k (mm m A B i)
  unfold rowMul
  rw [rowf_len]
  refine rowf_congr fun j hj => sm_congr fun x hx => ?_
  rw [rowf_get hx, tab_get hx, rowf_get hj]
theorem turn_tab {n m : Nat} {A : Mt} (h : n = 0 → m = 0) : turnR (tab n m A) = tab m n (trn A) := by
  unfold turnR
  rw [tab_wide0 h]
  refine List.map_congr_left fun j hj => ?_
  have hj' : j < m := by simpa using hj
  show (tab n m A).map _ = (List.range n).map _
  unfold tab
  rw [List.map_map]
  refine List.map_congr_left fun i hi => ?_
  exact rowf_get hj'
theorem ident_tab (n : Nat) : ident n = tab n n idm := by
  unfold ident tab
  refine List.map_congr_left fun i hi => ?_
  have hi' : i < n := by simpa using hi
  unfold unitR
  refine List.ext_getElem (by simp [rowf]) fun k h1 h2 => ?_
  rw [List.getElem_set]
  by_cases e : i = k
  · subst e; simp [rowf, idm]
  · simp [rowf, idm, e]
theorem tab_may' {n c : Nat} {A : Mt} (hn : n ≤ 200) (hc : c ≤ 200) (h : n = 0 → c = 0) : may (tab n c A) = true := by
  rw [may_spec, tab_len, tab_wide0 h]
  exact ⟨hn, hc, tab_row⟩
def Sz (M : Nat) (t : List (List Rat)) : Prop := ∀ r ∈ t, ∀ q ∈ r, Lq q ≤ M
theorem s_Mul2' {n m k : Nat} {A B : Mt} (hn : n ≤ 200) (hm : m ≤ 200) (hk : k ≤ 200) (h1 : n = 0 → m = 0) (h2 : m = 0 → k = 0) {M : Nat} (hM : M ≤ 1000) (la : Sz M (tab n m A)) (lb : Sz M (tab m k B)) :
    CP (CL F) 38 [.lst (em eT [tab n m A, tab m k B])] = some (.tup [eT (tab n k (mm m A B)), eI 0]) ∧ Sz (1 + m * (2 * M + 1)) (tab n k (mm m A B)) := by
  have e := mul_tab (n := n) (A := A) (B := B) h2
  have s := s_Mul2 (tab_may' (A := A) hn hm h1) (tab_may' (A := B) hm hk h2) (by rw [tab_wide0 h1, tab_len]) hM la lb
  have z := mulR_size (a := tab n m A) (b := tab m k B) (M := M) (fun r hr => by rw [tab_row r hr, tab_len]) (fun r hr => by rw [tab_row r hr, tab_wide0 h2]) la lb
  rw [e] at s z
  rw [tab_len] at z
  exact ⟨s, z⟩
theorem s_Mul3 {n m k l : Nat} {A B C : Mt} (hn : n ≤ 200) (hm : m ≤ 200) (hk : k ≤ 200) (hl : l ≤ 200) (h1 : n = 0 → m = 0) (h2 : m = 0 → k = 0) (h3 : k = 0 → l = 0) {M : Nat} (hM : 1 + m * (2 * M + 1) ≤ 1000) (hM2 : M ≤ 1 + m * (2 * M + 1)) (la : Sz M (tab n m A)) (lb : Sz M (tab m k B)) (lc : Sz M (tab k l C)) :
    CP (CL F) 38 [.lst (em eT [tab n m A, tab m k B, tab k l C])] = some (.tup [eT (tab n l (mm k (mm m A B) C)), eI 0]) := by
  refine CP_X (F := F) (f := 38) rfl rfl ?_
  have hk' := s_checks (l := [tab n m A, tab m k B, tab k l C]) (by simp) fun t ht => by
    simp at ht; rcases ht with rfl | rfl | rfl <;> rw [tab_len] <;> omega
  rw [show [tab n m A, tab m k B, tab k l C].all may = true by simp [tab_may' (A := A) hn hm h1, tab_may' (A := B) hm hk h2, tab_may' (A := C) hk hl h3]] at hk'
  have e1 := mul_tab (n := n) (A := A) (B := B) h2
  have e2 := mul_tab (n := n) (A := mm m A B) (B := C) h3
  have z := (s_Mul2' hn hm hk h1 h2 (by omega) la lb).2
  have t1 := s_times (a := tab n m A) (b := tab m k B) (by rw [tab_len]; omega) (by rw [tab_len]; omega) (by rw [tab_wide0 h1, tab_len]) (by rw [tab_wide0 h2]; exact hk) (fun r hr => by rw [tab_row r hr, tab_wide0 h1]) (fun r hr => by rw [tab_row r hr, tab_wide0 h2]) (M := M) (by omega) la lb
  have h13 : n = 0 → k = 0 := fun h => h2 (h1 h)
  have t2 := s_times (a := tab n k (mm m A B)) (b := tab k l C) (by rw [tab_len]; omega) (by rw [tab_len]; omega) (by rw [tab_wide0 h13, tab_len]) (by rw [tab_wide0 h3]; exact hl) (fun r hr => by rw [tab_row r hr, tab_wide0 h13]) (fun r hr => by rw [tab_row r hr, tab_wide0 h3]) (M := 1 + m * (2 * M + 1)) hM z fun r hr q hq => Nat.le_trans (lc r hr q hq) hM2
  rw [e1] at t1
  rw [e2] at t2
  have o1 := s_own (t := tab n l (mm k (mm m A B) C)) (c := l) (by rw [tab_len]; omega) (by omega) tab_row
  generalize tab n l (mm k (mm m A B) C) = X at *
  generalize tab n k (mm m A B) = Y at *
  generalize tab n m A = a at *
  generalize tab m k B = b at *
  generalize tab k l C = c at *
  have hl' : (em eT [a, b, c]).length = 3 := rfl
  have g0 : (em eT [a, b, c])[0]? = some (eT a) := rfl
  have hdr : List.drop 1 (em eT [a, b, c]) = em eT [b, c] := rfl
  have hok : okS 1 (em eT [a, b, c]) = true := rfl
  have hn0 : (em eT [b, c])[0]? = some (eT b) := rfl
  have hn1 : (em eT [b, c])[1]? = some (eT c) := rfl
  have hw : wrap64 (0 + 1) = 1 := by rw [show (0 : Int) + 1 = 1 from rfl, w64 (by omega) (by omega)]
  have hw2 : wrap64 (1 + 1) = 2 := by rw [show (1 : Int) + 1 = 2 from rfl, w64 (by omega) (by omega)]
  clear la lb lc z e1 e2 hM hM2 hn hm hk hl h1 h2 h3 h13
  refine go3 ?_
  refine X_round ?_
  refine go3 ?_
  refine X_round ?_
  refine go3 ?_
  refine X_round ?_
  refine go3 ?_
  trivial
end Go.S

end
section
set_option linter.unusedVariables false
set_option linter.unusedSimpArgs false
namespace Go.S
open Go Go.AM Go.RowKit Go.K
def tk : Nat → ACode → ACode
  | 0, _ => .skip
  | n + 1, .seq a b => .seq a (tk n b)
  | _ + 1, x => x
def dp : Nat → ACode → ACode
  | 0, x => x
  | n + 1, .seq _ b => dp n b
  | _ + 1, _ => .skip
section
variable {F : Nat → Option AFunc} {ks : List Nat}
theorem X_tkdp {Q : Ex → St → Prop} : ∀ (n : Nat) (a : ACode) (s : St) (k : Kt), X F ks Q (.seq (tk n a) (dp n a)) s k → X F ks Q a s k := by
  have last : ∀ (x : ACode) (s : St) (k : Kt), X F ks Q (.seq x .skip) s k → X F ks Q x s k := by
    intro x s k h
    rw [X_seq] at h
    refine W_mono h fun e s' he => ?_
    cases e with
    | normal => rw [Y_seq, X_skip] at he; exact he
    | exit i => exact he
    | ret => exact he
  intro n
  induction n with
  | zero => intro a s k h; rw [X_seq] at h; exact (X_skip.1 h)
  | succ n ih =>
    intro a s k h
    cases a with
    | seq a b =>
      rw [X_seq]
      simp only [tk, dp] at h
      rw [X_seq, X_seq] at h
      refine W_mono h fun e s' he => ?_
      cases e with
      | normal =>
        rw [Y_seq] at he ⊢
        exact ih _ _ _ (X_seq.2 he)
      | exit i => exact he
      | ret => exact he
    | _ => exact last _ _ _ h
theorem X_split {Q : Ex → St → Prop} {a : ACode} {s : St} {k : Kt} (n : Nat) (P : St → Prop) (h : X F ks (fun e s' => e = .normal ∧ P s') (tk n a) s .done) (h2 : ∀ s', P s' → X F ks Q (dp n a) s' k) : X F ks Q a s k := by
  refine X_tkdp n a s k ?_
  rw [X_seq]
  refine X_cut _ h ?_
  rintro e s' ⟨rfl, hp⟩
  rw [Y_seq]
  exact h2 _ hp
end
end Go.S

end
section
set_option linter.unusedVariables false
set_option linter.unusedSimpArgs false
set_option maxRecDepth 100000
namespace Go.S
open Go Go.AM Go.RowKit Go.K
theorem Sz.same {M : Nat} {t : List (List Rat)} (h : Sz M t) {c : Nat} (hr : ∀ r ∈ t, r.length = c) (hc : c ≤ 1000000) (hl : t.length ≤ 1000000) (hM : M < 100000000) : CP (CL F) 39 [eT t, eT t] = some (.bool true) := by
  have := s_mSame (a := t) (b := t) hl fun r h' => ⟨by rw [hr r h']; exact hc, fun q hq => Nat.lt_of_le_of_lt (h r h' q hq) hM⟩
  rwa [decide_eq_true rfl] at this
theorem even_tab {p : List (List Rat)} {K : Nat} (h : ∀ r ∈ p, r.length = wide p ∧ r.length ≤ K ∧ ∀ q ∈ r, Lq q ≤ 1) : ∃ n m A, p = tab n m A ∧ p.length = n ∧ (n = 0 → m = 0) ∧ (0 < n → m ≤ K) ∧ Sz 1 (tab n m A) := by
  have e : p = tab p.length (wide p) (ent p) := (tab_of fun r hr => (h r hr).1).symm
  refine ⟨_, _, _, e, rfl, fun h0 => ?_, fun h0 => ?_, ?_⟩
  · have : p = [] := List.eq_nil_of_length_eq_zero h0
    rw [this]; rfl
  · have := h _ (getD_mem h0)
    omega
  · rw [← e]; exact fun r hr => (h r hr).2.2
theorem Sz.trn {M n m : Nat} {A : Mt} (h : Sz M (tab n m A)) : Sz M (tab m n (trn A)) := fun r hr q hq => by
  obtain ⟨i, hi, j, hj, rfl⟩ := mem_tab2 hr hq
  exact h _ (mem_tab.2 ⟨j, hj, rfl⟩) _ (mem_rowf.2 ⟨i, hi, rfl⟩)
theorem Sz.idm (n : Nat) : Sz 1 (tab n n idm) := fun r hr q hq => by
  obtain ⟨i, hi, j, hj, rfl⟩ := mem_tab2 hr hq
  unfold Go.S.idm
  split
  · exact Lq_one
  · exact Lq_zero
set_option maxHeartbeats 4000000
theorem law_MatrixRing {t u v : List (List XQ)} (ht : ∀ l ∈ t, ∀ x ∈ l, x.ok) (hu : ∀ l ∈ u, ∀ x ∈ l, x.ok) (hv : ∀ l ∈ v, ∀ x ∈ l, x.ok) : CP (CL F) 7 [.lst (em eXL t), .lst (em eXL u), .lst (em eXL v)] = some (.bool true) := by
  refine CP_X (F := F) (f := 7) rfl rfl ?_
  obtain ⟨a, a1, a2, a3⟩ := s_Even ht (most := 3) (by decide)
  obtain ⟨b, b1, b2, b3⟩ := s_Even hu (most := 3) (by decide)
  obtain ⟨c, c1, c2, c3⟩ := s_Even hv (most := 3) (by decide)
  replace a3 : CP (CL F) 37 [.lst (em eXL t), eI 3] = some (.tup [eT a, rT a]) := a3
  replace b3 : CP (CL F) 37 [.lst (em eXL u), eI 3] = some (.tup [eT b, rT b]) := b3
  replace c3 : CP (CL F) 37 [.lst (em eXL v), eI 3] = some (.tup [eT c, rT c]) := c3
  obtain ⟨n, m, A, ea, la, za, wa, sa⟩ := even_tab a2
  obtain ⟨nb, k, B, eb, lb, zb, wb, sb⟩ := even_tab b2
  obtain ⟨nc, l, C, ec, lc, zc, wc, sc⟩ := even_tab c2
  have hn : n ≤ 3 := by omega
  have hnb : nb ≤ 3 := by omega
  have hnc : nc ≤ 3 := by omega
  have hm : m ≤ 3 := by
    rcases Nat.eq_zero_or_pos n with h | h
    · rw [za h]; omega
    · exact wa h
  have hk : k ≤ 3 := by
    rcases Nat.eq_zero_or_pos nb with h | h
    · rw [zb h]; omega
    · exact wb h
  have hl : l ≤ 3 := by
    rcases Nat.eq_zero_or_pos nc with h | h
    · rw [zc h]; omega
    · exact wc h
  clear a1 b1 c1 a2 b2 c2 wa wb wc ht hu hv
  have wk := s_works12
  have fp : ∀ (a b : List (List Rat)) (h : Heap), fzR (Go.AM.frz h 6) (some (some ⟨0, 1, [eT a, eT b]⟩)) 0 0 2 = some (.lst (em eT [a, b])) := fun a b h => em_fz6 (h := h) (v := 0) (off := 0) (len := 2) E_eT [a, b]
  have up : ∀ (a b : List (List Rat)) (h : Heap) (i : Nat), usR (used h 6) (some (some ⟨0, 1, [eT a, eT b]⟩)) i 0 0 2 = [i] := fun a b h i => em_us6 (h := h) (id := i) (v := 0) (off := 0) (len := 2) E_eT [a, b]
  have fp3 : ∀ (a b c : List (List Rat)) (h : Heap), fzR (Go.AM.frz h 6) (some (some ⟨0, 1, [eT a, eT b, eT c]⟩)) 0 0 3 = some (.lst (em eT [a, b, c])) := fun a b c h => em_fz6 (h := h) (v := 0) (off := 0) (len := 3) E_eT [a, b, c]
  have up3 : ∀ (a b c : List (List Rat)) (h : Heap) (i : Nat), usR (used h 6) (some (some ⟨0, 1, [eT a, eT b, eT c]⟩)) i 0 0 3 = [i] := fun a b c h i => em_us6 (h := h) (id := i) (v := 0) (off := 0) (len := 3) E_eT [a, b, c]
  have may_a : may a = true := by rw [ea]; exact tab_may' (by omega) (by omega) za
  have may_b : may b = true := by rw [eb]; exact tab_may' (by omega) (by omega) zb
  have may_c : may c = true := by rw [ec]; exact tab_may' (by omega) (by omega) zc
  have wid_a : wide a = m := by rw [ea]; exact tab_wide0 za
  have wid_b : wide b = k := by rw [eb]; exact tab_wide0 zb
  have HP : ∃ p e, CP (CL F) 38 [.lst (em eT [a, b])] = some (.tup [p, .int .i64 e]) ∧ (m = nb → p = eT (tab n k (mm m A B)) ∧ e = 0) ∧ (m ≠ nb → e = 8) := by
    by_cases h : m = nb
    · subst h
      have := (s_Mul2' (A := A) (B := B) (by omega) (by omega) (by omega) za zb (M := 1) (by decide) (by rwa [← ea] at sa ⊢) (by rwa [← eb] at sb ⊢)).1
      rw [← ea, ← eb] at this
      exact ⟨_, _, this, fun _ => ⟨rfl, rfl⟩, fun n => (n rfl).elim⟩
    · exact ⟨_, _, s_Mul_shape may_a may_b (by rw [wid_a, lb]; exact h), fun n => (h n).elim, fun _ => rfl⟩
  have HQ : ∃ p e, CP (CL F) 38 [.lst (em eT [b, c])] = some (.tup [p, .int .i64 e]) ∧ (k = nc → p = eT (tab nb l (mm k B C)) ∧ e = 0) ∧ (k ≠ nc → e = 8) := by
    by_cases h : k = nc
    · subst h
      have := (s_Mul2' (A := B) (B := C) (by omega) (by omega) (by omega) zb zc (M := 1) (by decide) (by rwa [← eb] at sb ⊢) (by rwa [← ec] at sc ⊢)).1
      rw [← eb, ← ec] at this
      exact ⟨_, _, this, fun _ => ⟨rfl, rfl⟩, fun n => (n rfl).elim⟩
    · exact ⟨_, _, s_Mul_shape may_b may_c (by rw [wid_b, lc]; exact h), fun n => (h n).elim, fun _ => rfl⟩
  obtain ⟨p, e, k1, p1, p2⟩ := HP
  obtain ⟨q, f, k2, q1, q2⟩ := HQ
  refine X_split 7 (fun s => ∃ h, s = ⟨[(0, .lst (em eXL t)), (1, .lst (em eXL u)), (2, .lst (em eXL v)), (6, .bool false), (7, eT a), (9, eT b), (11, eT c), (13, p), (14, .int .i64 e), (15, q), (16, .int .i64 f), (17, .undef), (18, .undef), (19, .undef), (20, .undef), (21, .undef), (22, .undef), (23, .undef), (24, .undef), (25, .undef), (27, .undef), (29, .undef), (30, .undef), (31, .undef), (33, .undef), (35, .undef), (37, .undef), (39, .undef), (40, .undef), (42, .bool false), (77, .undef), (121, .undef), (128, .undef), (170, .undef), (184, .undef)], h⟩) ?_ ?_
  · clear p1 p2 q1 q2 may_a may_b may_c wid_a wid_b ea eb ec sa sb sc za zb zc la lb lc hn hnb hnc hm hk hl
    simp only [tk]
    refine go3 ?_
    exact ⟨_, rfl⟩
  rintro s ⟨h, rfl⟩
  refine X_split 1 (fun s => ∃ j17 j18 j19 j20 j21 j22 j77 j121 h, s = ⟨[(0, .lst (em eXL t)), (1, .lst (em eXL u)), (2, .lst (em eXL v)), (6, .bool false), (7, eT a), (9, eT b), (11, eT c), (13, p), (14, .int .i64 e), (15, q), (16, .int .i64 f), (17, j17), (18, j18), (19, j19), (20, j20), (21, j21), (22, j22), (23, .undef), (24, .undef), (25, .undef), (27, .undef), (29, .undef), (30, .undef), (31, .undef), (33, .undef), (35, .undef), (37, .undef), (39, .undef), (40, .undef), (42, .bool false), (77, j77), (121, j121), (128, .undef), (170, .undef), (184, .undef)], h⟩) ?_ ?_
  · simp only [dp, tk]
    have zp : ∀ (a b : List (List Rat)) (g h : Heap), fzR (Go.AM.frz h 6) (some (some ⟨0, 1, [eT a, eT b]⟩)) 0 0 2 = some (.lst (em eT [a, b])) := fun a b _ h => fp a b h
    by_cases h1 : m = nb
    · obtain ⟨rfl, rfl⟩ := p1 h1
      by_cases h2 : k = nc
      · obtain ⟨rfl, rfl⟩ := q1 h2
        subst h1
        subst h2
        have sp := (s_Mul2' (A := A) (B := B) (by omega) (by omega) (by omega) za zb (M := 1) (by decide) (by rwa [← ea] at sa ⊢) (by rwa [← eb] at sb ⊢)).2
        have sq := (s_Mul2' (A := B) (B := C) (by omega) (by omega) (by omega) zb zc (M := 1) (by decide) (by rwa [← eb] at sb ⊢) (by rwa [← ec] at sc ⊢)).2
        have up1 : ∀ {M M' : Nat} {t : List (List Rat)}, Sz M t → M ≤ M' → Sz M' t := fun h hh r hr q hq => Nat.le_trans (h r hr q hq) hh
        have r1 := s_Mul2' (A := mm m A B) (B := C) (by omega) (by omega) (by omega) (fun h => zb (za h)) zc (M := 10) (by decide) (up1 sp (by omega)) (up1 sc (by decide))
        have r2 := s_Mul2' (A := A) (B := mm k B C) (by omega) (by omega) (by omega) za (fun h => zc (zb h)) (M := 10) (by decide) (up1 sa (by decide)) (up1 sq (by omega))
        have r3 := s_Mul3 (A := A) (B := B) (C := C) (by omega) (by omega) (by omega) (by omega) za zb zc (M := 1) (by omega) (by omega) sa sb sc
        rw [← mm_assoc] at r2
        have r4 := r1.2.same tab_row (by omega) (by rw [tab_len]; omega) (by omega)
        have r1' := r1.1
        have r2' := r2.1
        rw [← ea] at r2' r3
        rw [← eb] at r3
        rw [← ec] at r1' r3
        generalize tab n l (mm k (mm m A B) C) = X at *
        generalize tab n k (mm m A B) = P at *
        generalize tab m l (mm k B C) = Q at *
        clear p1 p2 q1 q2 may_a may_b may_c wid_a wid_b ea eb ec sa sb sc za zb zc la lb lc hn hnb hnc hm hk hl sp sq up1 r1 r2
        refine go3 ?_
        exact ⟨_, _, _, _, _, _, _, _, _, rfl⟩
      · obtain rfl := q2 h2
        clear p1 p2 q1 q2 may_a may_b may_c wid_a wid_b ea eb ec sa sb sc za zb zc la lb lc hn hnb hnc hm hk hl
        refine go3 ?_
        exact ⟨_, _, _, _, _, _, _, _, _, rfl⟩
    · obtain rfl := p2 h1
      clear p1 p2 q1 q2 may_a may_b may_c wid_a wid_b ea eb ec sa sb sc za zb zc la lb lc hn hnb hnc hm hk hl
      refine go3 ?_
      exact ⟨_, _, _, _, _, _, _, _, _, rfl⟩
  rintro s ⟨j17, j18, j19, j20, j21, j22, j77, j121, h, rfl⟩
  simp only [dp]
  have z2 := s_Size a
  rw [la, wid_a] at z2
  by_cases hm0 : m = 0
  · have hm1 : ((m : Int) = 0) := by omega
    clear p1 p2 q1 q2 may_a may_b may_c wid_a wid_b ea eb ec sa sb sc za zb zc la lb lc hn hnb hnc hm hk hl hm0
    refine go3 ?_
    trivial
  · have hm1 : ¬ ((m : Int) = 0) := by omega
    have hn0 : 0 < n := by omega
    have i1 := s_Ident (n := n) (by omega)
    have i2 := s_Ident (n := m) (by omega)
    have i3 := s_Mul3 (A := idm) (B := A) (C := idm) (n := n) (m := n) (k := m) (l := m) (by omega) (by omega) (by omega) (by omega) (fun h => h) za (fun h => h) (M := 1) (by omega) (by omega) (Sz.idm n) sa (Sz.idm m)
    rw [show tab n m (mm m (mm n idm A) idm) = tab n m A from tab_congr fun i hi j hj => by rw [mm_one_r i hj, mm_one_l hi], ← ident_tab, ← ident_tab, ← ea] at i3
    have t1 := s_Turn may_a
    have ta : turnR a = tab m n (trn A) := by rw [ea]; exact turn_tab za
    have t2 := s_Turn (t := tab m n (trn A)) (tab_may' (by omega) (by omega) (fun h => (hm0 h).elim))
    rw [turn_tab (fun h => (hm0 h).elim), show tab n m (trn (trn A)) = tab n m A from rfl, ← ea] at t2
    rw [ta] at t1
    have saa := sa.same tab_row (by omega) (by rw [tab_len]; omega) (by decide)
    rw [← ea] at saa
    by_cases h1 : m = nb
    · obtain ⟨rfl, rfl⟩ := p1 h1
      subst h1
      have g0 := em_getN (f := eR) (tab n k (mm m A B)) 0 (by rw [tab_len]; exact hn0)
      rw [tab_get hn0] at g0
      have rl := rowf_len k (mm m A B 0)
      have pl := tab_len n k (mm m A B)
      have hn1 : ¬ ((n : Int) = 0) := by omega
      have hn2 : ((0 : Int) < (n : Int)) := by omega
      by_cases hk0 : k = 0
      · have hk1 : ((k : Int) = 0) := by omega
        generalize rowf k (mm m A B 0) = r0 at *
        generalize tab n k (mm m A B) = P at *
        generalize tab m n (trn A) = TA at *
        clear p1 p2 q1 q2 may_a may_b may_c wid_a wid_b ea eb ec ta sa sb sc za zb zc la lb lc hn hnb hnc hm hk hl hm0 hk0 hn0
        refine go3 ?_
        trivial
      · have hk1 : ¬ ((k : Int) = 0) := by omega
        have t3 := s_Turn may_b
        have tb : turnR b = tab k m (trn B) := by rw [eb]; exact turn_tab zb
        rw [tb] at t3
        have t4 := s_Turn (t := tab n k (mm m A B)) (tab_may' (by omega) (by omega) (fun h => by omega))
        rw [turn_tab (fun h => by omega)] at t4
        have r1 := s_Mul2' (A := trn B) (B := trn A) (n := k) (m := m) (k := n) (by omega) (by omega) (by omega) (fun h => (hk0 h).elim) (fun h => (hm0 h).elim) (M := 1) (by decide) sb.trn sa.trn
        rw [mm_trn] at r1
        have r2 := r1.2.same tab_row (by omega) (by rw [tab_len]; omega) (by omega)
        have r3 := r1.1
        clear r1
        generalize rowf k (mm m A B 0) = r0 at *
        generalize tab n k (mm m A B) = P at *
        generalize tab m n (trn A) = TA at *
        generalize tab k m (trn B) = TB at *
        generalize tab k n (trn (mm m A B)) = TP at *
        clear p1 p2 q1 q2 may_a may_b may_c wid_a wid_b ea eb ec ta sa sb sc za zb zc la lb lc hn hnb hnc hm hk hl hm0 hk0 hn0 tb
        refine go3 ?_
        trivial
    · obtain rfl := p2 h1
      generalize tab m n (trn A) = TA at *
      clear p1 p2 q1 q2 may_a may_b may_c wid_a wid_b ea eb ec ta sa sb sc za zb zc la lb lc hn hnb hnc hm hk hl hm0 h1 hn0
      refine go3 ?_
      trivial
end Go.S

end
