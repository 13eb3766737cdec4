/- A part of the proof of the law MatrixMuls: an abstract machine for the functions' code with its soundness, words, lemmas (assembled by a program). -/
import Derived.Test.YtpmbcdakpmceiaaGreatCMatrixMuls5
set_option linter.unusedVariables false
set_option linter.unusedSimpArgs false
set_option linter.unusedSectionVars false
section
set_option linter.unusedVariables false
set_option linter.unusedSimpArgs false
set_option maxRecDepth 100000
namespace Go.S
open Go Go.AM Go.RowKit Go.K
abbrev eT (t : List (List Rat)) : AV := .lst (em eR t)
abbrev rT (t : List (List Rat)) : AV := .lst (em rR t)
def wide (t : List (List Rat)) : Nat := (t.getD 0 []).length
def even (t : List (List Rat)) : Bool := t.all fun r => decide (r.length = wide t)
theorem even_iff {t : List (List Rat)} : even t = true ↔ ∀ r ∈ t, r.length = wide t := by simp [even]
theorem E_eT : Enc eT 1 := ⟨fun _ => rfl, fun _ => rfl⟩
theorem findIdx_spec {α : Type} [Inhabited α] {l : List α} {p : α → Bool} {i : Nat} (hi : i < l.length) (h1 : p (l.getD i default) = true) (h2 : ∀ j, j < i → p (l.getD j default) = false) : l.findIdx p = i := by
  rw [List.findIdx_eq hi]
  refine ⟨by rw [List.getD_eq_getElem?_getD, List.getElem?_eq_getElem hi] at h1; simpa using h1, fun j hj => ?_⟩
  have := h2 j hj
  rw [List.getD_eq_getElem?_getD, List.getElem?_eq_getElem (by omega)] at this
  simpa using this
theorem findIdx_none {α : Type} [Inhabited α] {l : List α} {p : α → Bool} (h : ∀ j, j < l.length → p (l.getD j default) = false) : ¬ l.findIdx p < l.length := by
  rw [List.findIdx_lt_length]
  rintro ⟨x, hx, hp⟩
  obtain ⟨j, hj, rfl⟩ := List.getElem_of_mem hx
  have := h j (by omega)
  rw [List.getD_eq_getElem?_getD, List.getElem?_eq_getElem hj] at this
  simp [hp] at this
theorem s_IndexRow {t : List (List Rat)} {g : Nat} {c : Int} {p : List Rat → Bool} (hl : t.length ≤ 1000000) (hg : ∀ x ∈ t, CP (CL F) g [eR x, .fad (.int .i64 c)] = some (.bool (p x))) :
    CP (CL F) 83 [eT t, .fn g [] [.fad (.int .i64 c)]] = some (eI (if t.findIdx p < t.length then (t.findIdx p : Int) else -1)) := by
  refine CP_X (F := F) (f := 83) rfl rfl ?_
  have c1 : ∀ h, fz h (.fn g [] [.fad (.int .i64 c)]) = some (.fn g [] [.fad (.int .i64 c)]) := fun _ => rfl
  have c2 : ∀ h, used h deep (.fn g [] [.fad (.int .i64 c)]) = [] := fun _ => rfl
  have c3 : ∀ h, fz h (.fad (.int .i64 c)) = some (.fad (.int .i64 c)) := fun _ => rfl
  have c4 : ∀ h, used h deep (.fad (.int .i64 c)) = [] := fun _ => rfl
  refine go3 ?_
  refine X_upto t.length (fun i s => ∃ j4 j5 j9 j16 g', (∀ j, j < i → p (t.getD j default) = false) ∧ s = ⟨[(0, eT t), (1, .fn g [] [.fad (.int .i64 c)]), (4, j4), (5, j5), (7, eI t.length), (8, eI i), (9, j9), (16, j16)], g'⟩) ?_ 0 (Nat.zero_le _) _ ⟨_, _, _, _, _, fun j hj => by omega, rfl⟩
  rintro i s hi ⟨j4, j5, j9, j16, g', hall, rfl⟩ rec
  by_cases hlt : i < t.length
  · have hlt2 := lt_c hlt
    have g1 := em_getN (f := eR) t i hlt
    have hc := hg _ (getD_mem (l := t) (i := i) hlt)
    cases hp : p (t.getD i default) with
    | true =>
      rw [findIdx_spec hlt hp hall, if_pos hlt]
      rw [hp] at hc
      clear hall hg rec hi hp
      refine go3 ?_
      trivial
    | false =>
      rw [hp] at hc
      have hnext : ∀ j, j < i + 1 → p (t.getD j default) = false := fun j hj => by
        rcases Nat.lt_or_ge j i with h | h
        · exact hall j h
        · have : j = i := by omega
          subst this; exact hp
      have hw := i64_nat (n := i) (by omega)
      clear hall hg hp
      refine go3 ?_
      exact rec _ hlt ⟨_, _, _, _, _, hnext, rfl⟩
  · have hl3 : ¬ ((i : Int) < (t.length : Int)) := by omega
    have he := findIdx_none (l := t) (p := p) fun j hj => hall j (by omega)
    rw [if_neg he]
    clear hall hg rec he
    refine go3 ?_
    trivial
theorem s_ContainsRow {t : List (List Rat)} {g : Nat} {c : Int} {p : List Rat → Bool} (hl : t.length ≤ 1000000) (hg : ∀ x ∈ t, CP (CL F) g [eR x, .fad (.int .i64 c)] = some (.bool (p x))) :
    CP (CL F) 48 [eT t, .fn g [] [.fad (.int .i64 c)]] = some (.bool (t.any p)) := by
  refine CP_X (F := F) (f := 48) rfl rfl ?_
  have c1 : ∀ h, fz h (.fn g [] [.fad (.int .i64 c)]) = some (.fn g [] [.fad (.int .i64 c)]) := fun _ => rfl
  have c2 : ∀ h, used h deep (.fn g [] [.fad (.int .i64 c)]) = [] := fun _ => rfl
  have h1 := s_IndexRow hl hg
  clear hg
  by_cases h : t.findIdx p < t.length
  · have ha : t.any p = true := by
      rw [List.any_eq_true]
      rw [List.findIdx_lt_length] at h
      exact h
    rw [if_pos h] at h1
    rw [ha]
    have h2 : (0 : Int) ≤ (t.findIdx p : Int) := by omega
    clear ha h
    refine go3 ?_
    trivial
  · have ha : t.any p = false := by
      rw [← Bool.not_eq_true, List.any_eq_true, ← List.findIdx_lt_length]
      exact h
    rw [if_neg h] at h1
    rw [ha]
    clear ha h
    refine go3 ?_
    trivial
theorem s_IndexTab {l : List (List (List Rat))} {g : Nat} {p : List (List Rat) → Bool} (hl : l.length ≤ 1000000) (hg : ∀ x ∈ l, CP (CL F) g [eT x] = some (.bool (p x))) :
    CP (CL F) 112 [.lst (em eT l), .fn g [] []] = some (eI (if l.findIdx p < l.length then (l.findIdx p : Int) else -1)) := by
  refine CP_X (F := F) (f := 112) rfl rfl ?_
  refine go3 ?_
  refine X_upto l.length (fun i s => ∃ j4 j5 j9 j16 g', (∀ j, j < i → p (l.getD j default) = false) ∧ s = ⟨[(0, .lst (em eT l)), (1, .fn g [] []), (4, j4), (5, j5), (7, eI l.length), (8, eI i), (9, j9), (16, j16)], g'⟩) ?_ 0 (Nat.zero_le _) _ ⟨_, _, _, _, _, fun j hj => by omega, rfl⟩
  rintro i s hi ⟨j4, j5, j9, j16, g', hall, rfl⟩ rec
  by_cases hlt : i < l.length
  · have hlt2 := lt_c hlt
    have g1 := em_getN (f := eT) l i hlt
    have hc := hg _ (getD_mem (l := l) (i := i) hlt)
    cases hp : p (l.getD i default) with
    | true =>
      rw [findIdx_spec hlt hp hall, if_pos hlt]
      rw [hp] at hc
      clear hall hg rec hi hp
      refine go3 ?_
      trivial
    | false =>
      rw [hp] at hc
      have hnext : ∀ j, j < i + 1 → p (l.getD j default) = false := fun j hj => by
        rcases Nat.lt_or_ge j i with h | h
        · exact hall j h
        · have : j = i := by omega
          subst this; exact hp
      have hw := i64_nat (n := i) (by omega)
      clear hall hg hp
      refine go3 ?_
      exact rec _ hlt ⟨_, _, _, _, _, hnext, rfl⟩
  · have hl3 : ¬ ((i : Int) < (l.length : Int)) := by omega
    have he := findIdx_none (l := l) (p := p) fun j hj => hall j (by omega)
    rw [if_neg he]
    clear hall hg rec he
    refine go3 ?_
    trivial
theorem s_ContainsTab {l : List (List (List Rat))} {g : Nat} {p : List (List Rat) → Bool} (hl : l.length ≤ 1000000) (hg : ∀ x ∈ l, CP (CL F) g [eT x] = some (.bool (p x))) :
    CP (CL F) 88 [.lst (em eT l), .fn g [] []] = some (.bool (l.any p)) := by
  refine CP_X (F := F) (f := 88) rfl rfl ?_
  have h1 := s_IndexTab hl hg
  clear hg
  by_cases h : l.findIdx p < l.length
  · have ha : l.any p = true := by
      rw [List.any_eq_true]
      rw [List.findIdx_lt_length] at h
      exact h
    rw [if_pos h] at h1
    rw [ha]
    have h2 : (0 : Int) ≤ (l.findIdx p : Int) := by omega
    clear ha h
    refine go3 ?_
    trivial
  · have ha : l.any p = false := by
      rw [← Bool.not_eq_true, List.any_eq_true, ← List.findIdx_lt_length]
      exact h
    rw [if_neg h] at h1
    rw [ha]
    clear ha h
    refine go3 ?_
    trivial
theorem s_Size (t : List (List Rat)) : CP (CL F) 9 [eT t] = some (.tup [eI t.length, eI (wide t)]) := by
  refine CP_X (F := F) (f := 9) rfl rfl ?_
  cases t with
  | nil =>
    have h : wide [] = 0 := rfl
    have h0 : em eR [] = [] := rfl
    refine go3 ?_
    trivial
  | cons r t =>
    have h : wide (r :: t) = r.length := rfl
    have h1 : ¬ (((r :: t).length : Int) = 0) := by simp; omega
    have g1 := em_getN (f := eR) (r :: t) 0 (by simp)
    rw [show (r :: t).getD 0 default = r from rfl] at g1
    generalize r :: t = x at *
    refine go3 ?_
    trivial
theorem s_Wide (t : List (List Rat)) : CP (CL F) 13 [rT t] = some (eI (wide t)) := by
  refine CP_X (F := F) (f := 13) rfl rfl ?_
  cases t with
  | nil =>
    have h : wide [] = 0 := rfl
    have h0 : em rR [] = [] := rfl
    refine go3 ?_
    trivial
  | cons r t =>
    have h : wide (r :: t) = r.length := rfl
    have h1 : ¬ (((r :: t).length : Int) = 0) := by simp; omega
    have g1 := em_getN (f := rR) (r :: t) 0 (by simp)
    rw [show (r :: t).getD 0 default = r from rfl] at g1
    generalize r :: t = x at *
    refine go3 ?_
    trivial
theorem s_Check1 (r : List Rat) (c : Int) : CP (CL F) 49 [eR r, .fad (.int .i64 c)] = some (.bool (decide ((r.length : Int) ≠ c))) := by
  refine CP_X (F := F) (f := 49) rfl rfl ?_
  have c3 : ∀ h, fz h (.fad (.int .i64 c)) = some (.fad (.int .i64 c)) := fun _ => rfl
  refine go3 ?_
  simp
def may (t : List (List Rat)) : Bool := decide (t.length ≤ 200) && decide (wide t ≤ 200) && even t
theorem s_Check {t : List (List Rat)} (hl : t.length ≤ 1000000) : CP (CL F) 11 [eT t] = some (eI (if may t then 0 else 8)) := by
  refine CP_X (F := F) (f := 11) rfl rfl ?_
  have h0 := s_Size t
  have h1 := s_ContainsRow (t := t) (g := 49) (c := wide t) hl fun x _ => s_Check1 x _
  have h2 : t.any (fun x => decide ((x.length : Int) ≠ (wide t : Int))) = !even t := by
    unfold even
    rw [List.not_all_eq_any_not]
    congr 1
    funext r
    by_cases h : r.length = wide t
    · simp [h]
    · simp [h]; omega
  have c5 : ∀ g, fz (some ⟨0, 1, [eI (wide t)]⟩ :: g) (.fn 49 [] [.ptr 0 0 0 0]) = some (.fn 49 [] [.fad (eI (wide t))]) := fun _ => rfl
  have c6 : ∀ g, used (some ⟨0, 1, [eI (wide t)]⟩ :: g) deep (.fn 49 [] [.ptr 0 0 0 0]) = [0] := fun _ => rfl
  rw [h2] at h1
  clear h2
  by_cases a1 : t.length ≤ 200
  · have b1 : ¬ ((200 : Int) < (t.length : Int)) := by omega
    by_cases a2 : wide t ≤ 200
    · have b2 : ¬ ((200 : Int) < (wide t : Int)) := by omega
      cases h3 : even t with
      | true =>
        have h4 : may t = true := by simp [may, a1, a2, h3]
        rw [h3] at h1
        rw [Bool.not_true] at h1
        rw [h4, if_pos rfl]
        clear h3 h4 a1 a2
        refine go3 ?_
        trivial
      | false =>
        have h4 : may t = false := by simp [may, a1, a2, h3]
        rw [h3] at h1
        rw [Bool.not_false] at h1
        rw [h4, if_neg (by decide)]
        clear h3 h4 a1 a2
        refine go3 ?_
        trivial
    · have b2 : (200 : Int) < (wide t : Int) := by omega
      have h4 : may t = false := by simp [may, a2]
      rw [h4, if_neg (by decide)]
      clear h4 a1 a2
      refine go3 ?_
      trivial
  · have b1 : (200 : Int) < (t.length : Int) := by omega
    have h4 : may t = false := by simp [may, a1]
    rw [h4, if_neg (by decide)]
    clear h4 a1
    refine go3 ?_
    trivial
theorem s_checks1 {t : List (List Rat)} (hl : t.length ≤ 1000000) : CP (CL F) 89 [eT t] = some (.bool (!may t)) := by
  refine CP_X (F := F) (f := 89) rfl rfl ?_
  have h := s_Check hl
  cases h1 : may t with
  | true =>
    rw [h1] at h
    rw [if_pos rfl] at h
    clear h1
    refine go3 ?_
    trivial
  | false =>
    rw [h1] at h
    rw [if_neg (by decide)] at h
    clear h1
    refine go3 ?_
    trivial
theorem s_checks {l : List (List (List Rat))} (hl : l.length ≤ 1000000) (ht : ∀ t ∈ l, t.length ≤ 1000000) : CP (CL F) 57 [.lst (em eT l)] = some (.bool (l.all may)) := by
  refine CP_X (F := F) (f := 57) rfl rfl ?_
  have h := s_ContainsTab (l := l) (g := 89) hl fun x hx => s_checks1 (ht x hx)
  have h2 : l.all may = !(l.any fun x => !may x) := by rw [List.not_any_eq_all_not]; simp
  rw [h2]
  cases h3 : l.any fun x => !may x with
  | true =>
    rw [h3] at h
    clear h2 h3 ht
    refine go3 ?_
    trivial
  | false =>
    rw [h3] at h
    clear h2 h3 ht
    refine go3 ?_
    trivial
end Go.S

end
section
set_option linter.unusedVariables false
set_option linter.unusedSimpArgs false
set_option maxRecDepth 100000
namespace Go.S
open Go Go.AM Go.RowKit Go.K
theorem CL_XE {F : Nat → Option AFunc} {f np nt : Nat} {ks : List Nat} {res : List (Nat × Option (Nat × Bool))} {body : ACode} {args : List AV} {h : Heap} {P : AV × Heap → Prop} (hf : F f = some ⟨np, nt, ks, res, body⟩) (hn : args.length = np)
    (H : X F ks (fun e s => ∃ x, FinR res x e s ∧ P x) body ⟨args0 0 args, h⟩ .done) : ∃ x, CL F f args h = some x ∧ P x := by
  obtain ⟨e, s', h1, x, ⟨he, hr⟩, hp⟩ := H
  exact ⟨x, CL_run hf hn h1 he hr, hp⟩
theorem s_Few_raw {l : List XQ} (hx : ∀ x ∈ l, x.ok) {most : Nat} (hm : most ≤ 1000000) : ∃ qs : List Rat, qs.length = min l.length most ∧ (∀ q ∈ qs, Lq q ≤ 1) ∧ ∀ h, ∃ v w g, CL F 23 [.lst (em eX l), eI most] h = some (.tup [.ref h.length v 3 0 qs.length, .ref (h.length + 1) w 3 0 qs.length], h ++ (some ⟨v, 3, em eQ qs⟩ :: some ⟨w, 3, em rQ qs⟩ :: g)) := by
  have hex : ∃ f : XQ → Rat, ∀ x ∈ l, Lq (f x) ≤ 1 ∧ CP (CL F) 34 [eX x, eI 1] = some (eQ (f x)) := by
    classical
    refine ⟨fun x => if h : x ∈ l then (s_r08_CleanX (hx x h) (m := 1) (by decide) (by decide)).choose else 0, fun x h => ?_⟩
    simp only [h, dif_pos]
    exact (s_r08_CleanX (hx x h) (m := 1) (by decide) (by decide)).choose_spec
  obtain ⟨f, hf⟩ := hex
  refine ⟨(l.take most).map f, by simp; omega, fun q hq => by
    obtain ⟨x, hx, rfl⟩ := List.mem_map.1 hq
    exact (hf x (List.mem_of_mem_take hx)).1, fun h => ?_⟩
  suffices H : ∃ x, CL F 23 [.lst (em eX l), eI most] h = some x ∧ ∃ v w g, x = (.tup [.ref h.length v 3 0 ((l.take most).map f).length, .ref (h.length + 1) w 3 0 ((l.take most).map f).length], h ++ (some ⟨v, 3, em eQ ((l.take most).map f)⟩ :: some ⟨w, 3, em rQ ((l.take most).map f)⟩ :: g)) by
    obtain ⟨x, h1, v, w, g, rfl⟩ := H
    exact ⟨v, w, g, h1⟩
  refine CL_XE (F := F) (f := 23) rfl rfl ?_
  have c1 := @cells_eX
  have c2 := @agg_eX
  have c3 := @fz_eX
  have c4 := @us_eX
  have c5 := @shut_eX
  clear hx
  refine go3 ?_
  refine X_upto (min l.length most) (fun i s => ∃ j4 j5 j9 j20 v w g, s = ⟨[(0, .lst (em eX l)), (1, eI most), (4, j4), (5, j5), (6, .ref h.length v 3 0 i), (7, .ref (h.length + 1) w 3 0 i), (8, eI i), (9, j9), (20, j20)], h ++ (some ⟨v, 3, em eQ ((l.take i).map f)⟩ :: some ⟨w, 3, em rQ ((l.take i).map f)⟩ :: g)⟩) ?_ 0 (Nat.zero_le _) _ ⟨_, _, _, _, _, _, [], rfl⟩
  rintro i s hi ⟨j4, j5, j9, j20, v, w, g, rfl⟩ rec
  have hlen : ((l.take i).map f).length = i := by simp; omega
  have ht : List.take i ((l.take i).map f) = (l.take i).map f := take_len_g _ hlen.symm
  by_cases h1 : i < l.length
  · have h1' := lt_c h1
    by_cases h2 : i < most
    · have h2' := lt_c h2
      have hi2 : i < min l.length most := by omega
      have hg0 := em_getN (f := eX) l i h1
      obtain ⟨f1, f2⟩ := hf _ (getD_mem h1)
      have k1 := s_r08_Of (q := f (l.getD i default)) (by omega)
      have hs : (l.take i).map f ++ [f (l.getD i default)] = (l.take (i + 1)).map f := by rw [take_succ_getD l i h1]; simp
      have hlim : i + 1 ≤ 2513169434916 := by omega
      have hlim2 : i < 2513169434916 := by omega
      have hw := i64_nat (n := i) (by omega)
      clear hf f1 hlen hi
      refine go3 ?_
      exact rec _ hi2 ⟨_, _, _, _, _, _, _, rfl⟩
    · have h2' : ¬ ((i : Int) < (most : Int)) := by omega
      have hi2 : i = most := by omega
      subst hi2
      clear hf rec hi h1
      refine go3 ?_
      exact ⟨_, rfl, _, _, _, rfl⟩
  · have h1' : ¬ ((i : Int) < (l.length : Int)) := by omega
    have hi2 : l.take most = l := List.take_of_length_le (by omega)
    have hi3 : l.take i = l := List.take_of_length_le (by omega)
    rw [hi3] at hlen
    have ht2 : List.take i (l.map f) = l.map f := take_len_g _ hlen.symm
    rw [hi2, hi3]
    clear hf rec hi h1 hi2 hi3
    refine go3 ?_
    exact ⟨_, rfl, _, _, _, rfl⟩
def RowAt (b : Nat) (g : Heap) (f : Rat → AV) (c : AV) (r : List Rat) (k : Nat) : Prop := ∃ v ys, c = .ref (b + k) v 3 0 r.length ∧ g[k]? = some (some ⟨v, 3, em f r ++ ys⟩)
def RowsIn (b : Nat) (g : Heap) (f : Rat → AV) (cs : List AV) (t : List (List Rat)) (ks : List Nat) : Prop :=
  cs.length = t.length ∧ ks.length = t.length ∧ ∀ i, i < t.length → RowAt b g f (cs.getD i default) (t.getD i default) (ks.getD i default)
theorem RowAt.lt {b : Nat} {g : Heap} {f : Rat → AV} {c : AV} {r : List Rat} {k : Nat} (h : RowAt b g f c r k) : k < g.length := by
  obtain ⟨v, ys, rfl, h⟩ := h
  exact (List.getElem?_eq_some_iff.1 h).1
theorem RowAt.grow {b : Nat} {g : Heap} {f : Rat → AV} {c : AV} {r : List Rat} {k : Nat} (h : RowAt b g f c r k) (g' : Heap) : RowAt b (g ++ g') f c r k := by
  obtain ⟨v, ys, h1, h2⟩ := h
  refine ⟨v, ys, h1, ?_⟩
  rw [List.getElem?_append_left (List.getElem?_eq_some_iff.1 h2).1]
  exact h2
theorem RowAt.set {b : Nat} {g : Heap} {f : Rat → AV} {c : AV} {r : List Rat} {k : Nat} (h : RowAt b g f c r k) {j : Nat} (hj : j ≠ k) (x : Option Blk) : RowAt b (g.set j x) f c r k := by
  obtain ⟨v, ys, h1, h2⟩ := h
  refine ⟨v, ys, h1, ?_⟩
  rw [List.getElem?_set_ne hj]
  exact h2
theorem getD_snoc_lt {α : Type} [Inhabited α] {l : List α} {x : α} {i : Nat} (h : i < l.length) : (l ++ [x]).getD i default = l.getD i default := by
  simp [List.getD, List.getElem?_append_left h]
theorem getD_snoc_eq {α : Type} [Inhabited α] {l : List α} {x : α} : (l ++ [x]).getD l.length default = x := by simp [List.getD]
theorem RowsIn.grow {b : Nat} {g : Heap} {f : Rat → AV} {cs : List AV} {t : List (List Rat)} {ks : List Nat} (h : RowsIn b g f cs t ks) (g' : Heap) : RowsIn b (g ++ g') f cs t ks :=
  ⟨h.1, h.2.1, fun i hi => (h.2.2 i hi).grow g'⟩
theorem RowsIn.snoc {b : Nat} {g : Heap} {f : Rat → AV} {cs : List AV} {t : List (List Rat)} {ks : List Nat} (h : RowsIn b g f cs t ks) {c : AV} {r : List Rat} {k : Nat} (h1 : RowAt b g f c r k) : RowsIn b g f (cs ++ [c]) (t ++ [r]) (ks ++ [k]) := by
  obtain ⟨a1, a2, a3⟩ := h
  refine ⟨by simp [a1], by simp [a2], fun i hi => ?_⟩
  by_cases hl : i < t.length
  · rw [getD_snoc_lt (by omega), getD_snoc_lt hl, getD_snoc_lt (by omega)]
    exact a3 i hl
  · have : i = t.length := by simp at hi; omega
    subst this
    rw [getD_snoc_eq]
    rw [← a1, getD_snoc_eq, a1, ← a2, getD_snoc_eq]
    exact h1
theorem RowsIn.lt {b : Nat} {g : Heap} {f : Rat → AV} {cs : List AV} {t : List (List Rat)} {ks : List Nat} (h : RowsIn b g f cs t ks) : ∀ k ∈ ks, k < g.length := fun k hk => by
  obtain ⟨i, hi, rfl⟩ := List.getElem_of_mem hk
  have := (h.2.2 i (by have := h.2.1; omega)).lt
  rw [List.getD_eq_getElem?_getD, List.getElem?_eq_getElem hi] at this
  exact this
abbrev eXL (l : List XQ) : AV := .lst (em eX l)
theorem s_Few12_raw {t : List (List XQ)} (hx : ∀ l ∈ t, ∀ x ∈ l, x.ok) {most : Nat} (hm : most ≤ 1000000) : ∃ qs : List (List Rat), qs.length = min t.length most ∧ (∀ r ∈ qs, r.length ≤ most ∧ ∀ q ∈ r, Lq q ≤ 1) ∧
    ∀ h, ∃ v w cs ds ks ls g, CL F 8 [.lst (em eXL t), eI most] h = some (.tup [.ref h.length v 1 0 qs.length, .ref (h.length + 1) w 1 0 qs.length], h ++ (some ⟨v, 1, cs⟩ :: some ⟨w, 1, ds⟩ :: g)) ∧
      RowsIn (h.length + 2) g eQ cs qs ks ∧ RowsIn (h.length + 2) g rQ ds qs ls ∧ (ks ++ ls).Nodup := by
  have hex : ∃ f : List XQ → List Rat, ∀ l ∈ t, (f l).length = min l.length most ∧ (∀ q ∈ f l, Lq q ≤ 1) ∧ ∀ h, ∃ v w g, CL F 23 [eXL l, eI most] h = some (.tup [.ref h.length v 3 0 (f l).length, .ref (h.length + 1) w 3 0 (f l).length], h ++ (some ⟨v, 3, em eQ (f l)⟩ :: some ⟨w, 3, em rQ (f l)⟩ :: g)) := by
    classical
    refine ⟨fun l => if h : l ∈ t then (s_Few_raw (hx l h) hm).choose else [], fun l h => ?_⟩
    simp only [h, dif_pos]
    exact (s_Few_raw (hx l h) hm).choose_spec
  obtain ⟨f, hf⟩ := hex
  refine ⟨(t.take most).map f, by simp; omega, fun r hr => ?_, fun h => ?_⟩
  · obtain ⟨l, hl, rfl⟩ := List.mem_map.1 hr
    obtain ⟨h1, h2, _⟩ := hf l (List.mem_of_mem_take hl)
    exact ⟨by omega, h2⟩
  suffices H : ∃ x, CL F 8 [.lst (em eXL t), eI most] h = some x ∧ ∃ v w cs ds ks ls g, x = (.tup [.ref h.length v 1 0 ((t.take most).map f).length, .ref (h.length + 1) w 1 0 ((t.take most).map f).length], h ++ (some ⟨v, 1, cs⟩ :: some ⟨w, 1, ds⟩ :: g)) ∧
      RowsIn (h.length + 2) g eQ cs ((t.take most).map f) ks ∧ RowsIn (h.length + 2) g rQ ds ((t.take most).map f) ls ∧ (ks ++ ls).Nodup by
    obtain ⟨x, h1, v, w, cs, ds, ks, ls, g, rfl, h2⟩ := H
    exact ⟨v, w, cs, ds, ks, ls, g, h1, h2⟩
  refine CL_XE (F := F) (f := 8) rfl rfl ?_
  clear hx
  refine go3 ?_
  refine X_upto (min t.length most) (fun i s => ∃ j4 j5 j9 j10 j21 v w cs ds ks ls g, RowsIn (h.length + 2) g eQ cs ((t.take i).map f) ks ∧ RowsIn (h.length + 2) g rQ ds ((t.take i).map f) ls ∧ (ks ++ ls).Nodup ∧
    s = ⟨[(0, .lst (em eXL t)), (1, eI most), (4, j4), (5, j5), (6, .ref h.length v 1 0 i), (7, .ref (h.length + 1) w 1 0 i), (8, eI i), (9, j9), (10, j10), (21, j21)], h ++ (some ⟨v, 1, cs⟩ :: some ⟨w, 1, ds⟩ :: g)⟩) ?_ 0 (Nat.zero_le _) _
    ⟨_, _, _, _, _, _, _, [], [], [], [], [], ⟨rfl, rfl, fun i hi => by simp at hi⟩, ⟨rfl, rfl, fun i hi => by simp at hi⟩, by simp, rfl⟩
  rintro i s hi ⟨j4, j5, j9, j10, j21, v, w, cs, ds, ks, ls, g, R1, R2, R3, rfl⟩ rec
  have hlen : ((t.take i).map f).length = i := by simp; omega
  have l1 : cs.length = i := by rw [R1.1, hlen]
  have l2 : ds.length = i := by rw [R2.1, hlen]
  have ht1 : List.take i cs = cs := take_len_g _ l1.symm
  have ht2 : List.take i ds = ds := take_len_g _ l2.symm
  have ht3 : sub cs 0 i = cs := by unfold sub; rw [List.drop_zero]; exact ht1
  have ht4 : sub ds 0 i = ds := by unfold sub; rw [List.drop_zero]; exact ht2
  by_cases h1 : i < t.length
  · have h1' := lt_c h1
    by_cases h2 : i < most
    · have h2' := lt_c h2
      have hi2 : i < min t.length most := by omega
      have hg0 := em_getN (f := eXL) t i h1
      obtain ⟨f1, f2, f3⟩ := hf _ (getD_mem h1)
      obtain ⟨v', w', g', f4⟩ := f3 (h ++ (some ⟨v, 1, cs⟩ :: some ⟨w, 1, ds⟩ :: g))
      have hs : (t.take i).map f ++ [f (t.getD i default)] = (t.take (i + 1)).map f := by rw [take_succ_getD t i h1]; simp
      have hlim : i + 1 ≤ 5864062014805 := by omega
      have hlim2 : i < 5864062014805 := by omega
      have hw := i64_nat (n := i) (by omega)
      generalize hr : f (t.getD i default) = r at *
      clear hf f1 f2 f3 hlen hi
      refine go3 ?_
      refine rec _ hi2 ⟨_, _, _, _, _, _, _, _, _, ks ++ [g.length], ls ++ [g.length + 1], _, ?_, ?_, ?_, rfl⟩
      · rw [← hs]
        refine (R1.grow _).snoc ?_
        refine ⟨v', [], by congr 1; omega, ?_⟩
        rw [get_app0, List.append_nil]
        rfl
      · rw [← hs]
        refine (R2.grow _).snoc ?_
        refine ⟨w', [], by congr 1; omega, ?_⟩
        rw [get_app, List.append_nil]
        rfl
      · have q1 := R1.lt
        have q2 := R2.lt
        rw [List.nodup_append] at R3 ⊢
        obtain ⟨n1, n2, n3⟩ := R3
        refine ⟨?_, ?_, ?_⟩
        · rw [List.nodup_append]
          exact ⟨n1, by simp, fun a ha b hb => by have := q1 a ha; simp at hb; omega⟩
        · rw [List.nodup_append]
          exact ⟨n2, by simp, fun a ha b hb => by have := q2 a ha; simp at hb; omega⟩
        · intro a ha b hb
          simp only [List.mem_append, List.mem_singleton] at ha hb
          rcases ha with ha | rfl
          · rcases hb with hb | rfl
            · exact n3 a ha b hb
            · have := q1 a ha; omega
          · rcases hb with hb | rfl
            · have := q2 b hb; omega
            · omega
    · have h2' : ¬ ((i : Int) < (most : Int)) := by omega
      have hi2 : i = most := by omega
      subst hi2
      clear hf rec hi h1
      refine go3 ?_
      exact ⟨_, rfl, _, _, _, _, _, _, _, rfl, R1, R2, R3⟩
  · have h1' : ¬ ((i : Int) < (t.length : Int)) := by omega
    have hi2 : t.take most = t := List.take_of_length_le (by omega)
    have hi3 : t.take i = t := List.take_of_length_le (by omega)
    rw [hi3] at hlen R1 R2
    rw [hi2]
    clear hf rec hi h1 hi2 hi3
    refine go3 ?_
    exact ⟨_, rfl, _, _, _, _, _, _, _, rfl, R1, R2, R3⟩
theorem mapM_some {α β : Type} {F : α → Option β} {G : α → β} : ∀ (l : List α), (∀ x ∈ l, F x = some (G x)) → l.mapM F = some (l.map G) := by
  intro l
  induction l with
  | nil => intro _; rfl
  | cons x l ih =>
    intro h
    rw [List.mapM_cons, h x (List.mem_cons_self ..), ih fun y hy => h y (List.mem_cons_of_mem _ hy)]
    rfl
theorem RowAt.frz {b : Nat} {g H : Heap} {f : Rat → AV} {c : AV} {r : List Rat} {k : Nat} (h : RowAt b g f c r k) (hf : ∀ x, plain1 (f x) = true) (hH : H[b + k]? = g[k]?) (n : Nat) : frz H (n + 3) c = some (.lst (em f r)) := by
  obtain ⟨v, ys, rfl, h2⟩ := h
  show (blk H (b + k) v).bind (fun b => ((sub b.xs 0 r.length).mapM (Go.AM.frz H (n + 2))).map AV.lst) = _
  have h3 : blk H (b + k) v = some ⟨v, 3, em f r ++ ys⟩ := by
    unfold blk
    rw [hH, h2]
    exact if_pos rfl
  rw [h3]
  have h4 : sub (em f r ++ ys) 0 r.length = em f r := by
    unfold sub
    rw [List.drop_zero, List.take_left' (by simp [em])]
  show ((sub (em f r ++ ys) 0 r.length).mapM (Go.AM.frz H (n + 2))).map AV.lst = _
  rw [h4, mapM_some (G := id) _ fun x hx => by
    obtain ⟨q, _, rfl⟩ := List.mem_map.1 hx
    exact (frz_plain1 (hf q)).1]
  simp
theorem RowsIn.frz {b : Nat} {g H : Heap} {f : Rat → AV} {cs : List AV} {t : List (List Rat)} {ks : List Nat} (h : RowsIn b g f cs t ks) (hf : ∀ x, plain1 (f x) = true) (hH : ∀ k, H[b + k]? = g[k]?) (n : Nat) : cs.mapM (frz H (n + 3)) = some (em (fun r => .lst (em f r)) t) := by
  obtain ⟨h1, h2, h3⟩ := h
  have key : ∀ (cs : List AV) (t : List (List Rat)), cs.length = t.length → (∀ i, i < t.length → Go.AM.frz H (n + 3) (cs.getD i default) = some (.lst (em f (t.getD i default)))) → cs.mapM (Go.AM.frz H (n + 3)) = some (em (fun r => .lst (em f r)) t) := by
    intro cs
    induction cs with
    | nil =>
      intro t ht _
      cases t with
      | nil => rfl
      | cons r t => simp at ht
    | cons c cs ih =>
      intro t ht hi
      cases t with
      | nil => simp at ht
      | cons r t =>
        have a0 := hi 0 (by simp)
        have a1 := ih t (by simpa using ht) fun i hi' => hi (i + 1) (by simp; omega)
        rw [List.mapM_cons]
        rw [show Go.AM.frz H (n + 3) c = some (.lst (em f r)) from a0, a1]
        rfl
  exact key cs t h1 fun i hi => (h3 i hi).frz hf (hH _) n
theorem fz_rows2 {h : Heap} {v w : Nat} {cs ds : List AV} {g : Heap} {t : List (List Rat)} {ks ls : List Nat} (R1 : RowsIn (h.length + 2) g eQ cs t ks) (R2 : RowsIn (h.length + 2) g rQ ds t ls) :
    fz (h ++ (some ⟨v, 1, cs⟩ :: some ⟨w, 1, ds⟩ :: g)) (.tup [.ref h.length v 1 0 t.length, .ref (h.length + 1) w 1 0 t.length]) = some (.tup [eT t, rT t]) := by
  have hH : ∀ k, (h ++ (some ⟨v, 1, cs⟩ :: some ⟨w, 1, ds⟩ :: g))[h.length + 2 + k]? = g[k]? := fun k => by
    rw [Nat.add_assoc, get_app, show 2 + k = k + 1 + 1 by omega]
    rfl
  have a1 := R1.frz (fun x => E_eQ.pl x) hH 2
  have a2 := R2.frz (fun x => E_rQ.pl x) hH 2
  have b1 : blk (h ++ (some ⟨v, 1, cs⟩ :: some ⟨w, 1, ds⟩ :: g)) h.length v = some ⟨v, 1, cs⟩ := by
    unfold blk
    rw [get_app0]
    exact if_pos rfl
  have b2 : blk (h ++ (some ⟨v, 1, cs⟩ :: some ⟨w, 1, ds⟩ :: g)) (h.length + 1) w = some ⟨w, 1, ds⟩ := by
    unfold blk
    rw [get_app]
    exact if_pos rfl
  generalize h ++ (some ⟨v, 1, cs⟩ :: some ⟨w, 1, ds⟩ :: g) = H at *
  have c1 : sub cs 0 t.length = cs := by unfold sub; rw [List.drop_zero]; exact List.take_of_length_le (by rw [R1.1]; omega)
  have c2 : sub ds 0 t.length = ds := by unfold sub; rw [List.drop_zero]; exact List.take_of_length_le (by rw [R2.1]; omega)
  have d1 : frz H 6 (.ref h.length v 1 0 t.length) = some (eT t) := by
    show (blk H h.length v).bind (fun b => ((sub b.xs 0 t.length).mapM (Go.AM.frz H 5)).map AV.lst) = _
    rw [b1]
    show ((sub cs 0 t.length).mapM (Go.AM.frz H 5)).map AV.lst = _
    rw [c1, a1]
    rfl
  have d2 : frz H 6 (.ref (h.length + 1) w 1 0 t.length) = some (rT t) := by
    show (blk H (h.length + 1) w).bind (fun b => ((sub b.xs 0 t.length).mapM (Go.AM.frz H 5)).map AV.lst) = _
    rw [b2]
    show ((sub ds 0 t.length).mapM (Go.AM.frz H 5)).map AV.lst = _
    rw [c2, a2]
    rfl
  show ([AV.ref h.length v 1 0 t.length, .ref (h.length + 1) w 1 0 t.length].mapM (Go.AM.frz H 6)).map AV.tup = _
  rw [List.mapM_cons, d1, List.mapM_cons, d2]
  rfl
theorem s_Few12 {t : List (List XQ)} (hx : ∀ l ∈ t, ∀ x ∈ l, x.ok) {most : Nat} (hm : most ≤ 1000000) : ∃ qs : List (List Rat), qs.length = min t.length most ∧ (∀ r ∈ qs, r.length ≤ most ∧ ∀ q ∈ r, Lq q ≤ 1) ∧
    CP (CL F) 8 [.lst (em eXL t), eI most] = some (.tup [eT qs, rT qs]) := by
  obtain ⟨qs, h1, h2, h3⟩ := s_Few12_raw hx hm
  refine ⟨qs, h1, h2, ?_⟩
  obtain ⟨v, w, cs, ds, ks, ls, g, h4, R1, R2, _⟩ := h3 []
  exact CP_raw h4 (fz_rows2 (h := []) R1 R2)
end Go.S

end
section
set_option linter.unusedVariables false
set_option linter.unusedSimpArgs false
set_option maxRecDepth 100000
namespace Go.Proofs.YtpmbcdakpmceiaaGreat.R
open Go Go.AM Go.S Go.RowKit Go.K Go.Proofs
theorem rdT : Rd Tryz.prog 22 (fun l : List (List XQ) => [.lst (em eXL l)]) fun l => ∀ r ∈ l, ∀ x ∈ r, x.ok :=
  (rd_slice Tryz.underlying22 rdR eXL (fun _ => rfl) (s := 1) (by kernel_rfl) (fun _ => rfl) (by decide)).map id (fun _ => rfl) fun l h => h.1
end Go.Proofs.YtpmbcdakpmceiaaGreat.R

end
section
set_option linter.unusedVariables false
set_option linter.unusedSimpArgs false
set_option maxRecDepth 100000
namespace Go.S
open Go Go.AM Go.RowKit Go.K
theorem getD_inj' {α : Type} [Inhabited α] {l r : List α} {i : Nat} (hne : l.getD i default ≠ r.getD i default) : l ≠ r := fun e => hne (by rw [e])
theorem s_Is12 {a q : List (List Rat)} (ha : a.length ≤ 1000000) (h0 : ∀ r ∈ a, r.length ≤ 1000000 ∧ ∀ x ∈ r, Lq x < 100000000) (h1 : ∀ r ∈ q, ∀ x ∈ r, Lq x < 100000000) : CP (CL F) 15 [eT a, rT q] = some (eI (if a = q then 1 else 0)) := by
  refine CP_X (F := F) (f := 15) rfl rfl ?_
  by_cases hl : a.length = q.length
  · have hl1 : ¬ ((a.length : Int) ≠ (q.length : Int)) := by omega
    have hl2 : (a.length : Int) = (q.length : Int) := by omega
    refine go3 ?_
    refine X_upto a.length (fun i s => ∃ j4 j14 j26 g, (a.take i = q.take i) ∧ s = ⟨[(0, eT a), (1, rT q), (4, j4), (5, eI i), (10, .bool false), (14, j14), (26, j26)], g⟩) ?_ 0 (Nat.zero_le _) _ ⟨_, _, _, _, by simp, rfl⟩
    rintro i s hi ⟨j4, j14, j26, g, heq, rfl⟩ rec
    by_cases hlt : i < a.length
    · have hlt1 : (i : Int) < (q.length : Int) := by omega
      have hlt2 : (i : Int) < (a.length : Int) := by omega
      have g1 := em_getN (f := eR) a i (by omega)
      have g2 := em_getN (f := rR) q i (by omega)
      have m1 := h0 _ (getD_mem (l := a) (i := i) (by omega))
      have k1 := s_Is (q := q.getD i default) m1.1 m1.2 (h1 _ (getD_mem (l := q) (i := i) (by omega)))
      clear m1
      by_cases hx : a.getD i default = q.getD i default
      · rw [if_pos hx] at k1
        have hnext : a.take (i + 1) = q.take (i + 1) := by rw [take_succ_getD a i hlt, take_succ_getD q i (by omega), heq, hx]
        have hw := i64_nat (n := i) (by omega)
        clear hx heq h0 h1
        refine go3 ?_
        exact rec _ hlt ⟨_, _, _, _, hnext, rfl⟩
      · rw [if_neg hx] at k1
        have hne : (if a = q then (1 : Int) else 0) = 0 := if_neg (getD_inj' hx)
        rw [hne]
        clear hx heq rec h0 h1 hne
        refine go3 ?_
        trivial
    · have hl3 : ¬ ((i : Int) < (q.length : Int)) := by omega
      have he : (if a = q then (1 : Int) else 0) = 1 := by
        rw [List.take_of_length_le (by omega), List.take_of_length_le (by omega)] at heq
        exact if_pos heq
      rw [he]
      clear heq rec h0 h1 he
      refine go3 ?_
      trivial
  · have hl1 : (a.length : Int) ≠ (q.length : Int) := by omega
    have hl2 : ¬ (a.length : Int) = (q.length : Int) := by omega
    have he : (if a = q then (1 : Int) else 0) = 0 := if_neg fun e => hl (by rw [e])
    rw [he]
    clear h0 h1 he
    refine go3 ?_
    trivial
theorem s_even {q : List (List Rat)} (hq : q.length ≤ 1000000) : CP (CL F) 12 [rT q] = some (.bool (even q)) := by
  refine CP_X (F := F) (f := 12) rfl rfl ?_
  refine go3 ?_
  refine X_upto q.length (fun i s => ∃ j2 j7 j19 g, (∀ j, j < i → (q.getD j default).length = wide q) ∧ s = ⟨[(0, rT q), (2, j2), (3, eI i), (7, j7), (19, j19)], g⟩) ?_ 0 (Nat.zero_le _) _ ⟨_, _, _, _, fun j hj => by omega, rfl⟩
  rintro i s hi ⟨j2, j7, j19, g, hall, rfl⟩ rec
  by_cases hlt : i < q.length
  · have hlt2 := lt_c hlt
    have g1 := em_getN (f := rR) q i hlt
    have g0 := em_getN (f := rR) q 0 (by omega)
    have hw0 : (q.getD 0 default).length = wide q := rfl
    have hpos : (0 : Int) < (q.length : Int) := by omega
    by_cases hx : (q.getD i default).length = wide q
    · have hnext : ∀ j, j < i + 1 → (q.getD j default).length = wide q := fun j hj => by
        rcases Nat.lt_or_ge j i with h | h
        · exact hall j h
        · have : j = i := by omega
          subst this; exact hx
      have hx1 : ¬ (((q.getD i default).length : Int) ≠ (wide q : Int)) := by omega
      have hx2 : ((q.getD i default).length : Int) = (wide q : Int) := by omega
      have hw := i64_nat (n := i) (by omega)
      generalize hr : q.getD i default = r at *
      clear hall hx
      refine go3 ?_
      exact rec _ hlt ⟨_, _, _, _, hnext, rfl⟩
    · have hx1 : (((q.getD i default).length : Int) ≠ (wide q : Int)) := by omega
      have hx2 : ¬ ((q.getD i default).length : Int) = (wide q : Int) := by omega
      have he : even q = false := by
        rw [← Bool.not_eq_true, even_iff]
        exact fun h => hx (h _ (getD_mem hlt))
      generalize hr : q.getD i default = r at *
      clear hall hx rec
      refine go3 ?_
      trivial
  · have hl3 : ¬ ((i : Int) < (q.length : Int)) := by omega
    have he : even q = true := by
      rw [even_iff]
      intro r hr
      obtain ⟨j, hj, rfl⟩ := List.getElem_of_mem hr
      have := hall j (by omega)
      rwa [List.getD_eq_getElem?_getD, List.getElem?_eq_getElem hj] at this
    clear hall rec
    refine go3 ?_
    trivial
end Go.S

end
section
set_option linter.unusedVariables false
set_option linter.unusedSimpArgs false
set_option maxRecDepth 100000
namespace Go.S
open Go Go.AM Go.RowKit Go.K
def runsTrue (F : Nat → Option AFunc) (n f : Nat) : Bool := match callN F n f [] [] with
  | some (.bool b, _) => b
  | _ => false
theorem CP_run {F : Nat → Option AFunc} {f : Nat} (n : Nat) (h : runsTrue F n f = true) : CP (CL F) f [] = some (.bool true) := by
  unfold runsTrue at h
  split at h
  · next b g hb =>
    subst h
    exact CP_raw (CL_of n hb) rfl
  · cases h
theorem s_works12 : CP (CL F) 16 [] = some (.bool true) := CP_run 300 (by decide +kernel)
end Go.S

end
section
set_option linter.unusedVariables false
set_option linter.unusedSimpArgs false
set_option maxRecDepth 100000
namespace Go.S
open Go Go.AM Go.RowKit Go.K
def colR (t : List (List Rat)) (j : Nat) : List Rat := t.map fun r => r.getD j default
theorem s_Column {t : List (List Rat)} {j : Nat} (hl : t.length ≤ 1000000) (hj : ∀ r ∈ t, j < r.length) : CP (CL F) 59 [rT t, eI j] = some (rR (colR t j)) := by
  refine CP_X (F := F) (f := 59) rfl rfl ?_
  refine go3 ?_
  refine X_up t.length (fun i s => ∃ j4 j11 v g, s = ⟨[(0, rT t), (1, eI j), (4, j4), (5, .ref 0 v 3 0 i), (6, eI i), (11, j11)], some ⟨v, 3, em rQ (colR (t.take i) j)⟩ :: g⟩) ?_ ?_ 0 (Nat.zero_le _) _ ⟨_, _, _, [], rfl⟩
  · rintro i s hi ⟨j4, j11, v, g, rfl⟩ rec
    have hlt := lt_c hi
    have g0 := em_getN (f := rR) t i hi
    have hr := hj _ (getD_mem hi)
    have hs : colR (t.take i) j ++ [(t.getD i default).getD j default] = colR (t.take (i + 1)) j := by rw [take_succ_getD t i hi]; simp [colR]
    have hlen : (colR (t.take i) j).length = i := by simp [colR]; omega
    have ht : List.take i (colR (t.take i) j) = colR (t.take i) j := take_len_g _ hlen.symm
    generalize t.getD i default = r at *
    have g1 := em_getN (f := rQ) r j hr
    have hlim : i < 2513169434916 := by omega
    have hw := i64_nat (n := i) (by omega)
    clear hj hlen
    refine go3 ?_
    exact rec _ ⟨_, _, _, _, rfl⟩
  · rintro s ⟨j4, j11, v, g, rfl⟩
    have hlt : ¬ ((t.length : Int) < (t.length : Int)) := nlt_c
    have ht : List.take t.length (colR t j) = colR t j := take_len_g _ (by simp [colR])
    clear hj
    refine go3 ?_
    trivial
theorem fz_tab {H : Heap} {b id v : Nat} {cs : List AV} {g : Heap} {t : List (List Rat)} {ks : List Nat} (R : RowsIn b g eQ cs t ks) (hH : ∀ k, H[b + k]? = g[k]?) (hb : H[id]? = some (some ⟨v, 1, cs⟩)) (m : Nat) : frz H (m + 5) (.ref id v 1 0 t.length) = some (eT t) := by
  have a1 := R.frz (fun x => E_eQ.pl x) hH (m + 1)
  have b1 : blk H id v = some ⟨v, 1, cs⟩ := by
    unfold blk
    rw [hb]
    exact if_pos rfl
  have c1 : sub cs 0 t.length = cs := by unfold sub; rw [List.drop_zero]; exact List.take_of_length_le (by rw [R.1]; omega)
  show (blk H id v).bind (fun b => ((sub b.xs 0 t.length).mapM (Go.AM.frz H (m + 4))).map AV.lst) = _
  rw [b1]
  show ((sub cs 0 t.length).mapM (Go.AM.frz H (m + 4))).map AV.lst = _
  rw [c1, a1]
  rfl
def ownC (b : Nat) (c j : Nat) : List AV := (List.range j).map fun k => AV.ref (b + (k + 1)) 0 3 0 c
def ownB (t : List (List Rat)) (j : Nat) : Heap := (List.range j).map fun k => some (⟨0, 3, em eQ (t.getD k default)⟩ : Blk)
theorem ownC_len (b c j : Nat) : (ownC b c j).length = j := by simp [ownC]
theorem ownB_len (t : List (List Rat)) (j : Nat) : (ownB t j).length = j := by simp [ownB]
theorem ownC_succ (b c j : Nat) : ownC b c (j + 1) = ownC b c j ++ [AV.ref (b + (j + 1)) 0 3 0 c] := by simp [ownC, List.range_succ]
theorem ownB_succ (t : List (List Rat)) (j : Nat) : ownB t (j + 1) = ownB t j ++ [some ⟨0, 3, em eQ (t.getD j default)⟩] := by simp [ownB, List.range_succ]
theorem s_own_raw {t : List (List Rat)} {c : Nat} (hl : t.length ≤ 1000000) (hc : 0 < c) (hc2 : c ≤ 1000000) (ht : ∀ r ∈ t, r.length = c) (h : Heap) :
    CL F 58 [eT t] h = some (.ref h.length 0 1 0 t.length, h ++ (some ⟨0, 1, ownC h.length c t.length⟩ :: ownB t t.length)) := by
  refine CL_X (F := F) (f := 58) rfl rfl ?_
  have h2 : t.length ≤ 11728124029610 := by omega
  refine go3 ?_
  refine X_up t.length (fun i s => ∃ j4 j5 j12, s = ⟨[(0, eT t), (2, .nil), (3, .ref h.length 0 1 0 t.length), (4, j4), (5, j5), (9, eT t), (10, eI t.length), (11, eI i), (12, j12)], h ++ (some ⟨0, 1, ownC h.length c i ++ List.replicate (t.length - i) .nil⟩ :: ownB t i)⟩) ?_ ?_ 0 (Nat.zero_le _) _ ⟨_, _, _, rfl⟩
  · rintro i s hi ⟨j4, j5, j12, rfl⟩ rec
    have hlt := lt_c hi
    have g1 := em_getN (f := eR) t i hi
    have hr := ht _ (getD_mem hi)
    have k1 := fun h => s_clone' (l := t.getD i default) (by omega) h (fun e => by rw [e] at hr; simp at hr; omega)
    simp only [ownC_succ, ownB_succ] at rec
    have hb := ownB_len t i
    obtain ⟨m, hm⟩ : ∃ m, t.length - i = m + 1 := ⟨t.length - i - 1, by omega⟩
    have a1 : (ownC h.length c i ++ List.replicate (t.length - i) AV.nil)[i]? = some .nil := by rw [hm, List.getElem?_append_right (by rw [ownC_len]; omega), ownC_len]; simp
    have a2 : (ownC h.length c i ++ List.replicate (t.length - i) AV.nil).set i (AV.ref (h.length + (i + 1)) 0 3 0 c) = ownC h.length c i ++ [AV.ref (h.length + (i + 1)) 0 3 0 c] ++ List.replicate (t.length - (i + 1)) .nil := by
      rw [hm, List.set_append_right _ _ (by rw [ownC_len]; omega), ownC_len, show t.length - (i + 1) = m by omega, Nat.sub_self]
      simp [List.replicate_succ]
    generalize t.getD i default = r at *
    have hw := i64_nat (n := i) (by omega)
    clear hm ht hc hc2
    refine go3 ?_
    exact rec _ ⟨eI i, eR r, .bool true, by simp⟩
  · rintro s ⟨j4, j5, j12, rfl⟩
    have hlt : ¬ ((t.length : Int) < (t.length : Int)) := nlt_c
    have he : List.replicate (t.length - t.length) AV.nil = [] := by simp
    clear ht
    refine go3 ?_
    trivial
theorem s_own_raw0 {t : List (List Rat)} (hl : t.length ≤ 1000000) (ht : ∀ r ∈ t, r = []) (h : Heap) :
    CL F 58 [eT t] h = some (.ref h.length 0 1 0 t.length, h ++ [some ⟨0, 1, List.replicate t.length .zero⟩]) := by
  refine CL_X (F := F) (f := 58) rfl rfl ?_
  have h2 : t.length ≤ 11728124029610 := by omega
  have k1 := fun h => s_clone_nil h
  have e0 : em eQ [] = [] := rfl
  refine go3 ?_
  refine X_up t.length (fun i s => ∃ j4 j5 j12, s = ⟨[(0, eT t), (2, .nil), (3, .ref h.length 0 1 0 t.length), (4, j4), (5, j5), (9, eT t), (10, eI t.length), (11, eI i), (12, j12)], h ++ [some ⟨0, 1, List.replicate i .zero ++ List.replicate (t.length - i) .nil⟩]⟩) ?_ ?_ 0 (Nat.zero_le _) _ ⟨_, _, _, rfl⟩
  · rintro i s hi ⟨j4, j5, j12, rfl⟩ rec
    have hlt := lt_c hi
    have g1 := em_getN (f := eR) t i hi
    rw [ht _ (getD_mem hi)] at g1
    obtain ⟨m, hm⟩ : ∃ m, t.length - i = m + 1 := ⟨t.length - i - 1, by omega⟩
    have a1 : (List.replicate i AV.zero ++ List.replicate (t.length - i) AV.nil)[i]? = some .nil := by rw [hm, List.getElem?_append_right (by simp)]; simp
    have a2 : (List.replicate i AV.zero ++ List.replicate (t.length - i) AV.nil).set i AV.zero = List.replicate (i + 1) AV.zero ++ List.replicate (t.length - (i + 1)) .nil := by
      rw [hm, List.set_append_right _ _ (by simp), show t.length - (i + 1) = m by omega, List.length_replicate, Nat.sub_self]
      rw [List.replicate_succ (n := m), List.set_cons_zero, List.replicate_succ' (n := i), List.append_assoc]
      rfl
    have hw := i64_nat (n := i) (by omega)
    clear hm ht
    refine go3 ?_
    exact rec _ ⟨_, _, _, rfl⟩
  · rintro s ⟨j4, j5, j12, rfl⟩
    have hlt : ¬ ((t.length : Int) < (t.length : Int)) := nlt_c
    have he : List.replicate (t.length - t.length) AV.nil = [] := by simp
    clear ht
    refine go3 ?_
    trivial
theorem own_rows {t : List (List Rat)} {c b : Nat} (ht : ∀ r ∈ t, r.length = c) : RowsIn (b + 1) (ownB t t.length) eQ (ownC b c t.length) t (List.range t.length) := by
  refine ⟨ownC_len _ _ _, by simp, fun i hi => ?_⟩
  have e1 : (ownC b c t.length).getD i default = AV.ref (b + (i + 1)) 0 3 0 c := by simp [ownC, List.getD, hi]
  have e3 : (List.range t.length).getD i default = i := by simp [List.getD, hi]
  rw [e1, e3]
  refine ⟨0, [], by rw [ht _ (getD_mem hi)]; congr 1; omega, by simp [ownB, hi]⟩
theorem s_own {t : List (List Rat)} {c : Nat} (hl : t.length ≤ 1000000) (hc2 : c ≤ 1000000) (ht : ∀ r ∈ t, r.length = c) : CP (CL F) 58 [eT t] = some (eT t) := by
  rcases Nat.eq_zero_or_pos c with rfl | hc
  · have h0 : ∀ r ∈ t, r = [] := fun r hr => List.eq_nil_of_length_eq_zero (ht r hr)
    refine CP_raw (s_own_raw0 hl h0 []) ?_
    have e : em eR t = List.replicate t.length (AV.lst []) := by
      refine List.eq_replicate_iff.2 ⟨em_len _, fun x hx => ?_⟩
      obtain ⟨r, hr, rfl⟩ := List.mem_map.1 hx
      rw [h0 r hr]; rfl
    show (((sub (List.replicate t.length AV.zero) 0 t.length).mapM (Go.AM.frz _ 6)).map AV.lst) = _
    have c1 : sub (List.replicate t.length AV.zero) 0 t.length = List.replicate t.length AV.zero := by unfold sub; rw [List.drop_zero]; exact List.take_of_length_le (by simp)
    rw [c1, mapM_some (G := fun _ => AV.lst []) _ fun x hx => by rw [List.eq_of_mem_replicate hx]; rfl]
    show some (AV.lst _) = some (AV.lst (em eR t))
    rw [e]
    simp
  · refine CP_raw (s_own_raw hl hc hc2 ht []) ?_
    exact fz_tab (H := some ⟨0, 1, ownC 0 c t.length⟩ :: ownB t t.length) (id := 0) (v := 0) (g := ownB t t.length) (own_rows (b := 0) ht) (fun k => by rw [Nat.add_comm]; rfl) rfl 2
end Go.S

end
section
set_option linter.unusedVariables false
set_option linter.unusedSimpArgs false
set_option maxRecDepth 100000
namespace Go.S
open Go Go.AM Go.RowKit Go.K
section
variable {α : Type} {n : Nat} {f g : Nat → α}
end
theorem may_spec {t : List (List Rat)} : may t = true ↔ t.length ≤ 200 ∧ wide t ≤ 200 ∧ ∀ r ∈ t, r.length = wide t := by
  unfold may
  simp only [Bool.and_eq_true, decide_eq_true_eq, even_iff, and_assoc]
end Go.S

end
section
set_option linter.unusedVariables false
set_option linter.unusedSimpArgs false
namespace Go.S
abbrev Mt := Nat → Nat → Rat
def sm : Nat → (Nat → Rat) → Rat
  | 0, _ => 0
  | n + 1, f => sm n f + f n
theorem sm_congr {n : Nat} {f g : Nat → Rat} (h : ∀ i, i < n → f i = g i) : sm n f = sm n g := by
  induction n with
  | zero => rfl
  | succ n ih => simp only [sm]; rw [ih fun i hi => h i (by omega), h n (by omega)]
def setr (A : Mt) (r : Nat) (f : Nat → Rat) : Mt := fun i c => if i = r then f c else A i c
def sw (A : Mt) (r : Nat) : Mt := fun i => A (if i = r then r + 1 else if i = r + 1 then r else i)
def swp (A : Mt) (r s : Nat) : Mt := fun i => A (if i = r then s else if i = s then r else i)
structure LinR (φ : (Nat → Rat) → Nat → Rat) : Prop where
  add : ∀ f g k c, φ (fun x => f x + k * g x) c = φ f c + k * φ g c
theorem LinR.zero {φ : (Nat → Rat) → Nat → Rat} (L : LinR φ) (c : Nat) : φ (fun _ => 0) c = 0 := by
  have h := L.add (fun _ => 0) (fun _ => 0) 1 c
  rw [show (fun x : Nat => (0 : Rat) + 1 * 0) = fun _ => 0 from by funext x; grind] at h
  grind
theorem LinR.mul {φ : (Nat → Rat) → Nat → Rat} (L : LinR φ) (f : Nat → Rat) (k : Rat) (c : Nat) : φ (fun x => k * f x) c = k * φ f c := by
  have h := L.add (fun _ => 0) f k c
  rw [show (fun x : Nat => (0 : Rat) + k * f x) = fun x => k * f x from by funext x; grind, L.zero] at h
  grind
end Go.S

end
section
set_option linter.unusedVariables false
set_option linter.unusedSimpArgs false
namespace Go.S
theorem setr_row (B : Mt) (r : Nat) (g : Nat → Rat) (i : Nat) : setr B r g i = if i = r then g else B i := by
  funext c; unfold setr; split <;> rfl
inductive Rop (n : Nat) : Mt → Mt → Rat → Prop
  | refl (A : Mt) : Rop n A A 1
  | scale {A B : Mt} {f : Rat} (r : Nat) (k : Rat) (hr : r < n) (hk : k ≠ 0) : Rop n A B f → Rop n A (setr B r fun x => k * B r x) (f * k⁻¹)
  | more {A B : Mt} {f : Rat} (r s : Nat) (k : Rat) (hr : r < n) (hs : s < n) (h : r ≠ s) : Rop n A B f → Rop n A (setr B r fun x => B r x + k * B s x) f
  | swap {A B : Mt} {f : Rat} (r s : Nat) (hr : r < n) (hs : s < n) (h : r ≠ s) : Rop n A B f → Rop n A (swp B r s) (-f)
structure Sub (P : (Nat → Rat) → Prop) : Prop where
  more : ∀ f g k, P f → P g → P fun x => f x + k * g x
  scale : ∀ f k, P f → P fun x => k * f x
theorem Rop.sub {n : Nat} {A B : Mt} {f : Rat} (H : Rop n A B f) {P : (Nat → Rat) → Prop} (S : Sub P) : (∀ i, i < n → P (A i)) ↔ (∀ i, i < n → P (B i)) := by
  induction H with
  | refl => exact Iff.rfl
  | scale r k hr hk _ ih =>
    rename_i B f _
    rw [ih]
    constructor
    · intro h i hi
      rw [setr_row]
      split
      · exact S.scale _ _ (h r hr)
      · exact h i hi
    · intro h i hi
      have h1 := h i hi
      rw [setr_row] at h1
      by_cases e : i = r
      · rw [if_pos e] at h1
        have h2 := S.scale _ k⁻¹ h1
        have : k⁻¹ * k = 1 := by rw [Rat.inv_mul_cancel _ hk]
        rw [show (fun x => k⁻¹ * (k * B r x)) = B i from by funext x; rw [e]; grind] at h2
        exact h2
      · rw [if_neg e] at h1; exact h1
  | more r s k hr hs h _ ih =>
    rename_i B f _
    rw [ih]
    constructor
    · intro h i hi
      rw [setr_row]
      split
      · exact S.more _ _ _ (h r hr) (h s hs)
      · exact h i hi
    · intro h' i hi
      have h1 := h' i hi
      rw [setr_row] at h1
      by_cases e : i = r
      · rw [if_pos e] at h1
        have h3 := h' s hs
        rw [setr_row, if_neg (Ne.symm h)] at h3
        have h2 := S.more _ _ (-k) h1 h3
        rw [show (fun x => (B r x + k * B s x) + -k * B s x) = B i from by funext x; rw [e]; grind] at h2
        exact h2
      · rw [if_neg e] at h1; exact h1
  | swap r s hr hs h _ ih =>
    rename_i B f _
    rw [ih]
    constructor
    · intro h i hi
      unfold swp
      split
      · exact h s hs
      · split
        · exact h r hr
        · exact h i hi
    · intro h' i hi
      by_cases e : i = r
      · subst e; have := h' s hs; unfold swp at this; rwa [if_neg (Ne.symm h), if_pos rfl] at this
      · by_cases e2 : i = s
        · subst e2; have := h' r hr; unfold swp at this; rwa [if_pos rfl] at this
        · have := h' i hi; unfold swp at this; rwa [if_neg e, if_neg e2] at this
def fndF (A : Mt) (j : Nat) : Nat → Nat → Nat
  | 0, a => a
  | d + 1, a => if A a j = 0 then fndF A j d (a + 1) else a
def fnd (n : Nat) (A : Mt) (j a : Nat) : Nat := fndF A j (n - a) a
theorem fndF_spec (A : Mt) (j : Nat) : ∀ d a, a ≤ fndF A j d a ∧ fndF A j d a ≤ a + d ∧ (∀ i, a ≤ i → i < fndF A j d a → A i j = 0) ∧ (fndF A j d a < a + d → A (fndF A j d a) j ≠ 0) := by
  intro d
  induction d with
  | zero => intro a; exact ⟨Nat.le_refl _, Nat.le_refl _, fun i h1 h2 => by simp only [fndF] at h2; omega, fun h => by simp only [fndF] at h; omega⟩
  | succ d ih =>
    intro a
    simp only [fndF]
    by_cases h : A a j = 0
    · rw [if_pos h]
      obtain ⟨h1, h2, h3, h4⟩ := ih (a + 1)
      refine ⟨by omega, by omega, fun i hi hi2 => ?_, fun hlt => h4 (by omega)⟩
      by_cases e : i = a
      · rw [e]; exact h
      · exact h3 i (by omega) hi2
    · rw [if_neg h]
      exact ⟨Nat.le_refl _, by omega, fun i h1 h2 => by omega, fun _ => h⟩
theorem fnd_spec {n : Nat} {A : Mt} {j a : Nat} (h : a ≤ n) : a ≤ fnd n A j a ∧ fnd n A j a ≤ n ∧ (∀ i, a ≤ i → i < fnd n A j a → A i j = 0) ∧ (fnd n A j a < n → A (fnd n A j a) j ≠ 0) := by
  obtain ⟨h1, h2, h3, h4⟩ := fndF_spec A j (n - a) a
  exact ⟨h1, by unfold fnd; omega, h3, fun hlt => h4 (by unfold fnd at hlt; omega)⟩
def elimTo (A : Mt) (a j i : Nat) : Mt := fun r x => if r < i ∧ r ≠ a then A r x - A r j * A a x else A r x
theorem elimTo_zero (A : Mt) (a j : Nat) : elimTo A a j 0 = A := by funext r x; simp [elimTo]
theorem elimTo_self (A : Mt) (a j : Nat) : elimTo A a j (a + 1) = elimTo A a j a := by
  funext r x
  unfold elimTo
  by_cases h : r < a
  · rw [if_pos (show r < a + 1 ∧ r ≠ a by omega), if_pos (show r < a ∧ r ≠ a by omega)]
  · rw [if_neg (show ¬ (r < a ∧ r ≠ a) by omega), if_neg (by omega)]
theorem elimTo_succ (A : Mt) {a j i : Nat} (h : i ≠ a) : elimTo A a j (i + 1) = setr (elimTo A a j i) i fun x => elimTo A a j i i x + -(A i j) * elimTo A a j i a x := by
  funext r x
  unfold setr
  by_cases e : r = i
  · subst e
    rw [if_pos rfl]
    unfold elimTo
    rw [if_pos (show r < r + 1 ∧ r ≠ a by omega)]
    show _ = (if r < r ∧ r ≠ a then _ else _) + -A r j * (if a < r ∧ a ≠ a then _ else _)
    rw [if_neg (by omega), if_neg (by omega)]
    grind
  · rw [if_neg e]
    unfold elimTo
    by_cases h1 : r < i ∧ r ≠ a
    · rw [if_pos h1, if_pos ⟨by omega, h1.2⟩]
    · rw [if_neg h1, if_neg (by omega)]
theorem elimTo_at (A : Mt) (a j i : Nat) : elimTo A a j i a = A a := by funext x; unfold elimTo; rw [if_neg (by omega)]
theorem Rop.elim {n : Nat} {A B : Mt} {f : Rat} (H : Rop n A B f) {a j : Nat} (ha : a < n) : ∀ i, i ≤ n → Rop n A (elimTo B a j i) f := by
  intro i
  induction i with
  | zero => intro _; rw [elimTo_zero]; exact H
  | succ i ih =>
    intro hi
    by_cases e : i = a
    · subst e; rw [elimTo_self]; exact ih (by omega)
    · rw [elimTo_succ _ e]
      exact .more i a _ (by omega) ha e (ih (by omega))
theorem swp_self (A : Mt) (a : Nat) : swp A a a = A := by
  funext i; unfold swp; congr 1; split
  · next h => exact h.symm
  · rfl
def pivR (A : Mt) (a k j : Nat) : Mt := setr (swp A a k) a fun x => (A k j)⁻¹ * A k x
def gstep (n j : Nat) (s : Mt × List Nat × Rat) : Mt × List Nat × Rat :=
  if fnd n s.1 j s.2.1.length = n then s else
    (elimTo (pivR s.1 s.2.1.length (fnd n s.1 j s.2.1.length) j) s.2.1.length j n, s.2.1 ++ [j], (if s.2.1.length = fnd n s.1 j s.2.1.length then s.2.2 else -s.2.2) * s.1 (fnd n s.1 j s.2.1.length) j)
theorem Rop.gstep {n j : Nat} {A : Mt} {s : Mt × List Nat × Rat} (H : Rop n A s.1 s.2.2) (h : s.2.1.length ≤ n) : Rop n A (Go.S.gstep n j s).1 (Go.S.gstep n j s).2.2 := by
  unfold Go.S.gstep
  obtain ⟨g1, g2, g3, g4⟩ := fnd_spec (n := n) (A := s.1) (j := j) (a := s.2.1.length) h
  generalize fnd n s.1 j s.2.1.length = k at *
  split
  · exact H
  · next hk =>
    have hk2 : k < n := by omega
    have hp := g4 hk2
    generalize s.2.1.length = a at *
    refine Rop.elim ?_ (by omega) n (Nat.le_refl _)
    have h1 : Rop n A (swp s.1 a k) (if a = k then s.2.2 else -s.2.2) := by
      by_cases e : a = k
      · subst e; rw [swp_self, if_pos rfl]; exact H
      · rw [if_neg e]; exact .swap a k (by omega) hk2 e H
    have h2 := Rop.scale a (s.1 k j)⁻¹ (by omega) (by
      intro e
      have := Rat.mul_inv_cancel _ hp
      rw [e] at this
      grind) h1
    rw [Rat.inv_inv] at h2
    have e : swp s.1 a k a = s.1 k := by unfold swp; rw [if_pos rfl]
    rw [e] at h2
    exact h2
structure RR (n j : Nat) (A : Mt) (piv : List Nat) : Prop where
  le : piv.length ≤ n
  lt : ∀ i, i < piv.length → piv.getD i default < j
  one : ∀ i, i < piv.length → A i (piv.getD i default) = 1
  col : ∀ i, i < piv.length → ∀ r, r < n → r ≠ i → A r (piv.getD i default) = 0
  ahead : ∀ i, i < piv.length → ∀ x, x < piv.getD i default → A i x = 0
  rest : ∀ r, piv.length ≤ r → r < n → ∀ x, x < j → A r x = 0
  mono : ∀ i i', i < i' → i' < piv.length → piv.getD i default < piv.getD i' default
theorem RR.nil (n : Nat) (A : Mt) : RR n 0 A [] := ⟨Nat.zero_le _, fun i h => by simp at h, fun i h => by simp at h, fun i h => by simp at h, fun i h => by simp at h, fun r _ _ x h => by omega, fun i i' _ h => by simp at h⟩
theorem snoc_lt {l : List Nat} {x i : Nat} (h : i < l.length) : (l ++ [x]).getD i default = l.getD i default := by simp [List.getD, List.getElem?_append_left h]
theorem snoc_at {l : List Nat} {x : Nat} : (l ++ [x]).getD l.length default = x := by simp [List.getD]
theorem RR.step {n j : Nat} {A : Mt} {piv : List Nat} {d : Rat} (H : RR n j A piv) : RR n (j + 1) (gstep n j (A, piv, d)).1 (gstep n j (A, piv, d)).2.1 := by
  unfold gstep
  obtain ⟨g1, g2, g3, g4⟩ := fnd_spec (n := n) (A := A) (j := j) (a := piv.length) H.le
  simp only
  generalize fnd n A j piv.length = k at *
  split
  · next hk =>
    subst hk
    refine ⟨H.le, fun i hi => Nat.lt_succ_of_lt (H.lt i hi), H.one, H.col, H.ahead, fun r h1 h2 x hx => ?_, H.mono⟩
    by_cases e : x = j
    · rw [e]; exact g3 r h1 h2
    · exact H.rest r h1 h2 x (by omega)
  · next hk =>
    have hk2 : k < n := by omega
    have hp := g4 hk2
    simp only
    have hpi : (A k j)⁻¹ * A k j = 1 := Rat.inv_mul_cancel _ hp
    have z0 : ∀ x, x < j → A k x = 0 := fun x hx => H.rest k g1 hk2 x hx
    have va : ∀ x, elimTo (pivR A piv.length k j) piv.length j n piv.length x = (A k j)⁻¹ * A k x := fun x => by
      rw [elimTo_at]; simp [pivR, setr]
    have vr : ∀ r, r < n → r ≠ piv.length → ∀ x, elimTo (pivR A piv.length k j) piv.length j n r x = swp A piv.length k r x - swp A piv.length k r j * ((A k j)⁻¹ * A k x) := fun r hr hne x => by
      unfold elimTo
      rw [if_pos ⟨hr, hne⟩]
      simp [pivR, setr, hne]
    generalize elimTo (pivR A piv.length k j) piv.length j n = D at *
    have sr : ∀ r, r < n → r ≠ piv.length → ∃ r', r' < n ∧ swp A piv.length k r = A r' ∧ (r < piv.length → r' = r) ∧ (piv.length ≤ r → piv.length ≤ r') ∧ ∀ i, i < piv.length → r ≠ i → r' ≠ i := fun r hr hne => by
      unfold swp
      rw [if_neg hne]
      by_cases e : r = k
      · rw [if_pos e]; exact ⟨piv.length, by omega, rfl, fun h => by omega, fun _ => Nat.le_refl _, fun i hi _ => by omega⟩
      · rw [if_neg e]; exact ⟨r, hr, rfl, fun _ => rfl, fun h => h, fun i _ h => h⟩
    have low : ∀ r, r < n → r ≠ piv.length → ∀ x, x < j → D r x = swp A piv.length k r x := fun r hr hne x hx => by
      rw [vr r hr hne x, z0 x hx]; grind
    have lowa : ∀ x, x < j → D piv.length x = 0 := fun x hx => by rw [va, z0 x hx]; grind
    refine ⟨by simp; omega, ?_, ?_, ?_, ?_, ?_, ?_⟩
    · intro i hi
      by_cases e : i < piv.length
      · rw [snoc_lt e]; have := H.lt i e; omega
      · have : i = piv.length := by simp at hi; omega
        subst this; rw [snoc_at]; omega
    · intro i hi
      by_cases e : i < piv.length
      · rw [snoc_lt e, low i (by have := H.le; omega) (by omega) _ (H.lt i e)]
        obtain ⟨r', _, h2, h3, _, _⟩ := sr i (by have := H.le; omega) (by omega)
        rw [h2, h3 e]; exact H.one i e
      · have : i = piv.length := by simp at hi; omega
        subst this; rw [snoc_at, va, hpi]
    · intro i hi r hr hne
      by_cases e : i < piv.length
      · rw [snoc_lt e]
        by_cases e2 : r = piv.length
        · rw [e2]; exact lowa _ (H.lt i e)
        · rw [low r hr e2 _ (H.lt i e)]
          obtain ⟨r', h1, h2, _, _, h5⟩ := sr r hr e2
          rw [h2]; exact H.col i e r' h1 (h5 i e hne)
      · have : i = piv.length := by simp at hi; omega
        subst this; rw [snoc_at, vr r hr hne, hpi]; grind
    · intro i hi x hx
      by_cases e : i < piv.length
      · rw [snoc_lt e] at hx
        have := H.lt i e
        rw [low i (by have := H.le; omega) (by omega) x (by omega)]
        obtain ⟨r', _, h2, h3, _, _⟩ := sr i (by have := H.le; omega) (by omega)
        rw [h2, h3 e]; exact H.ahead i e x hx
      · have : i = piv.length := by simp at hi; omega
        subst this; rw [snoc_at] at hx; exact lowa x hx
    · intro r h1 h2 x hx
      simp at h1
      by_cases e : x = j
      · rw [e, vr r h2 (by omega), hpi]; grind
      · rw [low r h2 (by omega) x (by omega)]
        obtain ⟨r', q1, q2, _, q4, _⟩ := sr r h2 (by omega)
        rw [q2]; exact H.rest r' (q4 (by omega)) q1 x (by omega)
    · intro i i' h1 h2
      simp at h2
      by_cases e : i' < piv.length
      · rw [snoc_lt e, snoc_lt (by omega)]; exact H.mono i i' h1 e
      · have : i' = piv.length := by omega
        subst this; rw [snoc_at, snoc_lt h1]; exact H.lt i h1
end Go.S

end
section
set_option linter.unusedVariables false
set_option linter.unusedSimpArgs false
namespace Go.S
def rowf (c : Nat) (f : Nat → Rat) : List Rat := (List.range c).map f
theorem rowf_len (c : Nat) (f : Nat → Rat) : (rowf c f).length = c := by simp [rowf]
theorem rowf_get {c : Nat} {f : Nat → Rat} {j : Nat} (h : j < c) : (rowf c f).getD j default = f j := by simp [rowf, List.getD, h]
theorem rowf_congr {c : Nat} {f g : Nat → Rat} (h : ∀ j, j < c → f j = g j) : rowf c f = rowf c g := List.map_congr_left fun j hj => h j (by simpa using hj)
theorem rowf_of (r : List Rat) : rowf r.length (fun j => r.getD j default) = r := by
  refine List.ext_getElem (by simp [rowf]) fun i h1 h2 => ?_
  simp [rowf, List.getD, List.getElem?_eq_getElem h2]
theorem mem_rowf {c : Nat} {f : Nat → Rat} {q : Rat} : q ∈ rowf c f ↔ ∃ j, j < c ∧ f j = q := by simp [rowf]
theorem rowf_map {c : Nat} {f : Nat → Rat} (k : Rat → Rat) : (rowf c f).map k = rowf c fun j => k (f j) := by simp [rowf]
theorem rowf_zip {c : Nat} {f g : Nat → Rat} (k : Rat → Rat → Rat) : List.zipWith k (rowf c f) (rowf c g) = rowf c fun j => k (f j) (g j) := by
  refine List.ext_getElem (by simp [rowf]) fun i h1 h2 => ?_
  simp [rowf]
def mm (m : Nat) (A B : Mt) : Mt := fun i j => sm m fun k => A i k * B k j
end Go.S

end
section
set_option linter.unusedVariables false
set_option linter.unusedSimpArgs false
set_option maxRecDepth 100000
namespace Go.S
open Go Go.AM Go.RowKit Go.K
theorem s_mAdd_may {a b : List (List Rat)} (ha : a.length ≤ 1000000) (hb : b.length ≤ 1000000) (h : (may a && may b) = false) : CP (CL F) 25 [eT a, eT b] = some (.tup [.lst [], eI 8]) := by
  refine CP_X (F := F) (f := 25) rfl rfl ?_
  have hc := s_checks (l := [a, b]) (by simp) fun t ht => by simp at ht; rcases ht with rfl | rfl <;> assumption
  rw [show [a, b].all may = false by simpa using h] at hc
  rw [show args0 0 [eT a, eT b] = [(0, eT a), (1, eT b)] from rfl]
  have f2 := em2 (f := eT) a b
  have h1 := s_Size a
  have h2 := s_Size b
  clear h
  refine go3 ?_
  trivial
theorem s_mAdd_shape {a b : List (List Rat)} (ha : may a = true) (hb : may b = true) (h : a.length ≠ b.length ∨ wide a ≠ wide b) : CP (CL F) 25 [eT a, eT b] = some (.tup [.lst [], eI 8]) := by
  refine CP_X (F := F) (f := 25) rfl rfl ?_
  have a1 := (may_spec.1 ha).1
  have b1 := (may_spec.1 hb).1
  have hk := s_checks (l := [a, b]) (by simp) fun t ht => by simp at ht; rcases ht with rfl | rfl <;> omega
  rw [show [a, b].all may = true by simp [ha, hb]] at hk
  rw [show args0 0 [eT a, eT b] = [(0, eT a), (1, eT b)] from rfl]
  have f2 := em2 (f := eT) a b
  have h1 := s_Size a
  have h2 := s_Size b
  clear ha hb
  by_cases e : a.length = b.length
  · have e1 : ((a.length : Int) = (b.length : Int)) := by omega
    have e2 : ¬ ((wide a : Int) = (wide b : Int)) := by omega
    clear h e
    refine go3 ?_
    trivial
  · have e1 : ¬ ((a.length : Int) = (b.length : Int)) := by omega
    clear h e
    refine go3 ?_
    trivial
def addT (a b : List (List Rat)) : List (List Rat) := List.zipWith addR a b
theorem addT_len {a b : List (List Rat)} (h : b.length = a.length) : (addT a b).length = a.length := by simp [addT]; omega
theorem addT_getD {a b : List (List Rat)} (h : b.length = a.length) {i : Nat} (hi : i < a.length) : (addT a b).getD i default = addR (a.getD i default) (b.getD i default) := by
  simp only [addT, List.getD_eq_getElem?_getD]
  rw [List.getElem?_eq_getElem (by simp; omega), List.getElem_zipWith, List.getElem?_eq_getElem hi, List.getElem?_eq_getElem (by omega)]
  rfl
theorem s_mAdd {a b : List (List Rat)} (ha : may a = true) (hb : may b = true) (h : b.length = a.length) (hw : wide b = wide a) {M : Nat} (hM : M ≤ 1000) (la : ∀ r ∈ a, ∀ q ∈ r, Lq q ≤ M) (lb : ∀ r ∈ b, ∀ q ∈ r, Lq q ≤ M) : CP (CL F) 25 [eT a, eT b] = some (.tup [eT (addT a b), eI 0]) := by
  refine CP_X (F := F) (f := 25) rfl rfl ?_
  obtain ⟨a1, a2, a3⟩ := may_spec.1 ha
  obtain ⟨b1, b2, b3⟩ := may_spec.1 hb
  have hk := s_checks (l := [a, b]) (by simp) fun t ht => by simp at ht; rcases ht with rfl | rfl <;> omega
  rw [show [a, b].all may = true by simp [ha, hb]] at hk
  rw [show args0 0 [eT a, eT b] = [(0, eT a), (1, eT b)] from rfl]
  have f2 := em2 (f := eT) a b
  have h1 := s_Size a
  have h2 := s_Size b
  rw [h, hw] at h2
  have h3 : a.length ≤ 11728124029610 := by omega
  have hl := addT_len h
  clear ha hb
  refine go3 ?_
  refine X_up a.length (fun i s => ∃ j11 j42 g, s = ⟨[(0, eT a), (1, eT b), (4, .nil), (5, eI 0), (6, eI a.length), (7, eI (wide a)), (8, eI a.length), (9, eI (wide a)), (10, .ref 1 0 1 0 a.length), (11, j11), (36, .bool false), (40, eI a.length), (41, eI i), (42, j42)], none :: some ⟨0, 1, em eR ((addT a b).take i) ++ List.replicate (a.length - i) .nil⟩ :: g⟩) ?_ ?_ 0 (Nat.zero_le _) _ ⟨_, _, [], rfl⟩
  · rintro i s hi ⟨j11, j42, g, rfl⟩ rec
    have hlt := lt_c hi
    have g1 := em_getN (f := eR) a i hi
    have g2 := em_getN (f := eR) b i (by omega)
    have e1 := a3 _ (getD_mem hi)
    have e2 := b3 _ (getD_mem (l := b) (i := i) (by omega))
    have v1 := s_vect_Add (r0 := a.getD i default) (rs := [b.getD i default]) (M := M) (by omega) (by simp) (fun r hr => by
      rw [List.mem_singleton] at hr; subst hr; omega) (la _ (getD_mem hi)) (fun r hr => by
      rw [List.mem_singleton] at hr; subst hr; exact lb _ (getD_mem (by omega))) (by rw [List.length_singleton]; omega)
    rw [show sumR (a.getD i default) [b.getD i default] = (addT a b).getD i default from (addT_getD h hi).symm] at v1
    obtain ⟨m, hm⟩ : ∃ m, a.length - i = m + 1 := ⟨a.length - i - 1, by omega⟩
    have hg := fill_get (f := eR) ((addT a b).take i) m .nil
    have hs := fill_set (f := eR) ((addT a b).take i) m .nil ((addT a b).getD i default)
    have hlen : ((addT a b).take i).length = i := by simp; omega
    rw [hlen] at hg hs
    rw [← hm, show m = a.length - (i + 1) by omega, ← take_succ_getD _ i (by omega)] at hs
    rw [← hm] at hg
    have f3 := em2 (f := eR) (a.getD i default) (b.getD i default)
    generalize a.getD i default = x at *
    generalize b.getD i default = y at *
    generalize (addT a b).getD i default = z at *
    have hw' := i64_nat (n := i) (by omega)
    clear hm hlen a3 b3 la lb e1 e2 hl
    refine go3 ?_
    exact rec _ ⟨_, _, _, rfl⟩
  · rintro s ⟨j11, j42, g, rfl⟩
    have hlt : ¬ ((a.length : Int) < (a.length : Int)) := nlt_c
    have he : List.replicate (a.length - a.length) AV.nil = [] := by simp
    have ht : List.take a.length (addT a b) = addT a b := take_len_g _ hl.symm
    clear a3 b3 la lb
    refine go3 ?_
    trivial
theorem s_Apply_may {t : List (List Rat)} {v : List Rat} (ht : t.length ≤ 1000000) (h : may t = false) : CP (CL F) 26 [eT t, eR v] = some (.tup [.lst [], eI 8]) := by
  refine CP_X (F := F) (f := 26) rfl rfl ?_
  have h1 := s_Size t
  have h2 := s_Check (t := t) ht
  rw [h, if_neg (by decide)] at h2
  clear h
  refine go3 ?_
  trivial
theorem s_Apply_shape {t : List (List Rat)} {v : List Rat} (h : may t = true) (hw : wide t ≠ v.length) : CP (CL F) 26 [eT t, eR v] = some (.tup [.lst [], eI 8]) := by
  refine CP_X (F := F) (f := 26) rfl rfl ?_
  have h1 := s_Size t
  have h2 := s_Check (t := t) (by have := (may_spec.1 h).1; omega)
  rw [h, if_pos rfl] at h2
  have e : ¬ ((wide t : Int) = (v.length : Int)) := by omega
  clear h hw
  refine go3 ?_
  trivial
def applyR (t : List (List Rat)) (v : List Rat) : List Rat := t.map fun r => dot r v
theorem s_Apply {t : List (List Rat)} {v : List Rat} (h : may t = true) (hw : wide t = v.length) {M : Nat} (hM : M ≤ 1000) (lt : ∀ r ∈ t, ∀ q ∈ r, Lq q ≤ M) (lv : ∀ q ∈ v, Lq q ≤ M) : CP (CL F) 26 [eT t, eR v] = some (.tup [eR (applyR t v), eI 0]) := by
  refine CP_X (F := F) (f := 26) rfl rfl ?_
  obtain ⟨a1, a2, a3⟩ := may_spec.1 h
  have h1 := s_Size t
  have h2 := s_Check (t := t) (by omega)
  rw [h, if_pos rfl] at h2
  rw [hw] at h1
  have h3 : t.length ≤ 5026338869833 := by omega
  have hl : (applyR t v).length = t.length := by simp [applyR]
  clear h
  refine go3 ?_
  refine X_up t.length (fun i s => ∃ j9 j10 j31 g, s = ⟨[(0, eT t), (1, eR v), (4, .nil), (5, eI 0), (7, eI v.length), (8, .ref 0 0 3 0 t.length), (9, j9), (10, j10), (24, .bool false), (28, eT t), (29, eI t.length), (30, eI i), (31, j31)], some ⟨0, 3, em eQ ((applyR t v).take i) ++ List.replicate (t.length - i) zQ⟩ :: g⟩) ?_ ?_ 0 (Nat.zero_le _) _ ⟨_, _, _, [], rfl⟩
  · rintro i s hi ⟨j9, j10, j31, g, rfl⟩ rec
    have hlt := lt_c hi
    have g1 := em_getN (f := eR) t i hi
    have e1 := a3 _ (getD_mem hi)
    have d1 := s_vect_Dot (a := t.getD i default) (b := v) (by omega) (by omega) (M := M) (by omega) (lt _ (getD_mem hi)) lv
    have e2 : (applyR t v).getD i default = dot (t.getD i default) v := by simp [applyR, List.getD, List.getElem?_eq_getElem hi]
    rw [← e2] at d1
    obtain ⟨m, hm⟩ : ∃ m, t.length - i = m + 1 := ⟨t.length - i - 1, by omega⟩
    have hg := fill_get (f := eQ) ((applyR t v).take i) m zQ
    have hs := fill_set (f := eQ) ((applyR t v).take i) m zQ ((applyR t v).getD i default)
    have hlen : ((applyR t v).take i).length = i := by simp; omega
    rw [hlen] at hg hs
    rw [← hm, show m = t.length - (i + 1) by omega, ← take_succ_getD _ i (by omega)] at hs
    rw [← hm] at hg
    generalize t.getD i default = x at *
    generalize (applyR t v).getD i default = z at *
    have hw' := i64_nat (n := i) (by omega)
    clear hm hlen a3 lt lv e1 e2 hl
    refine go3 ?_
    exact rec _ ⟨_, _, _, _, rfl⟩
  · rintro s ⟨j9, j10, j31, g, rfl⟩
    have hlt : ¬ ((t.length : Int) < (t.length : Int)) := nlt_c
    have he : List.replicate (t.length - t.length) zQ = [] := by simp
    have ht : List.take t.length (applyR t v) = applyR t v := take_len_g _ hl.symm
    clear a3 lt lv
    refine go3 ?_
    trivial
end Go.S

end
section
set_option linter.unusedVariables false
set_option linter.unusedSimpArgs false
set_option maxRecDepth 100000
namespace Go.S
open Go Go.AM Go.RowKit Go.K
def partsTo (r : List Rat) (b : List (List Rat)) : Nat → List (List Rat)
  | 0 => []
  | k + 1 => partsTo r b k ++ if r.getD k default = 0 then [] else [(b.getD k default).map (· * r.getD k default)]
def rowMul (r : List Rat) (b : List (List Rat)) (c : Nat) : List Rat := rowf c fun j => sm r.length fun k => r.getD k default * (b.getD k default).getD j default
def mulR (a b : List (List Rat)) : List (List Rat) := a.map fun r => rowMul r b (wide b)
theorem partsTo_len (r : List Rat) (b : List (List Rat)) : ∀ k, (partsTo r b k).length ≤ k := by
  intro k
  induction k with
  | zero => exact Nat.le_refl _
  | succ k ih =>
    show (partsTo r b k ++ _).length ≤ _
    rw [List.length_append]
    split
    · simp; omega
    · simp; omega
theorem partsTo_mem {r : List Rat} {b : List (List Rat)} {s : List Rat} : ∀ {k}, s ∈ partsTo r b k → ∃ i, i < k ∧ s = (b.getD i default).map (· * r.getD i default) := by
  intro k
  induction k with
  | zero => intro h; cases h
  | succ k ih =>
    intro h
    rcases List.mem_append.1 h with h | h
    · obtain ⟨i, hi, e⟩ := ih h
      exact ⟨i, by omega, e⟩
    · split at h
      · cases h
      · exact ⟨k, by omega, by simpa using h⟩
theorem rowf_addR (c : Nat) (f g : Nat → Rat) : addR (rowf c f) (rowf c g) = rowf c fun j => f j + g j := rowf_zip _
theorem sum_parts {r : List Rat} {b : List (List Rat)} {c : Nat} (hb : ∀ s ∈ b, s.length = c) : ∀ k, k ≤ r.length → k ≤ b.length → sumR (List.replicate c 0) (partsTo r b k) = rowf c fun j => sm k fun i => r.getD i default * (b.getD i default).getD j default := by
  intro k
  induction k with
  | zero =>
    intro _ _
    refine List.ext_getElem (by simp [sumR, partsTo, rowf]) fun i h1 h2 => ?_
    simp [sumR, partsTo, rowf, sm]
  | succ k ih =>
    intro h1 h2
    have e : (b.getD k default) = rowf c fun j => (b.getD k default).getD j default := by
      have := rowf_of (b.getD k default)
      rw [hb _ (getD_mem (by omega))] at this
      exact this.symm
    show sumR _ (partsTo r b k ++ _) = rowf c fun j => sm k _ + r.getD k default * (b.getD k default).getD j default
    split
    · next h =>
      rw [List.append_nil, ih (by omega) (by omega), h]
      exact rowf_congr fun j _ => by grind
    · rw [sumR_snoc, ih (by omega) (by omega)]
      rw [show (b.getD k default).map (· * r.getD k default) = rowf c fun j => (b.getD k default).getD j default * r.getD k default from by
        rw [← rowf_map (f := fun j => (b.getD k default).getD j default) (· * r.getD k default), ← e]]
      rw [rowf_addR]
      exact rowf_congr fun j _ => by grind
theorem s_times {a b : List (List Rat)} (ha : a.length ≤ 1000) (hb : b.length ≤ 1000) (hw : wide a = b.length) (hc : wide b ≤ 200) (ea : ∀ r ∈ a, r.length = wide a) (eb : ∀ r ∈ b, r.length = wide b) {M : Nat} (hM : M ≤ 1000) (la : ∀ r ∈ a, ∀ q ∈ r, Lq q ≤ M) (lb : ∀ r ∈ b, ∀ q ∈ r, Lq q ≤ M) :
    CP (CL F) 60 [eT a, eT b] = some (.tup [eT (mulR a b), eI 0]) := by
  refine CP_X (F := F) (f := 60) rfl rfl ?_
  have h1 := s_Size a
  have h2 := s_Size b
  rw [hw] at h1
  have h3 : a.length ≤ 11728124029610 := by omega
  have z := s_vect_Zero (n := wide b) hc
  generalize hW : wide b = c at *
  refine go3 ?_
  refine X_up a.length (fun i s => ∃ j11 j12 j13 j14 j16 j17 j37 j53 j54 j55 j56 j62 g, s = ⟨[(0, eT a), (1, eT b), (4, .nil), (5, eI 0), (6, eI b.length), (7, eI c), (9, eI b.length), (10, .ref 0 0 1 0 a.length), (11, j11), (12, j12), (13, j13), (14, j14), (16, j16), (17, j17), (30, .bool false), (34, eT a), (35, eI a.length), (36, eI i), (37, j37), (53, j53), (54, j54), (55, j55), (56, j56), (62, j62)], some ⟨0, 1, em eR ((a.take i).map fun r => rowMul r b c) ++ List.replicate (a.length - i) .nil⟩ :: g⟩) ?_ ?_ 0 (Nat.zero_le _) _ ⟨_, _, _, _, _, _, _, _, _, _, _, _, [], rfl⟩
  · rintro i s hi ⟨j11, j12, j13, j14, j16, j17, j37, j53, j54, j55, j56, j62, g, rfl⟩ rec
    have hlt := lt_c hi
    have g1 := em_getN (f := eR) a i hi
    have hr := ea _ (getD_mem hi)
    have lr := la _ (getD_mem hi)
    obtain ⟨m, hm⟩ : ∃ m, a.length - i = m + 1 := ⟨a.length - i - 1, by omega⟩
    have hg := fill_get (f := eR) ((a.take i).map fun r => rowMul r b c) m .nil
    have hs := fill_set (f := eR) ((a.take i).map fun r => rowMul r b c) m .nil (rowMul (a.getD i default) b c)
    have hlen : ((a.take i).map fun r => rowMul r b c).length = i := by simp; omega
    rw [hlen] at hg hs
    rw [← hm, show m = a.length - (i + 1) by omega, show ((a.take i).map fun r => rowMul r b c) ++ [rowMul (a.getD i default) b c] = (a.take (i + 1)).map fun r => rowMul r b c by rw [take_succ_getD a i hi]; simp] at hs
    rw [← hm] at hg
    generalize a.getD i default = r at *
    have hrb : r.length = b.length := by rw [hr, hw]
    have hcap : ¬ ((b.length : Int) + 1 < 0) := by omega
    have hsum := sum_parts (r := r) (b := b) (c := c) eb r.length (Nat.le_refl _) (by omega)
    rw [show (rowf c fun j => sm r.length fun i => r.getD i default * (b.getD i default).getD j default) = rowMul r b c from rfl] at hsum
    have hpl := partsTo_len r b r.length
    have hadd := s_vect_Add (r0 := List.replicate c 0) (rs := partsTo r b r.length) (M := 2 * M + 1) (by simp; omega) (by omega) (fun s hs => by
      obtain ⟨i, hi, rfl⟩ := partsTo_mem hs
      rw [List.length_map, List.length_replicate, eb _ (getD_mem (by omega))]) (fun q hq => by
      rw [List.eq_of_mem_replicate hq]
      have := Lq_zero
      omega) (fun s hs q hq => by
      obtain ⟨i, hi, rfl⟩ := partsTo_mem hs
      obtain ⟨x, hx, rfl⟩ := List.mem_map.1 hq
      have h1 := lb _ (getD_mem (l := b) (i := i) (by omega)) x hx
      have h2 := lr _ (getD_mem (l := r) (i := i) (by omega))
      have := Lq_mul x (r.getD i default)
      omega) (by
      have : (partsTo r b r.length).length + 1 ≤ 1001 := by omega
      have h2 : 2 * M + 1 + 1 ≤ 2002 := by omega
      calc _ ≤ 1001 * 2002 := Nat.mul_le_mul this h2
        _ < _ := by decide)
    rw [hsum] at hadd
    have z1 : [eR (List.replicate c 0)] = em eR [List.replicate c 0] := rfl
    have z2 : (em eR [List.replicate c 0]).all okCell = true := rfl
    have w2 : b.length + 1 ≤ 11728124029610 := by omega
    have w3 : (0 : Int) ≤ ((b.length + 1 : Nat) : Int) := by omega
    have hlim : (partsTo r b r.length).length + 1 ≤ 5864062014805 := by omega
    have w0 : b.length < 9223372036854775807 := by omega
    have w1 : wrap64 ((b.length : Int) + 1) = ((b.length + 1 : Nat) : Int) := i64_nat w0
    clear hm hlen ea la hpl
    refine go3 ?_
    refine X_up b.length (fun k s => ∃ j16 j17 j56 j62 v ps g', ps = partsTo r b k ∧ s = ⟨[(0, eT a), (1, eT b), (4, .nil), (5, eI 0), (6, eI b.length), (7, eI c), (9, eI b.length), (10, .ref 0 0 1 0 a.length), (11, eI i), (12, eR r), (13, .ref (g.length + 1) v 1 0 (ps.length + 1)), (14, eR (List.replicate c 0)), (16, j16), (17, j17), (30, .bool false), (34, eT a), (35, eI a.length), (36, eI i), (37, .bool true), (53, eR r), (54, eI b.length), (55, eI k), (56, j56), (62, j62)], some ⟨0, 1, em eR ((a.take i).map fun r => rowMul r b c) ++ List.replicate (a.length - i) .nil⟩ :: (g ++ (some ⟨v, 1, em eR (List.replicate c 0 :: ps)⟩ :: g'))⟩) ?_ ?_ 0 (Nat.zero_le _) _ ⟨_, _, _, _, 1, [], _, rfl, rfl⟩
    · rintro k s hk ⟨j16, j17, j56, j62, v, ps, g', hps, rfl⟩ rec2
      clear w1
      have hlt2 := lt_c hk
      have q1 := em_getN (f := eQ) r k (by omega)
      have q2 := em_getN (f := eR) b k hk
      have q3 := s_rat_Sign (r.getD k default)
      have lx := lr _ (getD_mem (l := r) (i := k) (by omega))
      have ly := lb _ (getD_mem hk)
      have eb' := eb _ (getD_mem hk)
      have q4 := s_vect_Scale (l := b.getD k default) (c := r.getD k default) (by omega) (M := M) (by omega) ly (by omega)
      have pl : ps.length ≤ k := by rw [hps]; exact partsTo_len r b k
      have hlim2 : ps.length + 1 < 5864062014805 := by omega
      have hw2 := i64_nat (n := k) (by omega)
      clear hadd hsum hlim w2 w3 hcap hg hs
      by_cases hx : r.getD k default = 0
      · have q5 : sgn (r.getD k default).num = 0 := (sgn_num_zero _).2 hx
        have hp : partsTo r b (k + 1) = ps := by
          show partsTo r b k ++ _ = ps
          rw [if_pos hx, List.append_nil, hps]
        generalize r.getD k default = x at *
        generalize b.getD k default = bk at *
        rw [q5] at q3
        clear eb lb lr hx hps
        refine go3 ?_
        exact rec2 _ ⟨_, _, _, _, _, ps, _, hp.symm, rfl⟩
      · have q5 : ¬ (sgn (r.getD k default).num = 0) := fun h => hx ((sgn_num_zero _).1 h)
        have hp : partsTo r b (k + 1) = ps ++ [(b.getD k default).map (· * r.getD k default)] := by
          show partsTo r b k ++ _ = _
          rw [if_neg hx, hps]
        generalize r.getD k default = x at *
        generalize b.getD k default = bk at *
        clear eb lb lr hx hps
        refine go3 ?_
        rw [show ps.length + 1 = (ps ++ [bk.map (· * x)]).length by simp]
        exact rec2 _ ⟨_, _, _, _, _, ps ++ [bk.map (· * x)], _, hp.symm, rfl⟩
    · rintro s ⟨j16, j17, j56, j62, v, ps, g', hps, rfl⟩
      clear w1
      have hlt2 : ¬ ((b.length : Int) < (b.length : Int)) := nlt_c
      rw [hrb, ← hps] at hadd
      have hw := i64_nat (n := i) (by omega)
      clear eb lb lr hps hsum hlim w2 w3 hcap
      refine go3 ?_
      exact rec _ ⟨_, _, _, _, _, _, _, _, _, _, _, _, _, rfl⟩
  · rintro s ⟨j11, j12, j13, j14, j16, j17, j37, j53, j54, j55, j56, j62, g, rfl⟩
    have hlt : ¬ ((a.length : Int) < (a.length : Int)) := nlt_c
    have he : List.replicate (a.length - a.length) AV.nil = [] := by simp
    have ht : List.take a.length (a.map fun r => rowMul r b c) = mulR a b := by unfold mulR; rw [hW]; exact take_len_g _ (by simp)
    clear ea eb la lb
    refine go3 ?_
    trivial
theorem s_times_bad {a b : List (List Rat)} (h : wide a ≠ b.length) : CP (CL F) 60 [eT a, eT b] = some (.tup [.lst [], eI 8]) := by
  refine CP_X (F := F) (f := 60) rfl rfl ?_
  have h1 := s_Size a
  have h2 := s_Size b
  have h3 : ((wide a : Int) ≠ (b.length : Int)) := by omega
  have h4 : ¬ ((wide a : Int) = (b.length : Int)) := by omega
  clear h
  refine go3 ?_
  trivial
theorem mulR_len (a b : List (List Rat)) : (mulR a b).length = a.length := by simp [mulR]
theorem mulR_row {a b : List (List Rat)} : ∀ r ∈ mulR a b, r.length = wide b := fun r hr => by
  obtain ⟨s, _, rfl⟩ := List.mem_map.1 hr
  exact rowf_len _ _
theorem s_Mul_none : CP (CL F) 24 [.lst []] = some (.tup [.lst [], eI 8]) := by
  refine CP_X (F := F) (f := 24) rfl rfl ?_
  refine go3 ?_
  trivial
theorem s_Mul_may {a b : List (List Rat)} (ha : a.length ≤ 1000000) (hb : b.length ≤ 1000000) (h : (may a && may b) = false) : CP (CL F) 24 [.lst (em eT [a, b])] = some (.tup [.lst [], eI 8]) := by
  refine CP_X (F := F) (f := 24) rfl rfl ?_
  have hc := s_checks (l := [a, b]) (by simp) fun t ht => by simp at ht; rcases ht with rfl | rfl <;> assumption
  rw [show [a, b].all may = false by simpa using h] at hc
  have hl : (em eT [a, b]).length = 2 := rfl
  clear h
  refine go3 ?_
  trivial
theorem s_Mul_shape {a b : List (List Rat)} (ha : may a = true) (hb : may b = true) (h : wide a ≠ b.length) : CP (CL F) 24 [.lst (em eT [a, b])] = some (.tup [.lst [], eI 8]) := by
  refine CP_X (F := F) (f := 24) rfl rfl ?_
  have a1 := (may_spec.1 ha).1
  have b1 := (may_spec.1 hb).1
  have hk := s_checks (l := [a, b]) (by simp) fun t ht => by simp at ht; rcases ht with rfl | rfl <;> omega
  rw [show [a, b].all may = true by simp [ha, hb]] at hk
  have hl : (em eT [a, b]).length = 2 := rfl
  have g0 : (em eT [a, b])[0]? = some (eT a) := rfl
  have hdr : List.drop 1 (em eT [a, b]) = [eT b] := rfl
  have hok : okS 1 (em eT [a, b]) = true := rfl
  have hn : nth [b] (0 : Int) = b := rfl
  have t1 := s_times_bad h
  clear h ha hb
  refine go3 ?_
  refine X_round ?_
  refine go3 ?_
  trivial
theorem s_Mul2 {a b : List (List Rat)} (ha : may a = true) (hb : may b = true) (h : wide a = b.length) {M : Nat} (hM : M ≤ 1000) (la : ∀ r ∈ a, ∀ q ∈ r, Lq q ≤ M) (lb : ∀ r ∈ b, ∀ q ∈ r, Lq q ≤ M) : CP (CL F) 24 [.lst (em eT [a, b])] = some (.tup [eT (mulR a b), eI 0]) := by
  refine CP_X (F := F) (f := 24) rfl rfl ?_
  obtain ⟨a1, a2, a3⟩ := may_spec.1 ha
  obtain ⟨b1, b2, b3⟩ := may_spec.1 hb
  have hk := s_checks (l := [a, b]) (by simp) fun t ht => by simp at ht; rcases ht with rfl | rfl <;> omega
  rw [show [a, b].all may = true by simp [ha, hb]] at hk
  have hl : (em eT [a, b]).length = 2 := rfl
  have g0 : (em eT [a, b])[0]? = some (eT a) := rfl
  have hdr : List.drop 1 (em eT [a, b]) = [eT b] := rfl
  have hok : okS 1 (em eT [a, b]) = true := rfl
  have hn : nth [b] (0 : Int) = b := rfl
  have t1 := s_times (by omega) (by omega) h b2 a3 b3 hM la lb
  have o1 := s_own (t := mulR a b) (c := wide b) (by rw [mulR_len]; omega) (by omega) mulR_row
  have hw : wrap64 (0 + 1) = 1 := by rw [show (0 : Int) + 1 = 1 from rfl, w64 (by omega) (by omega)]
  clear h ha hb la lb a1 a2 a3 b1 b2 b3
  refine go3 ?_
  refine X_round ?_
  refine go3 ?_
  refine X_round ?_
  refine go3 ?_
  trivial
end Go.S

end
section
set_option linter.unusedVariables false
set_option linter.unusedSimpArgs false
set_option maxRecDepth 100000
namespace Go.S
open Go Go.AM Go.RowKit Go.K
def colT (v : List Rat) : List (List Rat) := v.map fun x => [x]
theorem s_mColumn {v : List Rat} (hv : v.length ≤ 1000000) : CP (CL F) 31 [eR v] = some (eT (colT v)) := by
  let cs : Nat → List AV := fun j => (List.range j).map fun k => AV.ref (1 + (2 * k + 1)) 0 3 0 1
  let bs : Nat → Heap := fun j => (List.range j).flatMap fun k => [some ⟨0, 3, [eQ (v.getD k default)]⟩, some ⟨0, 3, [eQ (v.getD k default)]⟩]
  have cl : ∀ j, (cs j).length = j := fun j => by simp [cs]
  have bl : ∀ j, (bs j).length = 2 * j := fun j => by
    induction j with
    | zero => rfl
    | succ j ih => simp only [bs, List.range_succ, List.flatMap_append, List.length_append]; simp only [bs] at ih; rw [ih]; simp; omega
  have cs1 : ∀ j, cs (j + 1) = cs j ++ [AV.ref (1 + (2 * j + 1)) 0 3 0 1] := fun j => by simp [cs, List.range_succ]
  have bs1 : ∀ j, bs (j + 1) = bs j ++ [some ⟨0, 3, [eQ (v.getD j default)]⟩, some ⟨0, 3, [eQ (v.getD j default)]⟩] := fun j => by simp [bs, List.range_succ]
  have bget : ∀ n j, j < n → (bs n)[2 * j + 1]? = some (some ⟨0, 3, [eQ (v.getD j default)]⟩) := by
    intro n
    induction n with
    | zero => intro j h; omega
    | succ n ih =>
      intro j h
      rw [bs1]
      by_cases e : j = n
      · subst e
        rw [List.getElem?_append_right (by rw [bl]; omega), bl, show 2 * j + 1 - 2 * j = 1 by omega]
        rfl
      · rw [List.getElem?_append_left (by rw [bl]; omega)]
        exact ih j (by omega)
  suffices H : CL F 31 [eR v] [] = some (.ref 0 0 1 0 v.length, some ⟨0, 1, cs v.length⟩ :: bs v.length) by
    refine CP_raw H ?_
    have hR : RowsIn 1 (bs v.length) eQ (cs v.length) (colT v) ((List.range v.length).map fun k => 2 * k + 1) := by
      refine ⟨by simp [cl, colT], by simp [colT], fun i hi => ?_⟩
      have hi' : i < v.length := by simpa [colT] using hi
      have e1 : (cs v.length).getD i default = AV.ref (1 + (2 * i + 1)) 0 3 0 1 := by simp [cs, List.getD, hi']
      have e2 : (colT v).getD i default = [v.getD i default] := by simp [colT, List.getD, List.getElem?_eq_getElem hi']
      have e3 : ((List.range v.length).map fun k => 2 * k + 1).getD i default = 2 * i + 1 := by simp [List.getD, hi']
      rw [e1, e2, e3]
      refine ⟨0, [], rfl, by rw [bget _ _ hi']; rfl⟩
    have := fz_tab (H := some ⟨0, 1, cs v.length⟩ :: bs v.length) (id := 0) (v := 0) hR (fun k => by rw [Nat.add_comm]; rfl) rfl 2
    rwa [show (colT v).length = v.length by simp [colT]] at this
  refine CL_X (F := F) (f := 31) rfl rfl ?_
  have h2 : v.length ≤ 11728124029610 := by omega
  clear bget
  refine go3 ?_
  refine X_up v.length (fun j s => ∃ j4 j5 j12, s = ⟨[(0, eR v), (2, .nil), (3, .ref 0 0 1 0 v.length), (4, j4), (5, j5), (9, eR v), (10, eI v.length), (11, eI j), (12, j12)], some ⟨0, 1, cs j ++ List.replicate (v.length - j) .nil⟩ :: bs j⟩) ?_ ?_ 0 (Nat.zero_le _) _ ⟨_, _, _, rfl⟩
  · rintro j s hj ⟨j4, j5, j12, rfl⟩ rec
    have hlt := lt_c hj
    have g1 := em_getN (f := eQ) v j hj
    obtain ⟨m, hm⟩ : ∃ m, v.length - j = m + 1 := ⟨v.length - j - 1, by omega⟩
    have a1 : (cs j ++ List.replicate (v.length - j) AV.nil)[j]? = some .nil := by rw [hm, List.getElem?_append_right (by rw [cl]; omega), cl]; simp
    have a2 : (cs j ++ List.replicate (v.length - j) AV.nil).set j (AV.ref ((bs j).length + 1 + 1) 0 3 0 1) = cs (j + 1) ++ List.replicate (v.length - (j + 1)) .nil := by
      rw [hm, List.set_append_right _ _ (by rw [cl]; omega), cl, cs1, show v.length - (j + 1) = m by omega, Nat.sub_self, bl, show 1 + (2 * j + 1) = 2 * j + 1 + 1 by omega]
      simp [List.replicate_succ]
    simp only [bs1 j] at rec
    generalize v.getD j default = x at *
    have hw := i64_nat (n := j) (by omega)
    clear hm cs1 bs1 cl bl
    generalize cs j = c0 at *
    generalize cs (j + 1) = c1 at *
    generalize bs j = b0 at *
    refine go3 ?_
    exact rec _ ⟨_, _, _, rfl⟩
  · rintro s ⟨j4, j5, j12, rfl⟩
    have hlt : ¬ ((v.length : Int) < (v.length : Int)) := nlt_c
    have he : List.replicate (v.length - v.length) AV.nil = [] := by simp
    clear cs1 bs1 cl bl
    refine go3 ?_
    trivial
theorem dotTo_sm (a b : List Rat) : ∀ k, dotTo a b k = sm k fun i => a.getD i default * b.getD i default := by
  intro k
  induction k with
  | zero => rfl
  | succ k ih => show dotTo a b k + _ = _ ; rw [ih]; rfl
theorem colR_getD {t : List (List Rat)} {j k : Nat} (h : k < t.length) : (colR t j).getD k default = (t.getD k default).getD j default := by
  simp [colR, List.getD, List.getElem?_eq_getElem h]
theorem dot_col {r : List Rat} {b : List (List Rat)} {c j : Nat} (h : r.length = b.length) (hj : j < c) : dot r (colR b j) = (rowMul r b c).getD j default := by
  unfold rowMul
  rw [rowf_get hj]
  unfold dot
  rw [dotTo_sm]
  exact sm_congr fun k hk => by rw [colR_getD (by omega)]
theorem s_refMul {a b : List (List Rat)} (ha : a.length ≤ 1000) (hb : b.length ≤ 1000) (hc : wide b ≤ 1000) (ea : ∀ r ∈ a, r.length = b.length) (eb : ∀ r ∈ b, r.length = wide b) {M : Nat} (hM : M < 3000) (la : ∀ r ∈ a, ∀ q ∈ r, Lq q ≤ M) (lb : ∀ r ∈ b, ∀ q ∈ r, Lq q ≤ M) :
    CP (CL F) 27 [rT a, rT b] = some (rT (mulR a b)) := by
  refine CP_X (F := F) (f := 27) rfl rfl ?_
  have h2 := s_Wide b
  have hml : (mulR a b).length = a.length := mulR_len a b
  have hmg : ∀ i, i < a.length → (mulR a b).getD i default = rowMul (a.getD i default) b (wide b) := fun i hi => by simp [mulR, List.getD, List.getElem?_eq_getElem hi]
  generalize mulR a b = m at *
  generalize hW : wide b = c at *
  refine go3 ?_
  refine X_up a.length (fun i s => ∃ j7 j8 j13 j20 v g, s = ⟨[(0, rT a), (1, rT b), (4, .nil), (5, .ref 0 v 1 0 i), (6, eI i), (7, j7), (8, j8), (13, j13), (20, j20)], some ⟨v, 1, em rR (m.take i)⟩ :: g⟩) ?_ ?_ 0 (Nat.zero_le _) _ ⟨_, _, _, _, _, [], rfl⟩
  · rintro i s hi ⟨j7, j8, j13, j20, v, g, rfl⟩ rec
    have hlt := lt_c hi
    have g1 := em_getN (f := rR) a i hi
    have er := ea _ (getD_mem hi)
    have lr := la _ (getD_mem hi)
    have hs : m.take i ++ [m.getD i default] = m.take (i + 1) := (take_succ_getD _ i (by omega)).symm
    rw [hmg i hi] at hs
    have hlen : (m.take i).length = i := by simp; omega
    have ht : List.take i (m.take i) = m.take i := take_len_g _ hlen.symm
    have hlim : i < 5864062014805 := by omega
    generalize a.getD i default = r at *
    have hrl : (rowMul r b c).length = c := rowf_len _ _
    clear hmg hlen
    refine go3 ?_
    refine X_up c (fun j s => ∃ j20 v' g', s = ⟨[(0, rT a), (1, rT b), (4, .nil), (5, .ref 0 v 1 0 i), (6, eI i), (7, .ref (g.length + 1) v' 3 0 j), (8, eI j), (13, .bool true), (20, j20)], some ⟨v, 1, em rR (m.take i)⟩ :: (g ++ (some ⟨v', 3, em rQ ((rowMul r b c).take j)⟩ :: g'))⟩) ?_ ?_ 0 (Nat.zero_le _) _ ⟨_, _, _, rfl⟩
    · rintro j s hj ⟨j20, v', g', rfl⟩ rec2
      have hlt2 := lt_c hj
      have c1 := s_Column (t := b) (j := j) (by omega) fun r hr => by rw [eb r hr]; exact hj
      have d1 := s_r11_Dot (a := r) (b := colR b j) (by omega) (by simp [colR]; omega) (M := M) hM lr fun q hq => by
        obtain ⟨s, hs, rfl⟩ := List.mem_map.1 hq
        exact lb s hs _ (getD_mem (by rw [eb s hs]; exact hj))
      rw [dot_col (c := c) er hj] at d1
      have hs2 : (rowMul r b c).take j ++ [(rowMul r b c).getD j default] = (rowMul r b c).take (j + 1) := (take_succ_getD _ j (by omega)).symm
      have hlen2 : ((rowMul r b c).take j).length = j := by simp; omega
      have ht2 : List.take j ((rowMul r b c).take j) = (rowMul r b c).take j := take_len_g _ hlen2.symm
      generalize (rowMul r b c).getD j default = x at *
      generalize rowMul r b c = R at *
      have hlim2 : j < 2513169434916 := by omega
      have hw2 := i64_nat (n := j) (by omega)
      clear eb lb la lr ea hlen2 rec
      refine go3 ?_
      exact rec2 _ ⟨_, _, _, rfl⟩
    · rintro s ⟨j20, v', g', rfl⟩
      have hlt2 : ¬ ((c : Int) < (c : Int)) := nlt_c
      have ht2 : List.take c (rowMul r b c) = rowMul r b c := take_len_g _ hrl.symm
      have hw := i64_nat (n := i) (by omega)
      clear eb lb la lr ea
      refine go3 ?_
      exact rec _ ⟨_, _, _, _, _, _, rfl⟩
  · rintro s ⟨j7, j8, j13, j20, v, g, rfl⟩
    have hlt : ¬ ((a.length : Int) < (a.length : Int)) := nlt_c
    have ht : List.take a.length m = m := take_len_g _ hml.symm
    clear ea eb la lb hmg
    refine go3 ?_
    trivial
end Go.S

end
section
set_option linter.unusedVariables false
set_option linter.unusedSimpArgs false
namespace Go.S
open Go Go.AM Go.RowKit Go.K
def tk : Nat → ACode → ACode
  | 0, _ => .skip
  | n + 1, .seq a b => .seq a (tk n b)
  | _ + 1, x => x
def dp : Nat → ACode → ACode
  | 0, x => x
  | n + 1, .seq _ b => dp n b
  | _ + 1, _ => .skip
section
variable {F : Nat → Option AFunc} {ks : List Nat}
theorem X_tkdp {Q : Ex → St → Prop} : ∀ (n : Nat) (a : ACode) (s : St) (k : Kt), X F ks Q (.seq (tk n a) (dp n a)) s k → X F ks Q a s k := by
  have last : ∀ (x : ACode) (s : St) (k : Kt), X F ks Q (.seq x .skip) s k → X F ks Q x s k := by
    intro x s k h
    rw [X_seq] at h
    refine W_mono h fun e s' he => ?_
    cases e with
    | normal => rw [Y_seq, X_skip] at he; exact he
    | exit i => exact he
    | ret => exact he
  intro n
  induction n with
  | zero => intro a s k h; rw [X_seq] at h; exact (X_skip.1 h)
  | succ n ih =>
    intro a s k h
    cases a with
    | seq a b =>
      rw [X_seq]
      simp only [tk, dp] at h
      rw [X_seq, X_seq] at h
      refine W_mono h fun e s' he => ?_
      cases e with
      | normal =>
        rw [Y_seq] at he ⊢
        exact ih _ _ _ (X_seq.2 he)
      | exit i => exact he
      | ret => exact he
    | _ => exact last _ _ _ h
theorem X_split {Q : Ex → St → Prop} {a : ACode} {s : St} {k : Kt} (n : Nat) (P : St → Prop) (h : X F ks (fun e s' => e = .normal ∧ P s') (tk n a) s .done) (h2 : ∀ s', P s' → X F ks Q (dp n a) s' k) : X F ks Q a s k := by
  refine X_tkdp n a s k ?_
  rw [X_seq]
  refine X_cut _ h ?_
  rintro e s' ⟨rfl, hp⟩
  rw [Y_seq]
  exact h2 _ hp
end
end Go.S

end
section
set_option linter.unusedVariables false
set_option linter.unusedSimpArgs false
set_option maxRecDepth 100000
set_option maxHeartbeats 4000000
namespace Go.S
open Go Go.AM Go.RowKit Go.K
theorem colT_len (v : List Rat) : (colT v).length = v.length := by simp [colT]
theorem colT_getD {v : List Rat} {i : Nat} (h : i < v.length) : (colT v).getD i default = [v.getD i default] := by simp [colT, List.getD, List.getElem?_eq_getElem h]
theorem colT_wide {v : List Rat} (h : 0 < v.length) : wide (colT v) = 1 := by
  cases v with
  | nil => simp at h
  | cons x v => rfl
theorem mul_col {p : List (List Rat)} {w : List Rat} (h : 0 < w.length) (hp : ∀ r ∈ p, r.length = w.length) : mulR p (colT w) = colT (applyR p w) := by
  unfold mulR applyR
  rw [colT_wide h]
  unfold colT
  rw [List.map_map]
  refine List.map_congr_left fun r hr => ?_
  show rowMul r _ 1 = [dot r w]
  unfold rowMul dot
  rw [dotTo_sm]
  show [sm r.length fun k => _] = _
  congr 1
  refine sm_congr fun k hk => ?_
  have := colT_getD (v := w) (i := k) (by rw [← hp r hr]; exact hk)
  unfold colT at this
  rw [this]
  rfl
theorem mulR_size {a b : List (List Rat)} {M : Nat} (ea : ∀ r ∈ a, r.length = b.length) (eb : ∀ r ∈ b, r.length = wide b) (la : ∀ r ∈ a, ∀ q ∈ r, Lq q ≤ M) (lb : ∀ r ∈ b, ∀ q ∈ r, Lq q ≤ M) : ∀ r ∈ mulR a b, ∀ q ∈ r, Lq q ≤ 1 + b.length * (2 * M + 1) := by
  intro r hr q hq
  obtain ⟨s, hs, rfl⟩ := List.mem_map.1 hr
  obtain ⟨j, hj, rfl⟩ := mem_rowf.1 hq
  have e := dot_col (r := s) (b := b) (c := wide b) (j := j) (ea s hs) hj
  unfold rowMul at e
  rw [rowf_get hj] at e
  rw [← e]
  have h := dotTo_size (a := s) (b := colR b j) (M := M) (la s hs) (fun q hq => by
    obtain ⟨x, hx, rfl⟩ := List.mem_map.1 hq
    exact lb x hx _ (getD_mem (by rw [eb x hx]; exact hj))) s.length (Nat.le_refl _) (by simp [colR, ea s hs])
  rw [ea s hs] at h
  unfold dot
  rw [ea s hs]
  exact h
theorem law_MatrixMuls {t u : List (List XQ)} {v : List XQ} (ht : ∀ l ∈ t, ∀ x ∈ l, x.ok) (hu : ∀ l ∈ u, ∀ x ∈ l, x.ok) (hv : ∀ x ∈ v, x.ok) : CP (CL F) 5 [.lst (em eXL t), .lst (em eXL u), .lst (em eX v)] = some (.bool true) := by
  refine CP_X (F := F) (f := 5) rfl rfl ?_
  obtain ⟨p, p1, p2, p3⟩ := s_Few12 ht (most := 4) (by decide)
  obtain ⟨q, q1, q2, q3⟩ := s_Few12 hu (most := 4) (by decide)
  obtain ⟨w, w1, w2, w3⟩ := s_Few hv (most := 4) (by decide)
  replace p3 : CP (CL F) 8 [.lst (em eXL t), eI 4] = some (.tup [eT p, rT p]) := p3
  replace q3 : CP (CL F) 8 [.lst (em eXL u), eI 4] = some (.tup [eT q, rT q]) := q3
  replace w3 : CP (CL F) 23 [.lst (em eX v), eI 4] = some (.tup [eR w, rR w]) := w3
  have lp : p.length ≤ 4 := by omega
  have lq : q.length ≤ 4 := by omega
  have lw : w.length ≤ 4 := by omega
  have wd : ∀ {l : List (List Rat)}, (∀ r ∈ l, r.length ≤ 4 ∧ ∀ q ∈ r, Lq q ≤ 1) → wide l ≤ 4 := fun {l} h => by
    unfold wide
    cases l with
    | nil => simp
    | cons r l => exact (h r (List.mem_cons_self ..)).1
  have wp := wd p2
  have wq := wd q2
  have mp : may p = even p := by
    have h1 : p.length ≤ 200 := by omega
    have h2 : wide p ≤ 200 := by omega
    simp [may, h1, h2]
  have mq : may q = even q := by
    have h1 : q.length ≤ 200 := by omega
    have h2 : wide q ≤ 200 := by omega
    simp [may, h1, h2]
  have zp : ∀ r ∈ p, ∀ x ∈ r, Lq x ≤ 1 := fun r hr => (p2 r hr).2
  have zq : ∀ r ∈ q, ∀ x ∈ r, Lq x ≤ 1 := fun r hr => (q2 r hr).2
  have HM : ∃ m e, CP (CL F) 24 [.lst (em eT [p, q])] = some (.tup [m, .int .i64 e]) ∧ (even p = true → even q = true → wide p = q.length → m = eT (mulR p q) ∧ e = 0) ∧ (¬ (even p = true ∧ even q = true ∧ wide p = q.length) → e = 8) := by
    by_cases h : even p = true ∧ even q = true
    · by_cases h2 : wide p = q.length
      · exact ⟨_, _, s_Mul2 (by rw [mp, h.1]) (by rw [mq, h.2]) h2 (M := 1) (by decide) zp zq, fun _ _ _ => ⟨rfl, rfl⟩, fun n => (n ⟨h.1, h.2, h2⟩).elim⟩
      · exact ⟨_, _, s_Mul_shape (by rw [mp, h.1]) (by rw [mq, h.2]) h2, fun _ _ n => (h2 n).elim, fun _ => rfl⟩
    · exact ⟨_, _, s_Mul_may (by omega) (by omega) (by rw [mp, mq]; simpa using h), fun a b _ => (h ⟨a, b⟩).elim, fun _ => rfl⟩
  have HA : ∃ m e, CP (CL F) 25 [eT p, eT q] = some (.tup [m, .int .i64 e]) ∧ (even p = true → even q = true → p.length = q.length → wide p = wide q → m = eT (addT p q) ∧ e = 0) ∧ (¬ (even p = true ∧ even q = true ∧ p.length = q.length ∧ wide p = wide q) → e = 8) := by
    by_cases h : even p = true ∧ even q = true
    · by_cases h2 : p.length = q.length ∧ wide p = wide q
      · exact ⟨_, _, s_mAdd (by rw [mp, h.1]) (by rw [mq, h.2]) h2.1.symm h2.2.symm (M := 1) (by decide) zp zq, fun _ _ _ _ => ⟨rfl, rfl⟩, fun n => (n ⟨h.1, h.2, h2.1, h2.2⟩).elim⟩
      · exact ⟨_, _, s_mAdd_shape (by rw [mp, h.1]) (by rw [mq, h.2]) (by omega), fun _ _ n m => (h2 ⟨n, m⟩).elim, fun _ => rfl⟩
    · exact ⟨_, _, s_mAdd_may (by omega) (by omega) (by rw [mp, mq]; simpa using h), fun a b _ _ => (h ⟨a, b⟩).elim, fun _ => rfl⟩
  have HX : ∃ m e, CP (CL F) 26 [eT p, eR w] = some (.tup [m, .int .i64 e]) ∧ (even p = true → wide p = w.length → m = eR (applyR p w) ∧ e = 0) ∧ (¬ (even p = true ∧ wide p = w.length) → m = .lst [] ∧ e = 8) := by
    by_cases h : even p = true
    · by_cases h2 : wide p = w.length
      · exact ⟨_, _, s_Apply (by rw [mp, h]) h2 (M := 1) (by decide) zp w2, fun _ _ => ⟨rfl, rfl⟩, fun n => (n ⟨h, h2⟩).elim⟩
      · exact ⟨_, _, s_Apply_shape (by rw [mp, h]) h2, fun _ n => (h2 n).elim, fun _ => ⟨rfl, rfl⟩⟩
    · exact ⟨_, _, s_Apply_may (by omega) (by rw [mp]; simpa using h), fun a => (h a).elim, fun _ => ⟨rfl, rfl⟩⟩
  obtain ⟨m, e, c1, m1, m2⟩ := HM
  obtain ⟨sA, f, c2, a1, a2⟩ := HA
  obtain ⟨xA, g, c3, x1, x2⟩ := HX
  have c4 := s_Mul_none
  have k3 := s_even (q := p) (by omega)
  have k4 := s_even (q := q) (by omega)
  have k5 := s_Wide p
  have k6 := s_Wide q
  have wk := s_works12
  have hl2 : (em rR p).length = p.length := em_len _
  have hl3 : (em rR q).length = q.length := em_len _
  refine X_split 9 (fun s => ∃ h, s = ⟨[(0, .lst (em eXL t)), (1, .lst (em eXL u)), (2, eR w), (6, .bool false), (7, eT p), (8, rT p), (9, eT q), (10, rT q), (11, rR w), (12, m), (13, .int .i64 e), (14, sA), (15, .int .i64 f), (16, xA), (17, .int .i64 g), (19, eI 8), (20, .undef), (21, .undef), (22, .undef), (23, .undef), (24, .undef), (25, .undef), (26, .undef), (66, .bool false), (81, .undef), (83, .undef), (93, .undef), (115, .undef), (117, .undef), (121, .undef), (158, .undef), (168, .undef), (183, .undef), (199, .undef), (203, .undef)], h⟩) ?_ ?_
  · have fq1 : ∀ h, fzR (Go.AM.frz h 6) (some (some ⟨0, 1, [eT p, eT q]⟩)) 0 0 2 = some (.lst (em eT [p, q])) := fun h => em_fz6 (h := h) (v := 0) (off := 0) (len := 2) E_eT [p, q]
    have fq2 : ∀ h i, usR (used h 6) (some (some ⟨0, 1, [eT p, eT q]⟩)) i 0 0 2 = [i] := fun h i => em_us6 (h := h) (id := i) (v := 0) (off := 0) (len := 2) E_eT [p, q]
    clear m1 m2 a1 a2 x1 x2 mp mq zp zq wd p1 p2 q1 q2 w1 w2
    simp only [tk]
    refine go3 ?_
    exact ⟨_, rfl⟩
  rintro s ⟨h, rfl⟩
  refine X_split 1 (fun s => ∃ j81 j83 j93 h, s = ⟨[(0, .lst (em eXL t)), (1, .lst (em eXL u)), (2, eR w), (6, .bool false), (7, eT p), (8, rT p), (9, eT q), (10, rT q), (11, rR w), (12, m), (13, .int .i64 e), (14, sA), (15, .int .i64 f), (16, xA), (17, .int .i64 g), (19, eI 8), (20, .undef), (21, .undef), (22, .undef), (23, .undef), (24, .undef), (25, .undef), (26, .undef), (66, .bool false), (81, j81), (83, j83), (93, j93), (115, .undef), (117, .undef), (121, .undef), (158, .undef), (168, .undef), (183, .undef), (199, .undef), (203, .undef)], h⟩) ?_ ?_
  · have fin : ∀ b, (e = 8 → b = false → True) := fun _ _ _ => trivial
    simp only [dp, tk]
    cases ep : even p with
    | false =>
      obtain rfl := m2 (by rw [ep]; simp)
      rw [ep] at k3
      clear m1 m2 a1 a2 x1 x2 mp mq zp zq wd p1 p2 q1 q2 w1 w2 ep
      refine go3 ?_
      exact ⟨_, _, _, _, rfl⟩
    | true =>
      cases eq : even q with
      | false =>
        obtain rfl := m2 (by rw [eq]; simp)
        rw [ep] at k3
        rw [eq] at k4
        clear m1 m2 a1 a2 x1 x2 mp mq zp zq wd p1 p2 q1 q2 w1 w2 ep eq
        refine go3 ?_
        exact ⟨_, _, _, _, rfl⟩
      | true =>
        by_cases hw : wide p = q.length
        · obtain ⟨rfl, rfl⟩ := m1 ep eq hw
          have ev := even_iff.1 ep
          have ev2 := even_iff.1 eq
          have r1 := s_refMul (a := p) (b := q) (by omega) (by omega) (by omega) (fun r hr => by rw [ev r hr, hw]) ev2 (M := 1) (by decide) zp zq
          have r3 := mulR_size (a := p) (b := q) (M := 1) (fun r hr => by rw [ev r hr, hw]) ev2 zp zq
          have r2 := s_Is12 (a := mulR p q) (q := mulR p q) (by rw [mulR_len]; omega) (fun r hr => ⟨by rw [mulR_row r hr]; omega, fun x hx => by have := r3 r hr x hx; omega⟩) fun r hr x hx => by have := r3 r hr x hx; omega
          clear r3
          rw [if_pos rfl] at r2
          rw [ep] at k3
          rw [eq] at k4
          rw [hw] at k5
          clear m1 m2 a1 a2 x1 x2 mp mq zp zq wd p1 p2 q1 q2 w1 w2 ep eq ev ev2
          refine go3 ?_
          exact ⟨_, _, _, _, rfl⟩
        · obtain rfl := m2 (by intro n; exact hw n.2.2)
          have hw2 : ¬ ((wide p : Int) = (q.length : Int)) := by omega
          rw [ep] at k3
          rw [eq] at k4
          clear m1 m2 a1 a2 x1 x2 mp mq zp zq wd p1 p2 q1 q2 w1 w2 ep eq hw
          refine go3 ?_
          exact ⟨_, _, _, _, rfl⟩
  rintro s ⟨j81, j83, j93, h, rfl⟩
  refine X_split 1 (fun s => ∃ j20 j21 j22 j115 j117 j121 j158 h, s = ⟨[(0, .lst (em eXL t)), (1, .lst (em eXL u)), (2, eR w), (6, .bool false), (7, eT p), (8, rT p), (9, eT q), (10, rT q), (11, rR w), (12, m), (13, .int .i64 e), (14, sA), (15, .int .i64 f), (16, xA), (17, .int .i64 g), (19, eI 8), (20, j20), (21, j21), (22, j22), (23, .undef), (24, .undef), (25, .undef), (26, .undef), (66, .bool false), (81, j81), (83, j83), (93, j93), (115, j115), (117, j117), (121, j121), (158, j158), (168, .undef), (183, .undef), (199, .undef), (203, .undef)], h⟩) ?_ ?_
  · simp only [dp, tk]
    cases ep : even p with
    | false =>
      obtain rfl := a2 (by rw [ep]; simp)
      rw [ep] at k3
      clear m1 m2 a1 a2 x1 x2 mp mq zp zq wd p1 p2 q1 q2 w1 w2 ep
      refine go3 ?_
      exact ⟨_, _, _, _, _, _, _, _, rfl⟩
    | true =>
      cases eq : even q with
      | false =>
        obtain rfl := a2 (by rw [eq]; simp)
        rw [ep] at k3
        rw [eq] at k4
        clear m1 m2 a1 a2 x1 x2 mp mq zp zq wd p1 p2 q1 q2 w1 w2 ep eq
        refine go3 ?_
        exact ⟨_, _, _, _, _, _, _, _, rfl⟩
      | true =>
        rw [ep] at k3
        rw [eq] at k4
        by_cases hlen : p.length = q.length
        · have e2 : (q.length : Int) = (p.length : Int) := by omega
          by_cases hw : wide p = wide q
          · obtain ⟨rfl, rfl⟩ := a1 ep eq hlen hw
            have ev := even_iff.1 ep
            have ev2 := even_iff.1 eq
            rw [← hw] at k6
            have al : (addT p q).length = p.length := addT_len hlen.symm
            have al2 : (em eR (addT p q)).length = p.length := by rw [em_len, al]
            have step : ∀ i, i < p.length → ∃ x y z, (em eR p)[i]? = some (eR x) ∧ (em eR q)[i]? = some (eR y) ∧ (em eR (addT p q))[i]? = some (eR z) ∧ CP (CL F) 28 [.lst (em eR [x, y])] = some (.tup [eR z, eI 0]) ∧ CP (CL F) 29 [eR z, eR z] = some (.bool true) := fun i hi => by
              have e1 := ev _ (getD_mem hi)
              have e3 := ev2 _ (getD_mem (l := q) (i := i) (by omega))
              have hz := addT_getD (a := p) (b := q) hlen.symm hi
              have hl : (addR (p.getD i default) (q.getD i default)).length = (p.getD i default).length := addR_len (by omega)
              refine ⟨_, _, _, em_getN (f := eR) p i hi, em_getN (f := eR) q i (by omega), em_getN (f := eR) (addT p q) i (by omega), ?_, ?_⟩
              · have v1 := s_vect_Add (r0 := p.getD i default) (rs := [q.getD i default]) (M := 1) (by omega) (by simp) (fun r hr => by
                  rw [List.mem_singleton] at hr; subst hr; omega) (zp _ (getD_mem hi)) (fun r hr => by
                  rw [List.mem_singleton] at hr; subst hr; exact zq _ (getD_mem (by omega))) (by simp)
                rw [show sumR (p.getD i default) [q.getD i default] = (addT p q).getD i default from hz.symm] at v1
                exact v1
              · have v2 := s_vect_Same (a := (addT p q).getD i default) (b := (addT p q).getD i default) (by rw [hz, hl]; omega) (fun x hx => by
                  rw [hz] at hx
                  obtain ⟨y, hy, z, hz', rfl⟩ := mem_addR hx
                  have := zp _ (getD_mem hi) y hy
                  have := zq _ (getD_mem (l := q) (i := i) (by omega)) z hz'
                  have := Lq_add y z
                  omega)
                rw [decide_eq_true rfl] at v2
                exact v2
            clear m1 m2 a1 a2 x1 x2 mp mq wd p1 p2 q1 q2 w1 w2 ep eq ev ev2 hlen hw
            refine go3 ?_
            refine X_up p.length (fun i s => ∃ j21 j22 j121 j158 h, s = ⟨[(0, .lst (em eXL t)), (1, .lst (em eXL u)), (2, eR w), (6, .bool false), (7, eT p), (8, rT p), (9, eT q), (10, rT q), (11, rR w), (12, m), (13, .int .i64 e), (14, eT (addT p q)), (15, .int .i64 0), (16, xA), (17, .int .i64 g), (19, eI 8), (20, eI i), (21, j21), (22, j22), (23, .undef), (24, .undef), (25, .undef), (26, .undef), (66, .bool false), (81, j81), (83, j83), (93, j93), (115, .bool false), (117, .undef), (121, j121), (158, j158), (168, .undef), (183, .undef), (199, .undef), (203, .undef)], h⟩) ?_ ?_ 0 (Nat.zero_le _) _ ⟨_, _, _, _, _, rfl⟩
            · rintro i s hi ⟨j21, j22, j121, j158, h, rfl⟩ rec
              have hlt := lt_c hi
              obtain ⟨x, y, z, g1, g2, g3, v1, v2⟩ := step i hi
              have f3 := em2 (f := eR) x y
              have hw' := i64_nat (n := i) (by omega)
              clear step
              refine go3 ?_
              exact rec _ ⟨_, _, _, _, _, rfl⟩
            · rintro s ⟨j21, j22, j121, j158, h, rfl⟩
              have hlt : ¬ ((p.length : Int) < (p.length : Int)) := nlt_c
              clear step
              refine go3 ?_
              exact ⟨_, _, _, _, _, _, _, _, rfl⟩
          · obtain rfl := a2 (by intro n; exact hw n.2.2.2)
            have hw2 : ¬ ((wide p : Int) = (wide q : Int)) := by omega
            clear m1 m2 a1 a2 x1 x2 mp mq zp zq wd p1 p2 q1 q2 w1 w2 ep eq hw hlen
            refine go3 ?_
            exact ⟨_, _, _, _, _, _, _, _, rfl⟩
        · obtain rfl := a2 (by intro n; exact hlen n.2.2.1)
          have hw2 : ¬ ((p.length : Int) = (q.length : Int)) := by omega
          clear m1 m2 a1 a2 x1 x2 mp mq zp zq wd p1 p2 q1 q2 w1 w2 ep eq hlen
          refine go3 ?_
          exact ⟨_, _, _, _, _, _, _, _, rfl⟩
  rintro s ⟨j20, j21, j22, j115, j117, j121, j158, h, rfl⟩
  simp only [dp]
  cases ep : even p with
  | false =>
    obtain ⟨rfl, rfl⟩ := x2 (by rw [ep]; simp)
    rw [ep] at k3
    clear m1 m2 a1 a2 x1 x2 mp mq zp zq wd p1 p2 q1 q2 w1 w2 ep
    refine go3 ?_
    trivial
  | true =>
    rw [ep] at k3
    by_cases hw : wide p = w.length
    · obtain ⟨rfl, rfl⟩ := x1 ep hw
      have ev := even_iff.1 ep
      rw [hw] at ev
      have hT : (applyR p w).length = p.length := by simp [applyR]
      have s1 : ∀ q ∈ applyR p w, Lq q ≤ 13 := fun q hq => by
        obtain ⟨r, hr, rfl⟩ := List.mem_map.1 hq
        have h1 := dotTo_size (a := r) (b := w) (M := 1) (zp r hr) w2 r.length (Nat.le_refl _) (by rw [ev r hr]; exact Nat.le_refl _)
        have h2 : r.length ≤ 4 := by rw [ev r hr]; exact lw
        show Lq (dotTo r w r.length) ≤ 13
        omega
      have s2 := s_mColumn (v := applyR p w) (by omega)
      have s3 := s_Is12 (a := colT (applyR p w)) (q := colT (applyR p w)) (by rw [colT_len]; omega) (fun r hr => by
        obtain ⟨x, hx, rfl⟩ := List.mem_map.1 hr
        exact ⟨by simp, fun y hy => by simp at hy; subst hy; have := s1 _ hx; omega⟩) fun r hr y hy => by
        obtain ⟨x, hx, rfl⟩ := List.mem_map.1 hr
        simp at hy; subst hy; have := s1 _ hx; omega
      rw [if_pos rfl] at s3
      have hwi : ((wide p : Int) = (w.length : Int)) := by omega
      have hcl : (colT w).length = w.length := colT_len w
      have hcg := fun i (hi : i < w.length) => colT_getD hi
      have r1 : 0 < w.length → CP (CL F) 27 [rT p, rT (colT w)] = some (rT (colT (applyR p w))) := fun h0 => by
        have := s_refMul (a := p) (b := colT w) (M := 1) (by omega) (by rw [hcl]; omega) (by rw [colT_wide h0]; decide) (fun r hr => by rw [ev r hr, hcl]) (fun r hr => by
          rw [colT_wide h0]
          obtain ⟨x, hx, rfl⟩ := List.mem_map.1 hr
          rfl) (by decide) zp fun r hr y hy => by
          obtain ⟨x, hx, rfl⟩ := List.mem_map.1 hr
          simp at hy; subst hy; exact w2 _ hx
        rwa [mul_col h0 ev] at this
      have hTl : (colT (applyR p w)).length = p.length := by rw [colT_len, hT]
      have hTg : w.length = 0 → ∀ i, i < p.length → (colT (applyR p w)).getD i default = [0] := fun h0 i hi => by
        rw [colT_getD (by omega)]
        have : (applyR p w).getD i default = dot (p.getD i default) w := by simp [applyR, List.getD, List.getElem?_eq_getElem hi]
        rw [this]
        have hr := ev _ (getD_mem hi)
        unfold dot
        rw [hr, h0]
        rfl
      rw [hw] at k5
      have r0 : w.length = 0 → CP (CL F) 27 [rT p, rT (colT w)] = some (rT (mulR p (colT w))) := fun h0 => by
        have hw0 : w = [] := List.eq_nil_of_length_eq_zero h0
        subst hw0
        exact s_refMul (a := p) (b := colT []) (M := 1) (by omega) (by simp [colT]) (by simp [colT, wide]) (fun r hr => by rw [ev r hr]; rfl) (fun r hr => by simp [colT] at hr) (by decide) zp fun r hr => by simp [colT] at hr
      have n0 := s_r08_Int (n := 0) (by decide) (by decide)
      rw [show ((0 : Int) : Rat) = 0 from rfl] at n0
      generalize colT (applyR p w) = T at *
      generalize colT w = Cw at *
      clear m1 m2 a1 a2 x1 x2 mp mq zp zq wd p1 p2 q1 q2 w1 w2 ep hw ev hT s1
      refine go3 ?_
      refine X_up w.length (fun i s => ∃ j183 v g, s = ⟨[(0, .lst (em eXL t)), (1, .lst (em eXL u)), (2, eR w), (6, .bool false), (7, eT p), (8, rT p), (9, eT q), (10, rT q), (11, rR w), (12, m), (13, .int .i64 e), (14, sA), (15, .int .i64 f), (16, eR (applyR p w)), (17, .int .i64 0), (19, eI 8), (20, j20), (21, j21), (22, j22), (23, .ref h.length v 1 0 i), (24, eI i), (25, .undef), (26, .undef), (66, .bool false), (81, j81), (83, j83), (93, j93), (115, j115), (117, j117), (121, j121), (158, j158), (168, .bool false), (183, j183), (199, .undef), (203, .undef)], h ++ (some ⟨v, 1, em rR (Cw.take i)⟩ :: g)⟩) ?_ ?_ 0 (Nat.zero_le _) _ ⟨_, _, [], rfl⟩
      · rintro i s hi ⟨j183, v, g, rfl⟩ rec
        have hlt := lt_c hi
        have g1 := em_getN (f := rQ) w i hi
        have hs : Cw.take i ++ [Cw.getD i default] = Cw.take (i + 1) := (take_succ_getD _ i (by omega)).symm
        rw [hcg i hi] at hs
        have hlen2 : (Cw.take i).length = i := by simp; omega
        have ht : List.take i (Cw.take i) = Cw.take i := take_len_g _ hlen2.symm
        generalize w.getD i default = y at *
        have z1 : [rQ y] = em rQ [y] := rfl
        have hlim : i < 5864062014805 := by omega
        have hw' := i64_nat (n := i) (by omega)
        clear hcg hTg r1 r0 hlen2 hTl hcl
        refine go3 ?_
        exact rec _ ⟨_, _, _, rfl⟩
      · rintro s ⟨j183, v, g, rfl⟩
        have hlt : ¬ ((w.length : Int) < (w.length : Int)) := nlt_c
        have ht : List.take w.length Cw = Cw := take_len_g _ hcl.symm
        by_cases h0 : w.length = 0
        · have r := r0 h0
          have tg := hTg h0
          have h00 : ((w.length : Int) = 0) := by omega
          generalize mulR p Cw = mu at *
          clear hcg hTg r1 r0 hcl h0
          rcases Nat.eq_zero_or_pos p.length with hp0 | hp0
          · have hT0 : T = [] := List.eq_nil_of_length_eq_zero (by omega)
            have hpe : p = [] := List.eq_nil_of_length_eq_zero hp0
            have hp00 : ((p.length : Int) = 0) := by omega
            subst hT0
            subst hpe
            have s4 : CP (CL F) 15 [eT [], .lst []] = some (eI 1) := s3
            clear tg hTl hp0 s3
            refine go3 ?_
            refine X_round ?_
            refine go3 ?_
            trivial
          · have hlt0 : ((0 : Int) < (p.length : Int)) := by omega
            have z1 : [rQ 0] = em rQ [0] := rfl
            have z3 : [rR [0]] = em rR [[0]] := rfl
            have z4 : (em rR [[0]]).all okCell = true := rfl
            have z5 : [0].zip (em rR [[0]]) = [(0, rR [0])] := rfl
            have z6 : (em rR [[0]]).isEmpty = false := rfl
            have hw1 : wrap64 (0 + 1) = 1 := by rw [show (0 : Int) + 1 = 1 from rfl, w64 (by omega) (by omega)]
            refine go3 ?_
            refine X_round ?_
            refine go3 ?_
            have hs0 : T.take 1 = [[0]] := by
              rw [take_succ_getD T 0 (by omega), tg 0 hp0]; rfl
            refine X_up p.length (fun i s => ∃ j203 v' g' y, s = ⟨[(0, .lst (em eXL t)), (1, .lst (em eXL u)), (2, eR w), (6, .bool false), (7, eT p), (8, rT p), (9, eT q), (10, rT q), (11, rR w), (12, m), (13, .int .i64 e), (14, sA), (15, .int .i64 f), (16, eR (applyR p w)), (17, .int .i64 0), (19, eI 8), (20, j20), (21, j21), (22, j22), (23, .ref h.length v 1 0 w.length), (24, eI 0), (25, .ref (h.length + (g.length + 2 + 1)) v' 1 0 i), (26, eI i), (66, .bool false), (81, j81), (83, j83), (93, j93), (115, j115), (117, j117), (121, j121), (158, j158), (168, .bool false), (183, .bool false), (199, .bool true), (203, j203)], h ++ none :: (g ++ none :: y :: some ⟨v', 1, em rR (T.take i)⟩ :: g')⟩) ?_ ?_ 1 hp0 _ ⟨_, _, [], _, by rw [hs0]; rfl⟩
            · rintro i s hi ⟨j203, v', g', y, rfl⟩ rec
              have hlt3 := lt_c hi
              have hs : T.take i ++ [T.getD i default] = T.take (i + 1) := (take_succ_getD _ i (by omega)).symm
              rw [tg i hi] at hs
              have hlen2 : (T.take i).length = i := by simp; omega
              have ht3 : List.take i (T.take i) = T.take i := take_len_g _ hlen2.symm
              have hlim : i < 5864062014805 := by omega
              have hi6 : i < 9223372036854775807 := by omega
              have hw' := i64_nat hi6
              have hs2 : em rR (T.take i) ++ em rR [[0]] = em rR (T.take (i + 1)) := by rw [em_app, hs]
              clear tg hTl hlen2 hs0 hs hlt0 hw1
              refine go3 ?_
              exact rec _ ⟨_, _, _, _, rfl⟩
            · rintro s ⟨j203, v', g', y, rfl⟩
              have hlt3 : ¬ ((p.length : Int) < (p.length : Int)) := nlt_c
              have ht3 : List.take p.length T = T := take_len_g _ hTl.symm
              clear tg hs0 hlt0 hw1 hTl
              refine go3 ?_
              trivial
        · have r := r1 (by omega)
          have h00 : ¬ ((w.length : Int) = 0) := by omega
          clear hcg hTg r1 r0 hTl hcl h0
          refine go3 ?_
          trivial
    · obtain ⟨rfl, rfl⟩ := x2 (by intro n; exact hw n.2)
      have hw2 : ¬ ((wide p : Int) = (w.length : Int)) := by omega
      clear m1 m2 a1 a2 x1 x2 mp mq zp zq wd p1 p2 q1 q2 w1 w2 ep hw
      refine go3 ?_
      trivial
end Go.S

end
