/- A part of the proof of the law SolveSolved: an abstract machine for the functions' code with its soundness, words, lemmas (assembled by a program). -/
import Derived.Test.YtflnfnemhgjglaaGreatCSolveSolved5
set_option linter.unusedVariables false
set_option linter.unusedSimpArgs false
set_option linter.unusedSectionVars false
section
set_option linter.unusedVariables false
set_option linter.unusedSimpArgs false
namespace Go.S
open Go Go.AM Go.RowKit Go.K
theorem findIdx_spec {α : Type} [Inhabited α] {l : List α} {p : α → Bool} {i : Nat} (hi : i < l.length) (h1 : p (l.getD i default) = true) (h2 : ∀ j, j < i → p (l.getD j default) = false) : l.findIdx p = i := by
  rw [List.findIdx_eq hi]
  refine ⟨by rw [List.getD_eq_getElem?_getD, List.getElem?_eq_getElem hi] at h1; simpa using h1, fun j hj => ?_⟩
  have := h2 j hj
  rw [List.getD_eq_getElem?_getD, List.getElem?_eq_getElem (by omega)] at this
  simpa using this
theorem findIdx_none {α : Type} [Inhabited α] {l : List α} {p : α → Bool} (h : ∀ j, j < l.length → p (l.getD j default) = false) : ¬ l.findIdx p < l.length := by
  rw [List.findIdx_lt_length]
  rintro ⟨x, hx, hp⟩
  obtain ⟨j, hj, rfl⟩ := List.getElem_of_mem hx
  have := h j (by omega)
  rw [List.getD_eq_getElem?_getD, List.getElem?_eq_getElem hj] at this
  simp [hp] at this
theorem CL_XE {F : Nat → Option AFunc} {f np nt : Nat} {ks : List Nat} {res : List (Nat × Option (Nat × Bool))} {body : ACode} {args : List AV} {h : Heap} {P : AV × Heap → Prop} (hf : F f = some ⟨np, nt, ks, res, body⟩) (hn : args.length = np)
    (H : X F ks (fun e s => ∃ x, FinR res x e s ∧ P x) body ⟨args0 0 args, h⟩ .done) : ∃ x, CL F f args h = some x ∧ P x := by
  obtain ⟨e, s', h1, x, ⟨he, hr⟩, hp⟩ := H
  exact ⟨x, CL_run hf hn h1 he hr, hp⟩
theorem getD_snoc_lt {α : Type} [Inhabited α] {l : List α} {x : α} {i : Nat} (h : i < l.length) : (l ++ [x]).getD i default = l.getD i default := by
  simp [List.getD, List.getElem?_append_left h]
theorem getD_snoc_eq {α : Type} [Inhabited α] {l : List α} {x : α} : (l ++ [x]).getD l.length default = x := by simp [List.getD]
theorem mapM_some {α β : Type} {F : α → Option β} {G : α → β} : ∀ (l : List α), (∀ x ∈ l, F x = some (G x)) → l.mapM F = some (l.map G) := by
  intro l
  induction l with
  | nil => intro _; rfl
  | cons x l ih =>
    intro h
    rw [List.mapM_cons, h x (List.mem_cons_self ..), ih fun y hy => h y (List.mem_cons_of_mem _ hy)]
    rfl
theorem getD_set_self {α : Type} [Inhabited α] {l : List α} {i : Nat} {x : α} (h : i < l.length) : (l.set i x).getD i default = x := by simp [List.getD, h]
theorem getD_set_other {α : Type} [Inhabited α] {l : List α} {i j : Nat} {x : α} (h : i ≠ j) : (l.set i x).getD j default = l.getD j default := by simp [List.getD, List.getElem?_set_ne h]
theorem nodup_getD {l : List Nat} (h : l.Nodup) {i j : Nat} (hi : i < l.length) (hj : j < l.length) (hne : i ≠ j) : l.getD i default ≠ l.getD j default := by
  intro e
  simp only [List.getD, List.getElem?_eq_getElem hi, List.getElem?_eq_getElem hj, Option.getD_some] at e
  rcases Nat.lt_or_ge i j with h1 | h1
  · exact List.pairwise_iff_getElem.1 h i j hi hj h1 e
  · exact List.pairwise_iff_getElem.1 h j i hj hi (by omega) e.symm
end Go.S

end
section
set_option linter.unusedVariables false
set_option linter.unusedSimpArgs false
set_option maxRecDepth 100000
namespace Go.S
open Go Go.AM Go.RowKit Go.K
abbrev eT (t : List (List Rat)) : AV := .lst (em eR t)
abbrev rT (t : List (List Rat)) : AV := .lst (em rR t)
def wide (t : List (List Rat)) : Nat := (t.getD 0 []).length
def even (t : List (List Rat)) : Bool := t.all fun r => decide (r.length = wide t)
theorem even_iff {t : List (List Rat)} : even t = true ↔ ∀ r ∈ t, r.length = wide t := by simp [even]
theorem E_eR : Enc eR 1 := ⟨fun _ => rfl, fun _ => rfl⟩
theorem E_eT : Enc eT 1 := ⟨fun _ => rfl, fun _ => rfl⟩
theorem s_IndexRow {t : List (List Rat)} {g : Nat} {c : Int} {p : List Rat → Bool} (hl : t.length ≤ 1000000) (hg : ∀ x ∈ t, CP (CL F) g [eR x, .fad (.int .i64 c)] = some (.bool (p x))) :
    CP (CL F) 105 [eT t, .fn g [] [.fad (.int .i64 c)]] = some (eI (if t.findIdx p < t.length then (t.findIdx p : Int) else -1)) := by
  refine CP_X (F := F) (f := 105) rfl rfl ?_
  have c1 : ∀ h, fz h (.fn g [] [.fad (.int .i64 c)]) = some (.fn g [] [.fad (.int .i64 c)]) := fun _ => rfl
  have c2 : ∀ h, used h deep (.fn g [] [.fad (.int .i64 c)]) = [] := fun _ => rfl
  have c3 : ∀ h, fz h (.fad (.int .i64 c)) = some (.fad (.int .i64 c)) := fun _ => rfl
  have c4 : ∀ h, used h deep (.fad (.int .i64 c)) = [] := fun _ => rfl
  refine go3 ?_
  refine X_upto t.length (fun i s => ∃ j4 j5 j9 j16 g', (∀ j, j < i → p (t.getD j default) = false) ∧ s = ⟨[(0, eT t), (1, .fn g [] [.fad (.int .i64 c)]), (4, j4), (5, j5), (7, eI t.length), (8, eI i), (9, j9), (16, j16)], g'⟩) ?_ 0 (Nat.zero_le _) _ ⟨_, _, _, _, _, fun j hj => by omega, rfl⟩
  rintro i s hi ⟨j4, j5, j9, j16, g', hall, rfl⟩ rec
  by_cases hlt : i < t.length
  · have hlt2 := lt_c hlt
    have g1 := em_getN (f := eR) t i hlt
    have hc := hg _ (getD_mem (l := t) (i := i) hlt)
    cases hp : p (t.getD i default) with
    | true =>
      rw [findIdx_spec hlt hp hall, if_pos hlt]
      rw [hp] at hc
      clear hall hg rec hi hp
      refine go3 ?_
      trivial
    | false =>
      rw [hp] at hc
      have hnext : ∀ j, j < i + 1 → p (t.getD j default) = false := fun j hj => by
        rcases Nat.lt_or_ge j i with h | h
        · exact hall j h
        · have : j = i := by omega
          subst this; exact hp
      have hw := i64_nat (n := i) (by omega)
      clear hall hg hp
      refine go3 ?_
      exact rec _ hlt ⟨_, _, _, _, _, hnext, rfl⟩
  · have hl3 : ¬ ((i : Int) < (t.length : Int)) := by omega
    have he := findIdx_none (l := t) (p := p) fun j hj => hall j (by omega)
    rw [if_neg he]
    clear hall hg rec he
    refine go3 ?_
    trivial
theorem s_ContainsRow {t : List (List Rat)} {g : Nat} {c : Int} {p : List Rat → Bool} (hl : t.length ≤ 1000000) (hg : ∀ x ∈ t, CP (CL F) g [eR x, .fad (.int .i64 c)] = some (.bool (p x))) :
    CP (CL F) 56 [eT t, .fn g [] [.fad (.int .i64 c)]] = some (.bool (t.any p)) := by
  refine CP_X (F := F) (f := 56) rfl rfl ?_
  have c1 : ∀ h, fz h (.fn g [] [.fad (.int .i64 c)]) = some (.fn g [] [.fad (.int .i64 c)]) := fun _ => rfl
  have c2 : ∀ h, used h deep (.fn g [] [.fad (.int .i64 c)]) = [] := fun _ => rfl
  have h1 := s_IndexRow hl hg
  clear hg
  by_cases h : t.findIdx p < t.length
  · have ha : t.any p = true := by
      rw [List.any_eq_true]
      rw [List.findIdx_lt_length] at h
      exact h
    rw [if_pos h] at h1
    rw [ha]
    have h2 : (0 : Int) ≤ (t.findIdx p : Int) := by omega
    clear ha h
    refine go3 ?_
    trivial
  · have ha : t.any p = false := by
      rw [← Bool.not_eq_true, List.any_eq_true, ← List.findIdx_lt_length]
      exact h
    rw [if_neg h] at h1
    rw [ha]
    clear ha h
    refine go3 ?_
    trivial
theorem s_IndexTab {l : List (List (List Rat))} {g : Nat} {p : List (List Rat) → Bool} (hl : l.length ≤ 1000000) (hg : ∀ x ∈ l, CP (CL F) g [eT x] = some (.bool (p x))) :
    CP (CL F) 147 [.lst (em eT l), .fn g [] []] = some (eI (if l.findIdx p < l.length then (l.findIdx p : Int) else -1)) := by
  refine CP_X (F := F) (f := 147) rfl rfl ?_
  refine go3 ?_
  refine X_upto l.length (fun i s => ∃ j4 j5 j9 j16 g', (∀ j, j < i → p (l.getD j default) = false) ∧ s = ⟨[(0, .lst (em eT l)), (1, .fn g [] []), (4, j4), (5, j5), (7, eI l.length), (8, eI i), (9, j9), (16, j16)], g'⟩) ?_ 0 (Nat.zero_le _) _ ⟨_, _, _, _, _, fun j hj => by omega, rfl⟩
  rintro i s hi ⟨j4, j5, j9, j16, g', hall, rfl⟩ rec
  by_cases hlt : i < l.length
  · have hlt2 := lt_c hlt
    have g1 := em_getN (f := eT) l i hlt
    have hc := hg _ (getD_mem (l := l) (i := i) hlt)
    cases hp : p (l.getD i default) with
    | true =>
      rw [findIdx_spec hlt hp hall, if_pos hlt]
      rw [hp] at hc
      clear hall hg rec hi hp
      refine go3 ?_
      trivial
    | false =>
      rw [hp] at hc
      have hnext : ∀ j, j < i + 1 → p (l.getD j default) = false := fun j hj => by
        rcases Nat.lt_or_ge j i with h | h
        · exact hall j h
        · have : j = i := by omega
          subst this; exact hp
      have hw := i64_nat (n := i) (by omega)
      clear hall hg hp
      refine go3 ?_
      exact rec _ hlt ⟨_, _, _, _, _, hnext, rfl⟩
  · have hl3 : ¬ ((i : Int) < (l.length : Int)) := by omega
    have he := findIdx_none (l := l) (p := p) fun j hj => hall j (by omega)
    rw [if_neg he]
    clear hall hg rec he
    refine go3 ?_
    trivial
theorem s_ContainsTab {l : List (List (List Rat))} {g : Nat} {p : List (List Rat) → Bool} (hl : l.length ≤ 1000000) (hg : ∀ x ∈ l, CP (CL F) g [eT x] = some (.bool (p x))) :
    CP (CL F) 110 [.lst (em eT l), .fn g [] []] = some (.bool (l.any p)) := by
  refine CP_X (F := F) (f := 110) rfl rfl ?_
  have h1 := s_IndexTab hl hg
  clear hg
  by_cases h : l.findIdx p < l.length
  · have ha : l.any p = true := by
      rw [List.any_eq_true]
      rw [List.findIdx_lt_length] at h
      exact h
    rw [if_pos h] at h1
    rw [ha]
    have h2 : (0 : Int) ≤ (l.findIdx p : Int) := by omega
    clear ha h
    refine go3 ?_
    trivial
  · have ha : l.any p = false := by
      rw [← Bool.not_eq_true, List.any_eq_true, ← List.findIdx_lt_length]
      exact h
    rw [if_neg h] at h1
    rw [ha]
    clear ha h
    refine go3 ?_
    trivial
theorem s_Size (t : List (List Rat)) : CP (CL F) 27 [eT t] = some (.tup [eI t.length, eI (wide t)]) := by
  refine CP_X (F := F) (f := 27) rfl rfl ?_
  cases t with
  | nil =>
    have h : wide [] = 0 := rfl
    have h0 : em eR [] = [] := rfl
    refine go3 ?_
    trivial
  | cons r t =>
    have h : wide (r :: t) = r.length := rfl
    have h1 : ¬ (((r :: t).length : Int) = 0) := by simp; omega
    have g1 := em_getN (f := eR) (r :: t) 0 (by simp)
    rw [show (r :: t).getD 0 default = r from rfl] at g1
    generalize r :: t = x at *
    refine go3 ?_
    trivial
theorem s_Check1 (r : List Rat) (c : Int) : CP (CL F) 57 [eR r, .fad (.int .i64 c)] = some (.bool (decide ((r.length : Int) ≠ c))) := by
  refine CP_X (F := F) (f := 57) rfl rfl ?_
  have c3 : ∀ h, fz h (.fad (.int .i64 c)) = some (.fad (.int .i64 c)) := fun _ => rfl
  refine go3 ?_
  simp
def may (t : List (List Rat)) : Bool := decide (t.length ≤ 200) && decide (wide t ≤ 200) && even t
theorem s_Check {t : List (List Rat)} (hl : t.length ≤ 1000000) : CP (CL F) 14 [eT t] = some (eI (if may t then 0 else 8)) := by
  refine CP_X (F := F) (f := 14) rfl rfl ?_
  have h0 := s_Size t
  have h1 := s_ContainsRow (t := t) (g := 57) (c := wide t) hl fun x _ => s_Check1 x _
  have h2 : t.any (fun x => decide ((x.length : Int) ≠ (wide t : Int))) = !even t := by
    unfold even
    rw [List.not_all_eq_any_not]
    congr 1
    funext r
    by_cases h : r.length = wide t
    · simp [h]
    · simp [h]; omega
  have c5 : ∀ g, fz (some ⟨0, 1, [eI (wide t)]⟩ :: g) (.fn 57 [] [.ptr 0 0 0 0]) = some (.fn 57 [] [.fad (eI (wide t))]) := fun _ => rfl
  have c6 : ∀ g, used (some ⟨0, 1, [eI (wide t)]⟩ :: g) deep (.fn 57 [] [.ptr 0 0 0 0]) = [0] := fun _ => rfl
  rw [h2] at h1
  clear h2
  by_cases a1 : t.length ≤ 200
  · have b1 : ¬ ((200 : Int) < (t.length : Int)) := by omega
    by_cases a2 : wide t ≤ 200
    · have b2 : ¬ ((200 : Int) < (wide t : Int)) := by omega
      cases h3 : even t with
      | true =>
        have h4 : may t = true := by simp [may, a1, a2, h3]
        rw [h3] at h1
        rw [Bool.not_true] at h1
        rw [h4, if_pos rfl]
        clear h3 h4 a1 a2
        refine go3 ?_
        trivial
      | false =>
        have h4 : may t = false := by simp [may, a1, a2, h3]
        rw [h3] at h1
        rw [Bool.not_false] at h1
        rw [h4, if_neg (by decide)]
        clear h3 h4 a1 a2
        refine go3 ?_
        trivial
    · have b2 : (200 : Int) < (wide t : Int) := by omega
      have h4 : may t = false := by simp [may, a2]
      rw [h4, if_neg (by decide)]
      clear h4 a1 a2
      refine go3 ?_
      trivial
  · have b1 : (200 : Int) < (t.length : Int) := by omega
    have h4 : may t = false := by simp [may, a1]
    rw [h4, if_neg (by decide)]
    clear h4 a1
    refine go3 ?_
    trivial
theorem s_checks1 {t : List (List Rat)} (hl : t.length ≤ 1000000) : CP (CL F) 111 [eT t] = some (.bool (!may t)) := by
  refine CP_X (F := F) (f := 111) rfl rfl ?_
  have h := s_Check hl
  cases h1 : may t with
  | true =>
    rw [h1] at h
    rw [if_pos rfl] at h
    clear h1
    refine go3 ?_
    trivial
  | false =>
    rw [h1] at h
    rw [if_neg (by decide)] at h
    clear h1
    refine go3 ?_
    trivial
theorem s_checks {l : List (List (List Rat))} (hl : l.length ≤ 1000000) (ht : ∀ t ∈ l, t.length ≤ 1000000) : CP (CL F) 66 [.lst (em eT l)] = some (.bool (l.all may)) := by
  refine CP_X (F := F) (f := 66) rfl rfl ?_
  have h := s_ContainsTab (l := l) (g := 111) hl fun x hx => s_checks1 (ht x hx)
  have h2 : l.all may = !(l.any fun x => !may x) := by rw [List.not_any_eq_all_not]; simp
  rw [h2]
  cases h3 : l.any fun x => !may x with
  | true =>
    rw [h3] at h
    clear h2 h3 ht
    refine go3 ?_
    trivial
  | false =>
    rw [h3] at h
    clear h2 h3 ht
    refine go3 ?_
    trivial
end Go.S

end
section
set_option linter.unusedVariables false
set_option linter.unusedSimpArgs false
set_option maxRecDepth 100000
namespace Go.S
open Go Go.AM Go.RowKit Go.K
theorem s_Few_raw {l : List XQ} (hx : ∀ x ∈ l, x.ok) {most : Nat} (hm : most ≤ 1000000) : ∃ qs : List Rat, qs.length = min l.length most ∧ (∀ q ∈ qs, Lq q ≤ 1) ∧ ∀ h, ∃ v w g, CL F 44 [.lst (em eX l), eI most] h = some (.tup [.ref h.length v 3 0 qs.length, .ref (h.length + 1) w 3 0 qs.length], h ++ (some ⟨v, 3, em eQ qs⟩ :: some ⟨w, 3, em rQ qs⟩ :: g)) := by
  have hex : ∃ f : XQ → Rat, ∀ x ∈ l, Lq (f x) ≤ 1 ∧ CP (CL F) 91 [eX x, eI 1] = some (eQ (f x)) := by
    classical
    refine ⟨fun x => if h : x ∈ l then (s_r08_CleanX (hx x h) (m := 1) (by decide) (by decide)).choose else 0, fun x h => ?_⟩
    simp only [h, dif_pos]
    exact (s_r08_CleanX (hx x h) (m := 1) (by decide) (by decide)).choose_spec
  obtain ⟨f, hf⟩ := hex
  refine ⟨(l.take most).map f, by simp; omega, fun q hq => by
    obtain ⟨x, hx, rfl⟩ := List.mem_map.1 hq
    exact (hf x (List.mem_of_mem_take hx)).1, fun h => ?_⟩
  suffices H : ∃ x, CL F 44 [.lst (em eX l), eI most] h = some x ∧ ∃ v w g, x = (.tup [.ref h.length v 3 0 ((l.take most).map f).length, .ref (h.length + 1) w 3 0 ((l.take most).map f).length], h ++ (some ⟨v, 3, em eQ ((l.take most).map f)⟩ :: some ⟨w, 3, em rQ ((l.take most).map f)⟩ :: g)) by
    obtain ⟨x, h1, v, w, g, rfl⟩ := H
    exact ⟨v, w, g, h1⟩
  refine CL_XE (F := F) (f := 44) rfl rfl ?_
  have c1 := @cells_eX
  have c2 := @agg_eX
  have c3 := @fz_eX
  have c4 := @us_eX
  have c5 := @shut_eX
  clear hx
  refine go3 ?_
  refine X_upto (min l.length most) (fun i s => ∃ j4 j5 j9 j20 v w g, s = ⟨[(0, .lst (em eX l)), (1, eI most), (4, j4), (5, j5), (6, .ref h.length v 3 0 i), (7, .ref (h.length + 1) w 3 0 i), (8, eI i), (9, j9), (20, j20)], h ++ (some ⟨v, 3, em eQ ((l.take i).map f)⟩ :: some ⟨w, 3, em rQ ((l.take i).map f)⟩ :: g)⟩) ?_ 0 (Nat.zero_le _) _ ⟨_, _, _, _, _, _, [], rfl⟩
  rintro i s hi ⟨j4, j5, j9, j20, v, w, g, rfl⟩ rec
  have hlen : ((l.take i).map f).length = i := by simp; omega
  have ht : List.take i ((l.take i).map f) = (l.take i).map f := take_len_g _ hlen.symm
  by_cases h1 : i < l.length
  · have h1' := lt_c h1
    by_cases h2 : i < most
    · have h2' := lt_c h2
      have hi2 : i < min l.length most := by omega
      have hg0 := em_getN (f := eX) l i h1
      obtain ⟨f1, f2⟩ := hf _ (getD_mem h1)
      have k1 := s_r08_Of (q := f (l.getD i default)) (by omega)
      have hs : (l.take i).map f ++ [f (l.getD i default)] = (l.take (i + 1)).map f := by rw [take_succ_getD l i h1]; simp
      have hlim : i + 1 ≤ 2513169434916 := by omega
      have hlim2 : i < 2513169434916 := by omega
      have hw := i64_nat (n := i) (by omega)
      clear hf f1 hlen hi
      refine go3 ?_
      exact rec _ hi2 ⟨_, _, _, _, _, _, _, rfl⟩
    · have h2' : ¬ ((i : Int) < (most : Int)) := by omega
      have hi2 : i = most := by omega
      subst hi2
      clear hf rec hi h1
      refine go3 ?_
      exact ⟨_, rfl, _, _, _, rfl⟩
  · have h1' : ¬ ((i : Int) < (l.length : Int)) := by omega
    have hi2 : l.take most = l := List.take_of_length_le (by omega)
    have hi3 : l.take i = l := List.take_of_length_le (by omega)
    rw [hi3] at hlen
    have ht2 : List.take i (l.map f) = l.map f := take_len_g _ hlen.symm
    rw [hi2, hi3]
    clear hf rec hi h1 hi2 hi3
    refine go3 ?_
    exact ⟨_, rfl, _, _, _, rfl⟩
def RowAt (b : Nat) (g : Heap) (f : Rat → AV) (c : AV) (r : List Rat) (k : Nat) : Prop := ∃ v ys, c = .ref (b + k) v 3 0 r.length ∧ g[k]? = some (some ⟨v, 3, em f r ++ ys⟩)
def RowsIn (b : Nat) (g : Heap) (f : Rat → AV) (cs : List AV) (t : List (List Rat)) (ks : List Nat) : Prop :=
  cs.length = t.length ∧ ks.length = t.length ∧ ∀ i, i < t.length → RowAt b g f (cs.getD i default) (t.getD i default) (ks.getD i default)
theorem RowAt.lt {b : Nat} {g : Heap} {f : Rat → AV} {c : AV} {r : List Rat} {k : Nat} (h : RowAt b g f c r k) : k < g.length := by
  obtain ⟨v, ys, rfl, h⟩ := h
  exact (List.getElem?_eq_some_iff.1 h).1
theorem RowAt.grow {b : Nat} {g : Heap} {f : Rat → AV} {c : AV} {r : List Rat} {k : Nat} (h : RowAt b g f c r k) (g' : Heap) : RowAt b (g ++ g') f c r k := by
  obtain ⟨v, ys, h1, h2⟩ := h
  refine ⟨v, ys, h1, ?_⟩
  rw [List.getElem?_append_left (List.getElem?_eq_some_iff.1 h2).1]
  exact h2
theorem RowAt.set {b : Nat} {g : Heap} {f : Rat → AV} {c : AV} {r : List Rat} {k : Nat} (h : RowAt b g f c r k) {j : Nat} (hj : j ≠ k) (x : Option Blk) : RowAt b (g.set j x) f c r k := by
  obtain ⟨v, ys, h1, h2⟩ := h
  refine ⟨v, ys, h1, ?_⟩
  rw [List.getElem?_set_ne hj]
  exact h2
theorem RowsIn.grow {b : Nat} {g : Heap} {f : Rat → AV} {cs : List AV} {t : List (List Rat)} {ks : List Nat} (h : RowsIn b g f cs t ks) (g' : Heap) : RowsIn b (g ++ g') f cs t ks :=
  ⟨h.1, h.2.1, fun i hi => (h.2.2 i hi).grow g'⟩
theorem RowsIn.snoc {b : Nat} {g : Heap} {f : Rat → AV} {cs : List AV} {t : List (List Rat)} {ks : List Nat} (h : RowsIn b g f cs t ks) {c : AV} {r : List Rat} {k : Nat} (h1 : RowAt b g f c r k) : RowsIn b g f (cs ++ [c]) (t ++ [r]) (ks ++ [k]) := by
  obtain ⟨a1, a2, a3⟩ := h
  refine ⟨by simp [a1], by simp [a2], fun i hi => ?_⟩
  by_cases hl : i < t.length
  · rw [getD_snoc_lt (by omega), getD_snoc_lt hl, getD_snoc_lt (by omega)]
    exact a3 i hl
  · have : i = t.length := by simp at hi; omega
    subst this
    rw [getD_snoc_eq]
    rw [← a1, getD_snoc_eq, a1, ← a2, getD_snoc_eq]
    exact h1
theorem RowsIn.lt {b : Nat} {g : Heap} {f : Rat → AV} {cs : List AV} {t : List (List Rat)} {ks : List Nat} (h : RowsIn b g f cs t ks) : ∀ k ∈ ks, k < g.length := fun k hk => by
  obtain ⟨i, hi, rfl⟩ := List.getElem_of_mem hk
  have := (h.2.2 i (by have := h.2.1; omega)).lt
  rw [List.getD_eq_getElem?_getD, List.getElem?_eq_getElem hi] at this
  exact this
abbrev eXL (l : List XQ) : AV := .lst (em eX l)
theorem s_Few12_raw {t : List (List XQ)} (hx : ∀ l ∈ t, ∀ x ∈ l, x.ok) {most : Nat} (hm : most ≤ 1000000) : ∃ qs : List (List Rat), qs.length = min t.length most ∧ (∀ r ∈ qs, r.length ≤ most ∧ ∀ q ∈ r, Lq q ≤ 1) ∧
    ∀ h, ∃ v w cs ds ks ls g, CL F 11 [.lst (em eXL t), eI most] h = some (.tup [.ref h.length v 1 0 qs.length, .ref (h.length + 1) w 1 0 qs.length], h ++ (some ⟨v, 1, cs⟩ :: some ⟨w, 1, ds⟩ :: g)) ∧
      RowsIn (h.length + 2) g eQ cs qs ks ∧ RowsIn (h.length + 2) g rQ ds qs ls ∧ (ks ++ ls).Nodup := by
  have hex : ∃ f : List XQ → List Rat, ∀ l ∈ t, (f l).length = min l.length most ∧ (∀ q ∈ f l, Lq q ≤ 1) ∧ ∀ h, ∃ v w g, CL F 44 [eXL l, eI most] h = some (.tup [.ref h.length v 3 0 (f l).length, .ref (h.length + 1) w 3 0 (f l).length], h ++ (some ⟨v, 3, em eQ (f l)⟩ :: some ⟨w, 3, em rQ (f l)⟩ :: g)) := by
    classical
    refine ⟨fun l => if h : l ∈ t then (s_Few_raw (hx l h) hm).choose else [], fun l h => ?_⟩
    simp only [h, dif_pos]
    exact (s_Few_raw (hx l h) hm).choose_spec
  obtain ⟨f, hf⟩ := hex
  refine ⟨(t.take most).map f, by simp; omega, fun r hr => ?_, fun h => ?_⟩
  · obtain ⟨l, hl, rfl⟩ := List.mem_map.1 hr
    obtain ⟨h1, h2, _⟩ := hf l (List.mem_of_mem_take hl)
    exact ⟨by omega, h2⟩
  suffices H : ∃ x, CL F 11 [.lst (em eXL t), eI most] h = some x ∧ ∃ v w cs ds ks ls g, x = (.tup [.ref h.length v 1 0 ((t.take most).map f).length, .ref (h.length + 1) w 1 0 ((t.take most).map f).length], h ++ (some ⟨v, 1, cs⟩ :: some ⟨w, 1, ds⟩ :: g)) ∧
      RowsIn (h.length + 2) g eQ cs ((t.take most).map f) ks ∧ RowsIn (h.length + 2) g rQ ds ((t.take most).map f) ls ∧ (ks ++ ls).Nodup by
    obtain ⟨x, h1, v, w, cs, ds, ks, ls, g, rfl, h2⟩ := H
    exact ⟨v, w, cs, ds, ks, ls, g, h1, h2⟩
  refine CL_XE (F := F) (f := 11) rfl rfl ?_
  clear hx
  refine go3 ?_
  refine X_upto (min t.length most) (fun i s => ∃ j4 j5 j9 j10 j21 v w cs ds ks ls g, RowsIn (h.length + 2) g eQ cs ((t.take i).map f) ks ∧ RowsIn (h.length + 2) g rQ ds ((t.take i).map f) ls ∧ (ks ++ ls).Nodup ∧
    s = ⟨[(0, .lst (em eXL t)), (1, eI most), (4, j4), (5, j5), (6, .ref h.length v 1 0 i), (7, .ref (h.length + 1) w 1 0 i), (8, eI i), (9, j9), (10, j10), (21, j21)], h ++ (some ⟨v, 1, cs⟩ :: some ⟨w, 1, ds⟩ :: g)⟩) ?_ 0 (Nat.zero_le _) _
    ⟨_, _, _, _, _, _, _, [], [], [], [], [], ⟨rfl, rfl, fun i hi => by simp at hi⟩, ⟨rfl, rfl, fun i hi => by simp at hi⟩, by simp, rfl⟩
  rintro i s hi ⟨j4, j5, j9, j10, j21, v, w, cs, ds, ks, ls, g, R1, R2, R3, rfl⟩ rec
  have hlen : ((t.take i).map f).length = i := by simp; omega
  have l1 : cs.length = i := by rw [R1.1, hlen]
  have l2 : ds.length = i := by rw [R2.1, hlen]
  have ht1 : List.take i cs = cs := take_len_g _ l1.symm
  have ht2 : List.take i ds = ds := take_len_g _ l2.symm
  have ht3 : sub cs 0 i = cs := by unfold sub; rw [List.drop_zero]; exact ht1
  have ht4 : sub ds 0 i = ds := by unfold sub; rw [List.drop_zero]; exact ht2
  by_cases h1 : i < t.length
  · have h1' := lt_c h1
    by_cases h2 : i < most
    · have h2' := lt_c h2
      have hi2 : i < min t.length most := by omega
      have hg0 := em_getN (f := eXL) t i h1
      obtain ⟨f1, f2, f3⟩ := hf _ (getD_mem h1)
      obtain ⟨v', w', g', f4⟩ := f3 (h ++ (some ⟨v, 1, cs⟩ :: some ⟨w, 1, ds⟩ :: g))
      have hs : (t.take i).map f ++ [f (t.getD i default)] = (t.take (i + 1)).map f := by rw [take_succ_getD t i h1]; simp
      have hlim : i + 1 ≤ 5864062014805 := by omega
      have hlim2 : i < 5864062014805 := by omega
      have hw := i64_nat (n := i) (by omega)
      generalize hr : f (t.getD i default) = r at *
      clear hf f1 f2 f3 hlen hi
      refine go3 ?_
      refine rec _ hi2 ⟨_, _, _, _, _, _, _, _, _, ks ++ [g.length], ls ++ [g.length + 1], _, ?_, ?_, ?_, rfl⟩
      · rw [← hs]
        refine (R1.grow _).snoc ?_
        refine ⟨v', [], by congr 1; omega, ?_⟩
        rw [get_app0, List.append_nil]
        rfl
      · rw [← hs]
        refine (R2.grow _).snoc ?_
        refine ⟨w', [], by congr 1; omega, ?_⟩
        rw [get_app, List.append_nil]
        rfl
      · have q1 := R1.lt
        have q2 := R2.lt
        rw [List.nodup_append] at R3 ⊢
        obtain ⟨n1, n2, n3⟩ := R3
        refine ⟨?_, ?_, ?_⟩
        · rw [List.nodup_append]
          exact ⟨n1, by simp, fun a ha b hb => by have := q1 a ha; simp at hb; omega⟩
        · rw [List.nodup_append]
          exact ⟨n2, by simp, fun a ha b hb => by have := q2 a ha; simp at hb; omega⟩
        · intro a ha b hb
          simp only [List.mem_append, List.mem_singleton] at ha hb
          rcases ha with ha | rfl
          · rcases hb with hb | rfl
            · exact n3 a ha b hb
            · have := q1 a ha; omega
          · rcases hb with hb | rfl
            · have := q2 b hb; omega
            · omega
    · have h2' : ¬ ((i : Int) < (most : Int)) := by omega
      have hi2 : i = most := by omega
      subst hi2
      clear hf rec hi h1
      refine go3 ?_
      exact ⟨_, rfl, _, _, _, _, _, _, _, rfl, R1, R2, R3⟩
  · have h1' : ¬ ((i : Int) < (t.length : Int)) := by omega
    have hi2 : t.take most = t := List.take_of_length_le (by omega)
    have hi3 : t.take i = t := List.take_of_length_le (by omega)
    rw [hi3] at hlen R1 R2
    rw [hi2]
    clear hf rec hi h1 hi2 hi3
    refine go3 ?_
    exact ⟨_, rfl, _, _, _, _, _, _, _, rfl, R1, R2, R3⟩
theorem RowAt.frz {b : Nat} {g H : Heap} {f : Rat → AV} {c : AV} {r : List Rat} {k : Nat} (h : RowAt b g f c r k) (hf : ∀ x, plain1 (f x) = true) (hH : H[b + k]? = g[k]?) (n : Nat) : frz H (n + 3) c = some (.lst (em f r)) := by
  obtain ⟨v, ys, rfl, h2⟩ := h
  show (blk H (b + k) v).bind (fun b => ((sub b.xs 0 r.length).mapM (Go.AM.frz H (n + 2))).map AV.lst) = _
  have h3 : blk H (b + k) v = some ⟨v, 3, em f r ++ ys⟩ := by
    unfold blk
    rw [hH, h2]
    exact if_pos rfl
  rw [h3]
  have h4 : sub (em f r ++ ys) 0 r.length = em f r := by
    unfold sub
    rw [List.drop_zero, List.take_left' (by simp [em])]
  show ((sub (em f r ++ ys) 0 r.length).mapM (Go.AM.frz H (n + 2))).map AV.lst = _
  rw [h4, mapM_some (G := id) _ fun x hx => by
    obtain ⟨q, _, rfl⟩ := List.mem_map.1 hx
    exact (frz_plain1 (hf q)).1]
  simp
theorem RowsIn.frz {b : Nat} {g H : Heap} {f : Rat → AV} {cs : List AV} {t : List (List Rat)} {ks : List Nat} (h : RowsIn b g f cs t ks) (hf : ∀ x, plain1 (f x) = true) (hH : ∀ k, H[b + k]? = g[k]?) (n : Nat) : cs.mapM (frz H (n + 3)) = some (em (fun r => .lst (em f r)) t) := by
  obtain ⟨h1, h2, h3⟩ := h
  have key : ∀ (cs : List AV) (t : List (List Rat)), cs.length = t.length → (∀ i, i < t.length → Go.AM.frz H (n + 3) (cs.getD i default) = some (.lst (em f (t.getD i default)))) → cs.mapM (Go.AM.frz H (n + 3)) = some (em (fun r => .lst (em f r)) t) := by
    intro cs
    induction cs with
    | nil =>
      intro t ht _
      cases t with
      | nil => rfl
      | cons r t => simp at ht
    | cons c cs ih =>
      intro t ht hi
      cases t with
      | nil => simp at ht
      | cons r t =>
        have a0 := hi 0 (by simp)
        have a1 := ih t (by simpa using ht) fun i hi' => hi (i + 1) (by simp; omega)
        rw [List.mapM_cons]
        rw [show Go.AM.frz H (n + 3) c = some (.lst (em f r)) from a0, a1]
        rfl
  exact key cs t h1 fun i hi => (h3 i hi).frz hf (hH _) n
theorem fz_rows2 {h : Heap} {v w : Nat} {cs ds : List AV} {g : Heap} {t : List (List Rat)} {ks ls : List Nat} (R1 : RowsIn (h.length + 2) g eQ cs t ks) (R2 : RowsIn (h.length + 2) g rQ ds t ls) :
    fz (h ++ (some ⟨v, 1, cs⟩ :: some ⟨w, 1, ds⟩ :: g)) (.tup [.ref h.length v 1 0 t.length, .ref (h.length + 1) w 1 0 t.length]) = some (.tup [eT t, rT t]) := by
  have hH : ∀ k, (h ++ (some ⟨v, 1, cs⟩ :: some ⟨w, 1, ds⟩ :: g))[h.length + 2 + k]? = g[k]? := fun k => by
    rw [Nat.add_assoc, get_app, show 2 + k = k + 1 + 1 by omega]
    rfl
  have a1 := R1.frz (fun x => E_eQ.pl x) hH 2
  have a2 := R2.frz (fun x => E_rQ.pl x) hH 2
  have b1 : blk (h ++ (some ⟨v, 1, cs⟩ :: some ⟨w, 1, ds⟩ :: g)) h.length v = some ⟨v, 1, cs⟩ := by
    unfold blk
    rw [get_app0]
    exact if_pos rfl
  have b2 : blk (h ++ (some ⟨v, 1, cs⟩ :: some ⟨w, 1, ds⟩ :: g)) (h.length + 1) w = some ⟨w, 1, ds⟩ := by
    unfold blk
    rw [get_app]
    exact if_pos rfl
  generalize h ++ (some ⟨v, 1, cs⟩ :: some ⟨w, 1, ds⟩ :: g) = H at *
  have c1 : sub cs 0 t.length = cs := by unfold sub; rw [List.drop_zero]; exact List.take_of_length_le (by rw [R1.1]; omega)
  have c2 : sub ds 0 t.length = ds := by unfold sub; rw [List.drop_zero]; exact List.take_of_length_le (by rw [R2.1]; omega)
  have d1 : frz H 6 (.ref h.length v 1 0 t.length) = some (eT t) := by
    show (blk H h.length v).bind (fun b => ((sub b.xs 0 t.length).mapM (Go.AM.frz H 5)).map AV.lst) = _
    rw [b1]
    show ((sub cs 0 t.length).mapM (Go.AM.frz H 5)).map AV.lst = _
    rw [c1, a1]
    rfl
  have d2 : frz H 6 (.ref (h.length + 1) w 1 0 t.length) = some (rT t) := by
    show (blk H (h.length + 1) w).bind (fun b => ((sub b.xs 0 t.length).mapM (Go.AM.frz H 5)).map AV.lst) = _
    rw [b2]
    show ((sub ds 0 t.length).mapM (Go.AM.frz H 5)).map AV.lst = _
    rw [c2, a2]
    rfl
  show ([AV.ref h.length v 1 0 t.length, .ref (h.length + 1) w 1 0 t.length].mapM (Go.AM.frz H 6)).map AV.tup = _
  rw [List.mapM_cons, d1, List.mapM_cons, d2]
  rfl
end Go.S

end
section
set_option linter.unusedVariables false
set_option linter.unusedSimpArgs false
set_option maxRecDepth 100000
namespace Go.Proofs.YtflnfnemhgjglaaGreat.R
open Go Go.AM Go.S Go.RowKit Go.K Go.Proofs
theorem rdT : Rd Tryz.prog 22 (fun l : List (List XQ) => [.lst (em eXL l)]) fun l => ∀ r ∈ l, ∀ x ∈ r, x.ok :=
  (rd_slice Tryz.underlying22 rdR eXL (fun _ => rfl) (s := 1) (by kernel_rfl) (fun _ => rfl) (by decide)).map id (fun _ => rfl) fun l h => h.1
end Go.Proofs.YtflnfnemhgjglaaGreat.R

end
section
set_option linter.unusedVariables false
set_option linter.unusedSimpArgs false
set_option maxRecDepth 100000
namespace Go.S
open Go Go.AM Go.RowKit Go.K
theorem getD_inj' {α : Type} [Inhabited α] {l r : List α} {i : Nat} (hne : l.getD i default ≠ r.getD i default) : l ≠ r := fun e => hne (by rw [e])
theorem s_EqualRows {a b : List (List Rat)} {g : Nat} (ha : a.length ≤ 1000000) (hg : ∀ x ∈ a, ∀ y ∈ b, CP (CL F) g [eR x, eR y] = some (.bool (decide (x = y)))) :
    CP (CL F) 63 [eT a, eT b, .fn g [] []] = some (.bool (decide (a = b))) := by
  refine CP_X (F := F) (f := 63) rfl rfl ?_
  by_cases hl : a.length = b.length
  · have hl1 : ¬ ((a.length : Int) ≠ (b.length : Int)) := by omega
    have hl2 : (a.length : Int) = (b.length : Int) := by omega
    refine go3 ?_
    refine X_upto a.length (fun i s => ∃ j6 j7 j8 j9 j18 j30 g', (a.take i = b.take i) ∧ s = ⟨[(0, eT a), (1, eT b), (2, .fn g [] []), (6, j6), (7, j7), (8, j8), (9, j9), (14, .bool false), (15, eT a), (16, eI b.length), (17, eI i), (18, j18), (30, j30)], g'⟩) ?_ 0 (Nat.zero_le _) _ ⟨_, _, _, _, _, _, _, by simp, rfl⟩
    rintro i s hi ⟨j6, j7, j8, j9, j18, j30, g', heq, rfl⟩ rec
    by_cases hlt : i < a.length
    · have hlt1 : (i : Int) < (b.length : Int) := by omega
      have hlt2 : (i : Int) < (a.length : Int) := by omega
      have g1 := em_getN (f := eR) a i (by omega)
      have g2 := em_getN (f := eR) b i (by omega)
      have hc := hg _ (getD_mem (l := a) (i := i) (by omega)) _ (getD_mem (l := b) (i := i) (by omega))
      by_cases hx : a.getD i default = b.getD i default
      · have hx' : decide (a.getD i default = b.getD i default) = true := decide_eq_true hx
        rw [hx'] at hc
        have hnext : a.take (i + 1) = b.take (i + 1) := by rw [take_succ_getD a i hlt, take_succ_getD b i (by omega), heq, hx]
        have hw := i64_nat (n := i) (by omega)
        clear hx hx' heq hg
        refine go3 ?_
        exact rec _ hlt ⟨_, _, _, _, _, _, _, hnext, rfl⟩
      · have hx' : decide (a.getD i default = b.getD i default) = false := decide_eq_false hx
        rw [hx'] at hc
        have hne : decide (a = b) = false := by simpa using getD_inj' hx
        clear hx hx' heq hg rec
        refine go3 ?_
        trivial
    · have hl3 : ¬ ((i : Int) < (b.length : Int)) := by omega
      have he : decide (a = b) = true := by
        rw [List.take_of_length_le (by omega), List.take_of_length_le (by omega)] at heq
        simpa using heq
      clear heq hg rec
      refine go3 ?_
      trivial
  · have hl1 : (a.length : Int) ≠ (b.length : Int) := by omega
    have hl2 : ¬ (a.length : Int) = (b.length : Int) := by omega
    have he : decide (a = b) = false := by simpa using fun e => hl (by rw [e])
    clear hg
    refine go3 ?_
    trivial
theorem s_mSame {a b : List (List Rat)} (ha : a.length ≤ 1000000) (h0 : ∀ r ∈ a, r.length ≤ 1000000 ∧ ∀ q ∈ r, Lq q < 100000000) : CP (CL F) 21 [eT a, eT b] = some (.bool (decide (a = b))) := by
  refine CP_X (F := F) (f := 21) rfl rfl ?_
  have h := s_EqualRows (a := a) (b := b) (g := 64) ha fun x hx y hy => s_vect_Same (h0 x hx).1 (h0 x hx).2
  clear h0
  refine go3 ?_
  trivial
end Go.S

end
section
set_option linter.unusedVariables false
set_option linter.unusedSimpArgs false
namespace Go.S
abbrev Mt := Nat → Nat → Rat
def sm : Nat → (Nat → Rat) → Rat
  | 0, _ => 0
  | n + 1, f => sm n f + f n
theorem sm_congr {n : Nat} {f g : Nat → Rat} (h : ∀ i, i < n → f i = g i) : sm n f = sm n g := by
  induction n with
  | zero => rfl
  | succ n ih => simp only [sm]; rw [ih fun i hi => h i (by omega), h n (by omega)]
theorem sm_zero (n : Nat) : sm n (fun _ => 0) = 0 := by
  induction n with
  | zero => rfl
  | succ n ih => simp only [sm]; rw [ih]; grind
theorem sm_zero' {n : Nat} {f : Nat → Rat} (h : ∀ i, i < n → f i = 0) : sm n f = 0 := (sm_congr h).trans (sm_zero n)
theorem sm_add (n : Nat) (f g : Nat → Rat) : sm n (fun i => f i + g i) = sm n f + sm n g := by
  induction n with
  | zero => simp only [sm]; grind
  | succ n ih => simp only [sm]; rw [ih]; grind
theorem sm_mul (n : Nat) (k : Rat) (f : Nat → Rat) : sm n (fun i => k * f i) = k * sm n f := by
  induction n with
  | zero => simp only [sm]; grind
  | succ n ih => simp only [sm]; rw [ih]; grind
theorem sm_neg (n : Nat) (f : Nat → Rat) : sm n (fun i => -f i) = -sm n f := by
  rw [sm_congr (g := fun i => (-1) * f i) fun i _ => by grind, sm_mul]; grind
theorem sm_one {n j : Nat} {f : Nat → Rat} (hj : j < n) (h : ∀ i, i < n → i ≠ j → f i = 0) : sm n f = f j := by
  induction n with
  | zero => omega
  | succ n ih =>
    simp only [sm]
    by_cases e : j = n
    · subst e
      rw [sm_zero' fun i hi => h i (by omega) (by omega)]; grind
    · rw [ih (by omega) fun i hi hne => h i (by omega) hne, h n (by omega) (by omega)]; grind
def psg (j : Nat) : Rat := if j % 2 = 0 then 1 else -1
theorem psg_succ (j : Nat) : psg (j + 1) = -psg j := by
  unfold psg
  rcases Nat.mod_two_eq_zero_or_one j with h | h
  · rw [if_neg (by omega), if_pos h]
  · rw [if_pos (by omega), if_neg (by omega)]; grind
def sk (j c : Nat) : Nat := if c < j then c else c + 1
def cut (A : Mt) (j : Nat) : Mt := fun i c => A (i + 1) (sk j c)
def det : Nat → Mt → Rat
  | 0, _ => 1
  | n + 1, A => sm (n + 1) fun j => psg j * A 0 j * det n (cut A j)
theorem det_succ (n : Nat) (A : Mt) : det (n + 1) A = sm (n + 1) fun j => psg j * A 0 j * det n (cut A j) := rfl
theorem sk_lt {j c n : Nat} (h : c < n) : sk j c < n + 1 := by unfold sk; split <;> omega
theorem det_congr {n : Nat} : ∀ {A B : Mt}, (∀ i c, i < n → c < n → A i c = B i c) → det n A = det n B := by
  induction n with
  | zero => intro A B h; rfl
  | succ n ih =>
    intro A B h
    rw [det_succ, det_succ]
    refine sm_congr fun j hj => ?_
    rw [h 0 j (by omega) hj, ih (A := cut A j) (B := cut B j) fun i c hi hc => h (i + 1) (sk j c) (by omega) (sk_lt hc)]
def setr (A : Mt) (r : Nat) (f : Nat → Rat) : Mt := fun i c => if i = r then f c else A i c
theorem cut_setr0 (A : Mt) (f : Nat → Rat) (j : Nat) : cut (setr A 0 f) j = cut A j := by
  funext i c; simp [cut, setr]
theorem cut_setr (A : Mt) (r : Nat) (f : Nat → Rat) (j : Nat) : cut (setr A (r + 1) f) j = setr (cut A j) r (fun c => f (sk j c)) := by
  funext i c; simp [cut, setr]
theorem det_lin {n : Nat} : ∀ {A : Mt} {r : Nat} (f g : Nat → Rat) (k : Rat), r < n → det n (setr A r fun c => f c + k * g c) = det n (setr A r f) + k * det n (setr A r g) := by
  induction n with
  | zero => intro A r f g k h; omega
  | succ n ih =>
    intro A r f g k h
    rw [det_succ, det_succ, det_succ, ← sm_mul, ← sm_add]
    refine sm_congr fun j hj => ?_
    cases r with
    | zero =>
      rw [cut_setr0, cut_setr0, cut_setr0]
      simp only [setr, if_true]
      grind
    | succ r =>
      rw [cut_setr, cut_setr, cut_setr, ih (fun c => f (sk j c)) (fun c => g (sk j c)) k (by omega)]
      simp only [setr]
      rw [if_neg (by omega), if_neg (by omega), if_neg (by omega)]
      grind
theorem pairs (N : Nat) (F : Nat → Nat → Rat) : sm (N + 1) (fun j => sm N (F j)) = sm (N + 1) fun j => sm j fun k => F j k + F k (j - 1) := by
  induction N with
  | zero => simp only [sm]
  | succ N ih =>
    have e1 : sm (N + 1) (fun j => sm (N + 1) (F j)) = sm (N + 1) (fun j => sm N (F j)) + sm (N + 1) fun j => F j N := by
      rw [← sm_add]; rfl
    have e2 : sm (N + 1) (fun k => F (N + 1) k + F k (N + 1 - 1)) = sm (N + 1) (F (N + 1)) + sm (N + 1) fun k => F k N := by
      rw [← sm_add]; rfl
    show sm (N + 1) (fun j => sm (N + 1) (F j)) + sm (N + 1) (F (N + 1)) = sm (N + 1) (fun j => sm j fun k => F j k + F k (j - 1)) + sm (N + 1) (fun k => F (N + 1) k + F k (N + 1 - 1))
    rw [e1, e2, ih]
    grind
theorem cut_cut (A : Mt) {j k : Nat} (h : k < j) : cut (cut A k) (j - 1) = cut (cut A j) k := by
  funext i c
  unfold cut
  congr 1
  by_cases h1 : c < k
  · have a1 : sk (j - 1) c = c := by unfold sk; rw [if_pos (by omega)]
    have a2 : sk k c = c := by unfold sk; rw [if_pos h1]
    have a3 : sk j c = c := by unfold sk; rw [if_pos (by omega)]
    rw [a1, a2, a3]
  · have a2 : sk k c = c + 1 := by unfold sk; rw [if_neg h1]
    by_cases h2 : c < j - 1
    · have a1 : sk (j - 1) c = c := by unfold sk; rw [if_pos h2]
      have a3 : sk j (c + 1) = c + 1 := by unfold sk; rw [if_pos (by omega)]
      rw [a1, a2, a3]
    · have a1 : sk (j - 1) c = c + 1 := by unfold sk; rw [if_neg h2]
      have a3 : sk j (c + 1) = c + 2 := by unfold sk; rw [if_neg (by omega)]
      have a4 : sk k (c + 1) = c + 2 := by unfold sk; rw [if_neg (by omega)]
      rw [a1, a2, a3, a4]
def sw (A : Mt) (r : Nat) : Mt := fun i => A (if i = r then r + 1 else if i = r + 1 then r else i)
theorem det_two (m : Nat) (A : Mt) : det (m + 2) A = sm (m + 2) fun j => sm j fun k => psg j * psg k * (A 0 j * A 1 k - A 0 k * A 1 j) * det m (cut (cut A j) k) := by
  rw [det_succ]
  have e : ∀ j, psg j * A 0 j * det (m + 1) (cut A j) = sm (m + 1) fun k => psg j * A 0 j * (psg k * A 1 (sk j k) * det m (cut (cut A j) k)) := fun j => by
    rw [det_succ, sm_mul]; rfl
  rw [sm_congr fun j _ => e j, pairs (m + 1) fun j k => psg j * A 0 j * (psg k * A 1 (sk j k) * det m (cut (cut A j) k))]
  refine sm_congr fun j hj => sm_congr fun k hk => ?_
  rw [cut_cut A hk]
  have a1 : sk j k = k := by unfold sk; rw [if_pos hk]
  have a2 : sk k (j - 1) = j := by unfold sk; rw [if_neg (by omega)]; omega
  obtain ⟨i, rfl⟩ : ∃ i, j = i + 1 := ⟨j - 1, by omega⟩
  rw [a1, a2, psg_succ, Nat.add_sub_cancel]
  grind
theorem det_sw0 (m : Nat) (A : Mt) : det (m + 2) (sw A 0) = -det (m + 2) A := by
  rw [det_two, det_two, ← sm_neg]
  refine sm_congr fun j hj => ?_
  rw [← sm_neg]
  refine sm_congr fun k hk => ?_
  have e : cut (cut (sw A 0) j) k = cut (cut A j) k := by
    funext i c; simp [cut, sw]
  rw [e]
  show psg j * psg k * (A 1 j * A 0 k - A 1 k * A 0 j) * _ = _
  grind
theorem det_sw {n : Nat} : ∀ {A : Mt} {r : Nat}, r + 1 < n → det n (sw A r) = -det n A := by
  induction n with
  | zero => intro A r h; omega
  | succ n ih =>
    intro A r h
    cases r with
    | zero =>
      obtain ⟨m, rfl⟩ : ∃ m, n = m + 1 := ⟨n - 1, by omega⟩
      exact det_sw0 m A
    | succ r =>
      rw [det_succ, det_succ, ← sm_neg]
      refine sm_congr fun j hj => ?_
      have e : cut (sw A (r + 1)) j = sw (cut A j) r := by
        funext i c
        unfold cut sw
        congr 1
        simp only [Nat.add_right_cancel_iff]
        split
        · rfl
        · split <;> rfl
      rw [e, ih (by omega)]
      have e2 : sw A (r + 1) 0 j = A 0 j := by simp [sw]
      rw [e2]
      grind
theorem det_eq0 {n : Nat} : ∀ (s : Nat) {A : Mt}, s + 1 < n → (∀ c, c < n → A 0 c = A (s + 1) c) → det n A = 0 := by
  intro s
  induction s with
  | zero =>
    intro A h e
    have h1 := det_sw (A := A) (r := 0) h
    have h2 : det n (sw A 0) = det n A := det_congr fun i c hi hc => by
      unfold sw
      by_cases h0 : i = 0
      · subst h0; exact (e c hc).symm
      · rw [if_neg h0]
        by_cases h1 : i = 0 + 1
        · rw [if_pos h1]; subst h1; exact e c hc
        · rw [if_neg h1]
    rw [h2] at h1
    grind
  | succ s ih =>
    intro A h e
    have h1 := det_sw (A := A) (r := s + 1) h
    have h2 : det n (sw A (s + 1)) = 0 := ih (by omega) fun c hc => by
      have a1 : sw A (s + 1) 0 c = A 0 c := by simp [sw]
      have a2 : sw A (s + 1) (s + 1) c = A (s + 1 + 1) c := by simp [sw]
      rw [a1, a2]; exact e c hc
    rw [h2] at h1
    grind
theorem det_eq {n : Nat} : ∀ {A : Mt} {r s : Nat}, r < s → s < n → (∀ c, c < n → A r c = A s c) → det n A = 0 := by
  induction n with
  | zero => intro A r s _ h; omega
  | succ n ih =>
    intro A r s h1 h2 e
    cases r with
    | zero =>
      obtain ⟨t, rfl⟩ : ∃ t, s = t + 1 := ⟨s - 1, by omega⟩
      exact det_eq0 t h2 e
    | succ r =>
      obtain ⟨t, rfl⟩ : ∃ t, s = t + 1 := ⟨s - 1, by omega⟩
      rw [det_succ]
      refine sm_zero' fun j hj => ?_
      rw [ih (A := cut A j) (r := r) (s := t) (by omega) (by omega) fun c hc => e (sk j c) (sk_lt hc)]
      grind
theorem det_eq' {n : Nat} {A : Mt} {r s : Nat} (h : r ≠ s) (hr : r < n) (hs : s < n) (e : ∀ c, c < n → A r c = A s c) : det n A = 0 := by
  rcases Nat.lt_or_ge r s with h1 | h1
  · exact det_eq h1 hs e
  · exact det_eq (show s < r by omega) hr fun c hc => (e c hc).symm
theorem setr_self (A : Mt) (r : Nat) : setr A r (A r) = A := by
  funext i c; unfold setr; split
  · next h => rw [h]
  · rfl
theorem det_more {n : Nat} {A : Mt} {r s : Nat} (k : Rat) (h : r ≠ s) (hr : r < n) (hs : s < n) : det n (setr A r fun c => A r c + k * A s c) = det n A := by
  rw [det_lin (A r) (A s) k hr, setr_self]
  have e : det n (setr A r (A s)) = 0 := det_eq' h hr hs fun c _ => by
    simp only [setr, if_true]
    rw [if_neg (Ne.symm h)]
  rw [e]; grind
theorem det_scale {n : Nat} {A : Mt} {r : Nat} (k : Rat) (hr : r < n) : det n (setr A r fun c => k * A r c) = k * det n A := by
  have e1 := det_lin (A := A) (fun _ => 0) (A r) k hr
  have e2 := det_lin (A := A) (fun _ => 0) (fun _ => 0) 1 hr
  rw [setr_self] at e1
  rw [show (fun c => (0 : Rat) + k * A r c) = fun c => k * A r c from by funext c; grind] at e1
  rw [show (fun c : Nat => (0 : Rat) + 1 * 0) = fun _ => 0 from by funext c; grind] at e2
  rw [e1]; grind
theorem det_row0 {n : Nat} {A : Mt} {r : Nat} (hr : r < n) (h : ∀ c, c < n → A r c = 0) : det n A = 0 := by
  have e := det_scale (A := A) 0 hr
  rw [← det_congr (A := A) (B := setr A r fun c => 0 * A r c) fun i c hi hc => ?_] at e
  · rw [e]; grind
  · unfold setr
    split
    · next h1 => rw [h1, h c hc]; grind
    · rfl
def swp (A : Mt) (r s : Nat) : Mt := fun i => A (if i = r then s else if i = s then r else i)
theorem det_swp {n : Nat} {A : Mt} {r s : Nat} (h : r ≠ s) (hr : r < n) (hs : s < n) : det n (swp A r s) = -det n A := by
  have e1 := det_more (A := A) 1 h hr hs
  generalize hB : setr A r (fun c => A r c + 1 * A s c) = B at e1
  have e2 := det_more (A := B) (-1) (Ne.symm h) hs hr
  generalize hC : setr B s (fun c => B s c + -1 * B r c) = C at e2
  have e3 := det_more (A := C) 1 h hr hs
  generalize hD : setr C r (fun c => C r c + 1 * C s c) = D at e3
  have e4 := det_scale (A := D) (-1) hs
  have e5 : setr D s (fun c => -1 * D s c) = swp A r s := by
    subst hD; subst hC; subst hB
    funext i c
    unfold setr swp
    by_cases h1 : i = s
    · subst h1; simp [h, Ne.symm h]; grind
    · by_cases h2 : i = r
      · subst h2; simp [h, Ne.symm h]; grind
      · simp [h1, h2]
  rw [← e5, e4, e3, e2, e1]; grind
theorem det_id (n : Nat) : ∀ {A : Mt}, (∀ i c, i < n → c < n → A i c = if i = c then 1 else 0) → det n A = 1 := by
  induction n with
  | zero => intro A h; rfl
  | succ n ih =>
    intro A h
    rw [det_succ, sm_one (j := 0) (by omega) fun j hj hne => by rw [h 0 j (by omega) hj, if_neg (Ne.symm hne)]; grind]
    rw [h 0 0 (by omega) (by omega), if_pos rfl, ih fun i c hi hc => by
      show A (i + 1) (sk 0 c) = _
      rw [show sk 0 c = c + 1 from rfl, h (i + 1) (c + 1) (by omega) (by omega)]
      simp]
    unfold psg; simp
theorem det_int (n : Nat) : ∀ {A : Mt}, (∀ i c, i < n → c < n → ∃ z : Int, A i c = z) → ∃ z : Int, det n A = z := by
  induction n with
  | zero => intro A h; exact ⟨1, rfl⟩
  | succ n ih =>
    intro A h
    have hs : ∀ m f, (∀ j, j < m → ∃ z : Int, f j = (z : Rat)) → ∃ z : Int, sm m f = z := by
      intro m
      induction m with
      | zero => intro f _; exact ⟨0, rfl⟩
      | succ m ihm =>
        intro f hf
        obtain ⟨a, ha⟩ := ihm f fun j hj => hf j (by omega)
        obtain ⟨b, hb⟩ := hf m (by omega)
        exact ⟨a + b, by simp only [sm]; rw [ha, hb, Rat.intCast_add]⟩
    refine hs _ _ fun j hj => ?_
    obtain ⟨a, ha⟩ := h 0 j (by omega) hj
    obtain ⟨b, hb⟩ := ih (A := cut A j) fun i c hi hc => h (i + 1) (sk j c) (by omega) (sk_lt hc)
    rw [ha, hb]
    unfold psg
    split
    · exact ⟨a * b, by rw [Rat.intCast_mul]; grind⟩
    · exact ⟨-(a * b), by rw [Rat.intCast_neg, Rat.intCast_mul]; grind⟩
structure LinR (φ : (Nat → Rat) → Nat → Rat) : Prop where
  add : ∀ f g k c, φ (fun x => f x + k * g x) c = φ f c + k * φ g c
theorem LinR.zero {φ : (Nat → Rat) → Nat → Rat} (L : LinR φ) (c : Nat) : φ (fun _ => 0) c = 0 := by
  have h := L.add (fun _ => 0) (fun _ => 0) 1 c
  rw [show (fun x : Nat => (0 : Rat) + 1 * 0) = fun _ => 0 from by funext x; grind] at h
  grind
theorem LinR.mul {φ : (Nat → Rat) → Nat → Rat} (L : LinR φ) (f : Nat → Rat) (k : Rat) (c : Nat) : φ (fun x => k * f x) c = k * φ f c := by
  have h := L.add (fun _ => 0) f k c
  rw [show (fun x : Nat => (0 : Rat) + k * f x) = fun x => k * f x from by funext x; grind, L.zero] at h
  grind
end Go.S

end
section
set_option linter.unusedVariables false
set_option linter.unusedSimpArgs false
namespace Go.S
theorem setr_row (B : Mt) (r : Nat) (g : Nat → Rat) (i : Nat) : setr B r g i = if i = r then g else B i := by
  funext c; unfold setr; split <;> rfl
inductive Rop (n : Nat) : Mt → Mt → Rat → Prop
  | refl (A : Mt) : Rop n A A 1
  | scale {A B : Mt} {f : Rat} (r : Nat) (k : Rat) (hr : r < n) (hk : k ≠ 0) : Rop n A B f → Rop n A (setr B r fun x => k * B r x) (f * k⁻¹)
  | more {A B : Mt} {f : Rat} (r s : Nat) (k : Rat) (hr : r < n) (hs : s < n) (h : r ≠ s) : Rop n A B f → Rop n A (setr B r fun x => B r x + k * B s x) f
  | swap {A B : Mt} {f : Rat} (r s : Nat) (hr : r < n) (hs : s < n) (h : r ≠ s) : Rop n A B f → Rop n A (swp B r s) (-f)
theorem Rop.det {n : Nat} {A B : Mt} {f : Rat} (H : Rop n A B f) {φ : (Nat → Rat) → Nat → Rat} (L : LinR φ) : det n (fun i => φ (A i)) = f * det n (fun i => φ (B i)) := by
  induction H with
  | refl => grind
  | scale r k hr hk _ ih =>
    rename_i B f _
    have e : (fun i => φ (setr B r (fun x => k * B r x) i)) = setr (fun i => φ (B i)) r (fun c => k * φ (B r) c) := by
      funext i c
      rw [setr_row]
      unfold setr
      by_cases h : i = r
      · rw [if_pos h, if_pos h, L.mul]
      · rw [if_neg h, if_neg h]
    rw [e, det_scale (A := fun i => φ (B i)) k hr, ih]
    have : k⁻¹ * k = 1 := by rw [Rat.inv_mul_cancel _ hk]
    grind
  | more r s k hr hs h _ ih =>
    rename_i B f _
    have e : (fun i => φ (setr B r (fun x => B r x + k * B s x) i)) = setr (fun i => φ (B i)) r (fun c => φ (B r) c + k * φ (B s) c) := by
      funext i c
      rw [setr_row]
      unfold setr
      by_cases h : i = r
      · rw [if_pos h, if_pos h, L.add]
      · rw [if_neg h, if_neg h]
    rw [e, det_more (A := fun i => φ (B i)) k h hr hs, ih]
  | swap r s hr hs h _ ih =>
    rename_i B f _
    have e : (fun i => φ (swp B r s i)) = swp (fun i => φ (B i)) r s := rfl
    rw [e, det_swp (A := fun i => φ (B i)) h hr hs, ih]
    grind
theorem Rop.det1 {n : Nat} {A B : Mt} {f : Rat} (H : Rop n A B f) : Go.S.det n A = f * Go.S.det n B := H.det (φ := fun f => f) ⟨fun _ _ _ _ => rfl⟩
structure Sub (P : (Nat → Rat) → Prop) : Prop where
  more : ∀ f g k, P f → P g → P fun x => f x + k * g x
  scale : ∀ f k, P f → P fun x => k * f x
theorem Rop.sub {n : Nat} {A B : Mt} {f : Rat} (H : Rop n A B f) {P : (Nat → Rat) → Prop} (S : Sub P) : (∀ i, i < n → P (A i)) ↔ (∀ i, i < n → P (B i)) := by
  induction H with
  | refl => exact Iff.rfl
  | scale r k hr hk _ ih =>
    rename_i B f _
    rw [ih]
    constructor
    · intro h i hi
      rw [setr_row]
      split
      · exact S.scale _ _ (h r hr)
      · exact h i hi
    · intro h i hi
      have h1 := h i hi
      rw [setr_row] at h1
      by_cases e : i = r
      · rw [if_pos e] at h1
        have h2 := S.scale _ k⁻¹ h1
        have : k⁻¹ * k = 1 := by rw [Rat.inv_mul_cancel _ hk]
        rw [show (fun x => k⁻¹ * (k * B r x)) = B i from by funext x; rw [e]; grind] at h2
        exact h2
      · rw [if_neg e] at h1; exact h1
  | more r s k hr hs h _ ih =>
    rename_i B f _
    rw [ih]
    constructor
    · intro h i hi
      rw [setr_row]
      split
      · exact S.more _ _ _ (h r hr) (h s hs)
      · exact h i hi
    · intro h' i hi
      have h1 := h' i hi
      rw [setr_row] at h1
      by_cases e : i = r
      · rw [if_pos e] at h1
        have h3 := h' s hs
        rw [setr_row, if_neg (Ne.symm h)] at h3
        have h2 := S.more _ _ (-k) h1 h3
        rw [show (fun x => (B r x + k * B s x) + -k * B s x) = B i from by funext x; rw [e]; grind] at h2
        exact h2
      · rw [if_neg e] at h1; exact h1
  | swap r s hr hs h _ ih =>
    rename_i B f _
    rw [ih]
    constructor
    · intro h i hi
      unfold swp
      split
      · exact h s hs
      · split
        · exact h r hr
        · exact h i hi
    · intro h' i hi
      by_cases e : i = r
      · subst e; have := h' s hs; unfold swp at this; rwa [if_neg (Ne.symm h), if_pos rfl] at this
      · by_cases e2 : i = s
        · subst e2; have := h' r hr; unfold swp at this; rwa [if_pos rfl] at this
        · have := h' i hi; unfold swp at this; rwa [if_neg e, if_neg e2] at this
def fndF (A : Mt) (j : Nat) : Nat → Nat → Nat
  | 0, a => a
  | d + 1, a => if A a j = 0 then fndF A j d (a + 1) else a
def fnd (n : Nat) (A : Mt) (j a : Nat) : Nat := fndF A j (n - a) a
theorem fndF_spec (A : Mt) (j : Nat) : ∀ d a, a ≤ fndF A j d a ∧ fndF A j d a ≤ a + d ∧ (∀ i, a ≤ i → i < fndF A j d a → A i j = 0) ∧ (fndF A j d a < a + d → A (fndF A j d a) j ≠ 0) := by
  intro d
  induction d with
  | zero => intro a; exact ⟨Nat.le_refl _, Nat.le_refl _, fun i h1 h2 => by simp only [fndF] at h2; omega, fun h => by simp only [fndF] at h; omega⟩
  | succ d ih =>
    intro a
    simp only [fndF]
    by_cases h : A a j = 0
    · rw [if_pos h]
      obtain ⟨h1, h2, h3, h4⟩ := ih (a + 1)
      refine ⟨by omega, by omega, fun i hi hi2 => ?_, fun hlt => h4 (by omega)⟩
      by_cases e : i = a
      · rw [e]; exact h
      · exact h3 i (by omega) hi2
    · rw [if_neg h]
      exact ⟨Nat.le_refl _, by omega, fun i h1 h2 => by omega, fun _ => h⟩
theorem fnd_spec {n : Nat} {A : Mt} {j a : Nat} (h : a ≤ n) : a ≤ fnd n A j a ∧ fnd n A j a ≤ n ∧ (∀ i, a ≤ i → i < fnd n A j a → A i j = 0) ∧ (fnd n A j a < n → A (fnd n A j a) j ≠ 0) := by
  obtain ⟨h1, h2, h3, h4⟩ := fndF_spec A j (n - a) a
  exact ⟨h1, by unfold fnd; omega, h3, fun hlt => h4 (by unfold fnd at hlt; omega)⟩
theorem fnd_uniq {n : Nat} {A : Mt} {j a k : Nat} (h1 : a ≤ k) (h2 : k ≤ n) (h3 : ∀ i, a ≤ i → i < k → A i j = 0) (h4 : k < n → A k j ≠ 0) : fnd n A j a = k := by
  obtain ⟨g1, g2, g3, g4⟩ := fnd_spec (n := n) (A := A) (j := j) (a := a) (by omega)
  rcases Nat.lt_trichotomy (fnd n A j a) k with h | h | h
  · exact absurd (h3 _ g1 h) (g4 (by omega))
  · exact h
  · exact absurd (g3 k h1 h) (h4 (by omega))
def elimTo (A : Mt) (a j i : Nat) : Mt := fun r x => if r < i ∧ r ≠ a then A r x - A r j * A a x else A r x
theorem elimTo_zero (A : Mt) (a j : Nat) : elimTo A a j 0 = A := by funext r x; simp [elimTo]
theorem elimTo_self (A : Mt) (a j : Nat) : elimTo A a j (a + 1) = elimTo A a j a := by
  funext r x
  unfold elimTo
  by_cases h : r < a
  · rw [if_pos (show r < a + 1 ∧ r ≠ a by omega), if_pos (show r < a ∧ r ≠ a by omega)]
  · rw [if_neg (show ¬ (r < a ∧ r ≠ a) by omega), if_neg (by omega)]
theorem elimTo_succ (A : Mt) {a j i : Nat} (h : i ≠ a) : elimTo A a j (i + 1) = setr (elimTo A a j i) i fun x => elimTo A a j i i x + -(A i j) * elimTo A a j i a x := by
  funext r x
  unfold setr
  by_cases e : r = i
  · subst e
    rw [if_pos rfl]
    unfold elimTo
    rw [if_pos (show r < r + 1 ∧ r ≠ a by omega)]
    show _ = (if r < r ∧ r ≠ a then _ else _) + -A r j * (if a < r ∧ a ≠ a then _ else _)
    rw [if_neg (by omega), if_neg (by omega)]
    grind
  · rw [if_neg e]
    unfold elimTo
    by_cases h1 : r < i ∧ r ≠ a
    · rw [if_pos h1, if_pos ⟨by omega, h1.2⟩]
    · rw [if_neg h1, if_neg (by omega)]
theorem elimTo_at (A : Mt) (a j i : Nat) : elimTo A a j i a = A a := by funext x; unfold elimTo; rw [if_neg (by omega)]
theorem elimTo_ge (A : Mt) {a j i r : Nat} (h : i ≤ r) : elimTo A a j i r = A r := by funext x; unfold elimTo; rw [if_neg (by omega)]
theorem Rop.elim {n : Nat} {A B : Mt} {f : Rat} (H : Rop n A B f) {a j : Nat} (ha : a < n) : ∀ i, i ≤ n → Rop n A (elimTo B a j i) f := by
  intro i
  induction i with
  | zero => intro _; rw [elimTo_zero]; exact H
  | succ i ih =>
    intro hi
    by_cases e : i = a
    · subst e; rw [elimTo_self]; exact ih (by omega)
    · rw [elimTo_succ _ e]
      exact .more i a _ (by omega) ha e (ih (by omega))
theorem swp_self (A : Mt) (a : Nat) : swp A a a = A := by
  funext i; unfold swp; congr 1; split
  · next h => exact h.symm
  · rfl
def pivR (A : Mt) (a k j : Nat) : Mt := setr (swp A a k) a fun x => (A k j)⁻¹ * A k x
def gstep (n j : Nat) (s : Mt × List Nat × Rat) : Mt × List Nat × Rat :=
  if fnd n s.1 j s.2.1.length = n then s else
    (elimTo (pivR s.1 s.2.1.length (fnd n s.1 j s.2.1.length) j) s.2.1.length j n, s.2.1 ++ [j], (if s.2.1.length = fnd n s.1 j s.2.1.length then s.2.2 else -s.2.2) * s.1 (fnd n s.1 j s.2.1.length) j)
def grun (n : Nat) (A : Mt) : Nat → Mt × List Nat × Rat
  | 0 => (A, [], 1)
  | j + 1 => gstep n j (grun n A j)
theorem Rop.gstep {n j : Nat} {A : Mt} {s : Mt × List Nat × Rat} (H : Rop n A s.1 s.2.2) (h : s.2.1.length ≤ n) : Rop n A (Go.S.gstep n j s).1 (Go.S.gstep n j s).2.2 := by
  unfold Go.S.gstep
  obtain ⟨g1, g2, g3, g4⟩ := fnd_spec (n := n) (A := s.1) (j := j) (a := s.2.1.length) h
  generalize fnd n s.1 j s.2.1.length = k at *
  split
  · exact H
  · next hk =>
    have hk2 : k < n := by omega
    have hp := g4 hk2
    generalize s.2.1.length = a at *
    refine Rop.elim ?_ (by omega) n (Nat.le_refl _)
    have h1 : Rop n A (swp s.1 a k) (if a = k then s.2.2 else -s.2.2) := by
      by_cases e : a = k
      · subst e; rw [swp_self, if_pos rfl]; exact H
      · rw [if_neg e]; exact .swap a k (by omega) hk2 e H
    have h2 := Rop.scale a (s.1 k j)⁻¹ (by omega) (by
      intro e
      have := Rat.mul_inv_cancel _ hp
      rw [e] at this
      grind) h1
    rw [Rat.inv_inv] at h2
    have e : swp s.1 a k a = s.1 k := by unfold swp; rw [if_pos rfl]
    rw [e] at h2
    exact h2
structure RR (n j : Nat) (A : Mt) (piv : List Nat) : Prop where
  le : piv.length ≤ n
  lt : ∀ i, i < piv.length → piv.getD i default < j
  one : ∀ i, i < piv.length → A i (piv.getD i default) = 1
  col : ∀ i, i < piv.length → ∀ r, r < n → r ≠ i → A r (piv.getD i default) = 0
  ahead : ∀ i, i < piv.length → ∀ x, x < piv.getD i default → A i x = 0
  rest : ∀ r, piv.length ≤ r → r < n → ∀ x, x < j → A r x = 0
  mono : ∀ i i', i < i' → i' < piv.length → piv.getD i default < piv.getD i' default
theorem RR.nil (n : Nat) (A : Mt) : RR n 0 A [] := ⟨Nat.zero_le _, fun i h => by simp at h, fun i h => by simp at h, fun i h => by simp at h, fun i h => by simp at h, fun r _ _ x h => by omega, fun i i' _ h => by simp at h⟩
theorem snoc_lt {l : List Nat} {x i : Nat} (h : i < l.length) : (l ++ [x]).getD i default = l.getD i default := by simp [List.getD, List.getElem?_append_left h]
theorem snoc_at {l : List Nat} {x : Nat} : (l ++ [x]).getD l.length default = x := by simp [List.getD]
theorem RR.step {n j : Nat} {A : Mt} {piv : List Nat} {d : Rat} (H : RR n j A piv) : RR n (j + 1) (gstep n j (A, piv, d)).1 (gstep n j (A, piv, d)).2.1 := by
  unfold gstep
  obtain ⟨g1, g2, g3, g4⟩ := fnd_spec (n := n) (A := A) (j := j) (a := piv.length) H.le
  simp only
  generalize fnd n A j piv.length = k at *
  split
  · next hk =>
    subst hk
    refine ⟨H.le, fun i hi => Nat.lt_succ_of_lt (H.lt i hi), H.one, H.col, H.ahead, fun r h1 h2 x hx => ?_, H.mono⟩
    by_cases e : x = j
    · rw [e]; exact g3 r h1 h2
    · exact H.rest r h1 h2 x (by omega)
  · next hk =>
    have hk2 : k < n := by omega
    have hp := g4 hk2
    simp only
    have hpi : (A k j)⁻¹ * A k j = 1 := Rat.inv_mul_cancel _ hp
    have z0 : ∀ x, x < j → A k x = 0 := fun x hx => H.rest k g1 hk2 x hx
    have va : ∀ x, elimTo (pivR A piv.length k j) piv.length j n piv.length x = (A k j)⁻¹ * A k x := fun x => by
      rw [elimTo_at]; simp [pivR, setr]
    have vr : ∀ r, r < n → r ≠ piv.length → ∀ x, elimTo (pivR A piv.length k j) piv.length j n r x = swp A piv.length k r x - swp A piv.length k r j * ((A k j)⁻¹ * A k x) := fun r hr hne x => by
      unfold elimTo
      rw [if_pos ⟨hr, hne⟩]
      simp [pivR, setr, hne]
    generalize elimTo (pivR A piv.length k j) piv.length j n = D at *
    have sr : ∀ r, r < n → r ≠ piv.length → ∃ r', r' < n ∧ swp A piv.length k r = A r' ∧ (r < piv.length → r' = r) ∧ (piv.length ≤ r → piv.length ≤ r') ∧ ∀ i, i < piv.length → r ≠ i → r' ≠ i := fun r hr hne => by
      unfold swp
      rw [if_neg hne]
      by_cases e : r = k
      · rw [if_pos e]; exact ⟨piv.length, by omega, rfl, fun h => by omega, fun _ => Nat.le_refl _, fun i hi _ => by omega⟩
      · rw [if_neg e]; exact ⟨r, hr, rfl, fun _ => rfl, fun h => h, fun i _ h => h⟩
    have low : ∀ r, r < n → r ≠ piv.length → ∀ x, x < j → D r x = swp A piv.length k r x := fun r hr hne x hx => by
      rw [vr r hr hne x, z0 x hx]; grind
    have lowa : ∀ x, x < j → D piv.length x = 0 := fun x hx => by rw [va, z0 x hx]; grind
    refine ⟨by simp; omega, ?_, ?_, ?_, ?_, ?_, ?_⟩
    · intro i hi
      by_cases e : i < piv.length
      · rw [snoc_lt e]; have := H.lt i e; omega
      · have : i = piv.length := by simp at hi; omega
        subst this; rw [snoc_at]; omega
    · intro i hi
      by_cases e : i < piv.length
      · rw [snoc_lt e, low i (by have := H.le; omega) (by omega) _ (H.lt i e)]
        obtain ⟨r', _, h2, h3, _, _⟩ := sr i (by have := H.le; omega) (by omega)
        rw [h2, h3 e]; exact H.one i e
      · have : i = piv.length := by simp at hi; omega
        subst this; rw [snoc_at, va, hpi]
    · intro i hi r hr hne
      by_cases e : i < piv.length
      · rw [snoc_lt e]
        by_cases e2 : r = piv.length
        · rw [e2]; exact lowa _ (H.lt i e)
        · rw [low r hr e2 _ (H.lt i e)]
          obtain ⟨r', h1, h2, _, _, h5⟩ := sr r hr e2
          rw [h2]; exact H.col i e r' h1 (h5 i e hne)
      · have : i = piv.length := by simp at hi; omega
        subst this; rw [snoc_at, vr r hr hne, hpi]; grind
    · intro i hi x hx
      by_cases e : i < piv.length
      · rw [snoc_lt e] at hx
        have := H.lt i e
        rw [low i (by have := H.le; omega) (by omega) x (by omega)]
        obtain ⟨r', _, h2, h3, _, _⟩ := sr i (by have := H.le; omega) (by omega)
        rw [h2, h3 e]; exact H.ahead i e x hx
      · have : i = piv.length := by simp at hi; omega
        subst this; rw [snoc_at] at hx; exact lowa x hx
    · intro r h1 h2 x hx
      simp at h1
      by_cases e : x = j
      · rw [e, vr r h2 (by omega), hpi]; grind
      · rw [low r h2 (by omega) x (by omega)]
        obtain ⟨r', q1, q2, _, q4, _⟩ := sr r h2 (by omega)
        rw [q2]; exact H.rest r' (q4 (by omega)) q1 x (by omega)
    · intro i i' h1 h2
      simp at h2
      by_cases e : i' < piv.length
      · rw [snoc_lt e, snoc_lt (by omega)]; exact H.mono i i' h1 e
      · have : i' = piv.length := by omega
        subst this; rw [snoc_at, snoc_lt h1]; exact H.lt i h1
theorem grun_RR (n : Nat) (A : Mt) : ∀ j, RR n j (grun n A j).1 (grun n A j).2.1 := by
  intro j
  induction j with
  | zero => exact RR.nil n A
  | succ j ih => exact RR.step (d := (grun n A j).2.2) ih
theorem grun_Rop (n : Nat) (A : Mt) : ∀ j, Rop n A (grun n A j).1 (grun n A j).2.2 := by
  intro j
  induction j with
  | zero => exact .refl A
  | succ j ih => exact Rop.gstep ih (grun_RR n A j).le
end Go.S

end
section
set_option linter.unusedVariables false
set_option linter.unusedSimpArgs false
namespace Go.S
def rowf (c : Nat) (f : Nat → Rat) : List Rat := (List.range c).map f
def tab (n c : Nat) (A : Mt) : List (List Rat) := (List.range n).map fun i => rowf c (A i)
def ent (t : List (List Rat)) : Mt := fun i j => (t.getD i default).getD j default
theorem rowf_len (c : Nat) (f : Nat → Rat) : (rowf c f).length = c := by simp [rowf]
theorem rowf_get {c : Nat} {f : Nat → Rat} {j : Nat} (h : j < c) : (rowf c f).getD j default = f j := by simp [rowf, List.getD, h]
theorem rowf_congr {c : Nat} {f g : Nat → Rat} (h : ∀ j, j < c → f j = g j) : rowf c f = rowf c g := List.map_congr_left fun j hj => h j (by simpa using hj)
theorem rowf_of (r : List Rat) : rowf r.length (fun j => r.getD j default) = r := by
  refine List.ext_getElem (by simp [rowf]) fun i h1 h2 => ?_
  simp [rowf, List.getD, List.getElem?_eq_getElem h2]
theorem mem_rowf {c : Nat} {f : Nat → Rat} {q : Rat} : q ∈ rowf c f ↔ ∃ j, j < c ∧ f j = q := by simp [rowf]
theorem rowf_map {c : Nat} {f : Nat → Rat} (k : Rat → Rat) : (rowf c f).map k = rowf c fun j => k (f j) := by simp [rowf]
theorem rowf_zip {c : Nat} {f g : Nat → Rat} (k : Rat → Rat → Rat) : List.zipWith k (rowf c f) (rowf c g) = rowf c fun j => k (f j) (g j) := by
  refine List.ext_getElem (by simp [rowf]) fun i h1 h2 => ?_
  simp [rowf]
theorem rowf_app (c d : Nat) (f g : Nat → Rat) : rowf c f ++ rowf d g = rowf (c + d) fun j => if j < c then f j else g (j - c) := by
  refine List.ext_getElem (by simp [rowf]) fun i h1 h2 => ?_
  by_cases h : i < c
  · rw [List.getElem_append_left (by simpa [rowf] using h)]; simp [rowf, h]
  · rw [List.getElem_append_right (by simpa [rowf] using h)]; simp [rowf, h]
theorem tab_len (n c : Nat) (A : Mt) : (tab n c A).length = n := by simp [tab]
theorem tab_get {n c : Nat} {A : Mt} {i : Nat} (h : i < n) : (tab n c A).getD i default = rowf c (A i) := by simp [tab, List.getD, h]
theorem mem_tab {n c : Nat} {A : Mt} {r : List Rat} : r ∈ tab n c A ↔ ∃ i, i < n ∧ rowf c (A i) = r := by simp [tab]
theorem tab_row {n c : Nat} {A : Mt} : ∀ r ∈ tab n c A, r.length = c := fun r h => by obtain ⟨i, _, rfl⟩ := mem_tab.1 h; exact rowf_len _ _
theorem tab_congr {n c : Nat} {A B : Mt} (h : ∀ i, i < n → ∀ j, j < c → A i j = B i j) : tab n c A = tab n c B := List.map_congr_left fun i hi => rowf_congr (h i (by simpa using hi))
theorem tab_set {n c : Nat} {A : Mt} {i : Nat} {f : Nat → Rat} (h : i < n) : (tab n c A).set i (rowf c f) = tab n c (setr A i f) := by
  refine List.ext_getElem (by simp [tab]) fun k h1 h2 => ?_
  rw [List.getElem_set]
  by_cases e : i = k
  · subst e; simp [tab, setr_row]
  · simp [tab, setr_row, e, Ne.symm e]
theorem tab_of {t : List (List Rat)} {c : Nat} (h : ∀ r ∈ t, r.length = c) : tab t.length c (ent t) = t := by
  refine List.ext_getElem (by simp [tab]) fun i h1 h2 => ?_
  have e := rowf_of t[i]
  rw [h _ (List.getElem_mem h2)] at e
  rw [← e]
  simp only [tab, List.getElem_map, List.getElem_range]
  refine rowf_congr fun j _ => ?_
  simp [ent, List.getD, List.getElem?_eq_getElem h2]
theorem mem_tab2 {n c : Nat} {A : Mt} {r : List Rat} (h : r ∈ tab n c A) {q : Rat} (hq : q ∈ r) : ∃ i, i < n ∧ ∃ j, j < c ∧ A i j = q := by
  obtain ⟨i, hi, rfl⟩ := mem_tab.1 h
  obtain ⟨j, hj, e⟩ := mem_rowf.1 hq
  exact ⟨i, hi, j, hj, e⟩
def mm (m : Nat) (A B : Mt) : Mt := fun i j => sm m fun k => A i k * B k j
def idm : Mt := fun i j => if i = j then 1 else 0
theorem mm_one_r {m : Nat} {A : Mt} {j : Nat} (i : Nat) (h : j < m) : mm m A idm i j = A i j := by
  unfold mm idm
  rw [sm_one h fun k hk hne => by rw [if_neg hne]; grind, if_pos rfl]; grind
end Go.S

end
section
set_option linter.unusedVariables false
set_option linter.unusedSimpArgs false
set_option maxRecDepth 100000
namespace Go.S
open Go Go.AM Go.RowKit Go.K
def ivl (l : List Nat) : List Int := l.map fun n : Nat => (n : Int)
theorem ivl_len (l : List Nat) : (ivl l).length = l.length := by simp [ivl]
theorem ivl_snoc (l : List Nat) (j : Nat) : ivl (l ++ [j]) = ivl l ++ [(j : Int)] := by simp [ivl]
abbrev aW (tr pr : AV) (d : Rat) : AV := .agg [tr, pr, .bool (decide (d.num < 0)), eN (ab d.num), eN (d.den : Int)]
theorem s_rat_Inv {a : Rat} (h0 : a ≠ 0) (h1 : Lq a < 100000000) : CP (CL F) 125 [eQ a] = some (.tup [eQ a⁻¹, eI 0]) := by
  refine CP_X (F := F) (f := 125) rfl rfl ?_
  have k1 := s_rat_up (q := a) (by omega)
  have k2 := s_rat_Make (p := a.den) (d := a.num) (by rwa [ne_eq, Rat.num_eq_zero]) (by have := Lq_den a; omega) (by have := Lq_num a; omega)
  rw [← Rat.inv_def] at k2
  clear h0
  refine go3 ?_
  trivial
theorem may_iff {t : List (List Rat)} : may t = true ↔ t.length ≤ 200 ∧ wide t ≤ 200 ∧ ∀ r ∈ t, r.length = wide t := by
  unfold may
  simp only [Bool.and_eq_true, decide_eq_true_eq, even_iff, and_assoc]
end Go.S

end
section
set_option linter.unusedVariables false
set_option linter.unusedSimpArgs false
set_option maxRecDepth 100000
namespace Go.S
open Go Go.AM Go.RowKit Go.K
theorem s_find {n c : Nat} {A : Mt} {d : Rat} {pr : AV} {x : Option Blk} {vt : Nat} {g : Heap} {a j : Nat} (ha : a ≤ n) (hn : n ≤ 1000000) (hj : j < c) :
    CL F 123 [.ptr 0 0 0 0, eI a, eI j] (some ⟨0, 5, [aW (.ref 2 vt 1 0 n) pr d]⟩ :: x :: some ⟨vt, 1, em eR (tab n c A)⟩ :: g) = some (eI (fnd n A j a), (some ⟨0, 5, [aW (.ref 2 vt 1 0 n) pr d]⟩ :: x :: some ⟨vt, 1, em eR (tab n c A)⟩ :: g)) := by
  refine CL_X (F := F) (f := 123) rfl rfl ?_
  obtain ⟨k1, k2, k3, k4⟩ := fnd_spec (n := n) (A := A) (j := j) ha
  generalize hk : fnd n A j a = k at *
  have hl : (em eR (tab n c A)).length = n := by rw [em_len, tab_len]
  refine go3 ?_
  refine X_upto (k - a) (fun i s => ∃ j15 j29, s = ⟨[(0, .ptr 0 0 0 0), (1, eI a), (2, eI j), (6, eI 0), (7, eI (a + i : Nat)), (15, j15), (29, j29)], (some ⟨0, 5, [aW (.ref 2 vt 1 0 n) pr d]⟩ :: x :: some ⟨vt, 1, em eR (tab n c A)⟩ :: g)⟩) ?_ 0 (Nat.zero_le _) _ ⟨_, _, rfl⟩
  rintro i s hi ⟨j15, j29, rfl⟩ rec
  by_cases hin : a + i < n
  · have g1 := em_getN (f := eR) (tab n c A) (a + i) (by rw [tab_len]; exact hin)
    rw [tab_get hin] at g1
    have g2 := em_getN (f := eQ) (rowf c (A (a + i))) j (by rw [rowf_len]; exact hj)
    rw [rowf_get hj] at g2
    have hrl := rowf_len c (A (a + i))
    have sg := s_rat_Sign (A (a + i) j)
    have c1 : (((a + i : Nat) : Int) < (n : Int)) := by omega
    have c2 : ((j : Int) < (c : Int)) := by omega
    by_cases e : i < k - a
    · have z : A (a + i) j = 0 := k3 (a + i) (by omega) (by omega)
      have z2 : sgn (A (a + i) j).num = 0 := (sgn_num_zero _).2 z
      rw [z2] at sg
      have hw : wrap64 (((a + i : Nat) : Int) + 1) = ((a + (i + 1) : Nat) : Int) := i64_nat (by omega)
      generalize A (a + i) j = y at *
      generalize rowf c (A (a + i)) = r at *
      generalize a + i = ai at *
      clear hk k1 k2 k3 k4 z z2 hi
      refine go3 ?_
      exact rec _ e ⟨_, _, rfl⟩
    · have hik : a + i = k := by omega
      have z : A (a + i) j ≠ 0 := by rw [hik]; exact k4 (by omega)
      have z2 : ¬ (sgn (A (a + i) j).num = 0) := fun h => z ((sgn_num_zero _).1 h)
      subst hik
      generalize A (a + i) j = y at *
      generalize rowf c (A (a + i)) = r at *
      generalize a + i = ai at *
      clear hk k1 k2 k3 k4 z hi rec e
      refine go3 ?_
      trivial
  · have hik : a + i = k := by omega
    have hkn : k = n := by omega
    have c1 : ¬ (((a + i : Nat) : Int) < (n : Int)) := by omega
    subst hkn
    rw [hik] at c1
    rw [hik]
    clear hk k1 k2 k3 k4 hi rec hik hin ha hj
    refine go3 ?_
    trivial
theorem s_swap {n c : Nat} {A : Mt} {d : Rat} {pr : AV} {x : Option Blk} {vt : Nat} {g : Heap} {a k : Nat} (ha : a < n) (hk : k < n) (hd : Lq d < 100000000) :
    CL F 124 [.ptr 0 0 0 0, eI a, eI k] (some ⟨0, 5, [aW (.ref 2 vt 1 0 n) pr d]⟩ :: x :: some ⟨vt, 1, em eR (tab n c A)⟩ :: g) = some (.tup [], (some ⟨0, 5, [aW (.ref 2 vt 1 0 n) pr (if a = k then d else -d)]⟩ :: x :: some ⟨vt, 1, em eR (tab n c (swp A a k))⟩ :: g)) := by
  refine CL_X (F := F) (f := 124) rfl rfl ?_
  by_cases e : a = k
  · subst e
    rw [if_pos rfl, swp_self]
    refine go3 ?_
    trivial
  · rw [if_neg e]
    have e1 : ¬ ((a : Int) = (k : Int)) := by omega
    have g1 := em_getN (f := eR) (tab n c A) a (by rw [tab_len]; exact ha)
    have g2 := em_getN (f := eR) (tab n c A) k (by rw [tab_len]; exact hk)
    rw [tab_get ha] at g1
    rw [tab_get hk] at g2
    have s1 : ((tab n c A).set a (rowf c (A k))).set k (rowf c (A a)) = tab n c (swp A a k) := by
      rw [tab_set ha, tab_set hk]
      refine congrArg (tab n c) ?_
      funext i y
      unfold setr swp
      by_cases h1 : i = k
      · subst h1; rw [if_pos rfl, if_neg (Ne.symm e), if_pos rfl]
      · rw [if_neg h1]
        by_cases h2 : i = a
        · subst h2; rw [if_pos rfl, if_pos rfl]
        · rw [if_neg h2, if_neg h2, if_neg h1]
    have g3 : (em eR ((tab n c A).set a (rowf c (A k))))[k]? = some (eR (rowf c (A k))) := by
      rw [← em_set, List.getElem?_set_ne e]; exact g2
    have c1 : ((a : Int) < (n : Int)) := by omega
    have c2 : ((k : Int) < (n : Int)) := by omega
    have hl : (em eR (tab n c A)).length = n := by rw [em_len, tab_len]
    have nn := s_rat_Neg hd
    generalize rowf c (A k) = rk at *
    generalize rowf c (A a) = ra at *
    generalize tab n c (swp A a k) = T2 at *
    generalize tab n c A = T1 at *
    clear e
    refine go3 ?_
    trivial
def PV (g : Heap) (piv : List Nat) (pr : AV) : Prop := (piv = [] ∧ pr = .nil) ∨ ∃ vp g1 g2, g = g1 ++ some ⟨vp, 1, ui (ivl piv)⟩ :: g2 ∧ pr = .ref (g1.length + 1 + 1 + 1) vp 1 0 piv.length
theorem PV.len {g : Heap} {piv : List Nat} {pr : AV} (h : PV g piv pr) : lenA false pr = some (eI piv.length) := by
  rcases h with ⟨rfl, rfl⟩ | ⟨vp, g1, g2, _, rfl⟩ <;> rfl
def WH (n c : Nat) (s : Mt × List Nat × Rat) (h : Heap) : Prop := ∃ x vt pr g, h = (some ⟨0, 5, [aW (.ref 2 vt 1 0 n) pr s.2.2]⟩ :: x :: some ⟨vt, 1, em eR (tab n c s.1)⟩ :: g) ∧ PV g s.2.1 pr
theorem s_step {n c j : Nat} {s : Mt × List Nat × Rat} {h : Heap} (H : WH n c s h) (hn : n ≤ 1000) (hc : c ≤ 1000) (hj : j < c) (hle : s.2.1.length ≤ n) {M : Nat} (hM : M < 1000000) (hA : ∀ r, r < n → ∀ y, y < c → Lq (s.1 r y) ≤ M) (hd : Lq s.2.2 < 10000000) :
    ∃ x, CL F 83 [.ptr 0 0 0 0, eI j] h = some x ∧ ∃ h', x = (.tup [], h') ∧ WH n c (gstep n j s) h' := by
  obtain ⟨A, piv, d⟩ := s
  obtain ⟨x, vt, pr, g, rfl, hpv⟩ := H
  simp only at hpv hle hA hd
  have hlen := hpv.len
  unfold lenA at hlen
  refine CL_XE (F := F) (f := 83) rfl rfl ?_
  obtain ⟨k1, k2, k3, k4⟩ := fnd_spec (n := n) (A := A) (j := j) hle
  have hf := s_find (n := n) (c := c) (A := A) (d := d) (pr := pr) (x := x) (vt := vt) (g := g) (a := piv.length) (j := j) hle (by omega) hj
  have hgs : gstep n j (A, piv, d) = if fnd n A j piv.length = n then (A, piv, d) else (elimTo (pivR A piv.length (fnd n A j piv.length) j) piv.length j n, piv ++ [j], (if piv.length = fnd n A j piv.length then d else -d) * A (fnd n A j piv.length) j) := rfl
  rw [hgs]
  clear hgs
  generalize fnd n A j piv.length = k at *
  by_cases hk : k = n
  · subst hk
    rw [if_pos rfl]
    clear k1 k2 k3 k4 hA hd hle
    refine go3 ?_
    exact ⟨_, rfl, _, rfl, _, _, _, _, rfl, hpv⟩
  · rw [if_neg hk]
    have hkn : k < n := by omega
    have hp := k4 hkn
    have hkc : ¬ ((k : Int) = (n : Int)) := by omega
    generalize ha : piv.length = a at *
    have han : a < n := by omega
    have hs := s_swap (n := n) (c := c) (A := A) (d := d) (pr := pr) (x := x) (vt := vt) (g := g) (a := a) (k := k) han hkn (by omega)
    have hdd : Lq (if a = k then d else -d) < 10000000 := by
      split
      · exact hd
      · rw [Lq_neg]; exact hd
    generalize (if a = k then d else -d) = d1 at *
    have hB : swp A a k a = A k := by unfold swp; rw [if_pos rfl]
    have hrow : rowf c (swp A a k a) = rowf c (A k) := by rw [hB]
    have g1 := em_getN (f := eR) (tab n c (swp A a k)) a (by rw [tab_len]; exact han)
    rw [tab_get han, hrow] at g1
    have g2 := em_getN (f := eQ) (rowf c (A k)) j (by rw [rowf_len]; exact hj)
    rw [rowf_get hj] at g2
    have m1 := s_rat_Mul (a := d1) (b := A k j) (by omega) (by have := hA k hkn j hj; omega)
    have m2 := s_rat_Inv (a := A k j) hp (by have := hA k hkn j hj; omega)
    have m3 := s_vect_Scale (l := rowf c (A k)) (c := (A k j)⁻¹) (by rw [rowf_len]; omega) (M := M) (by omega) (fun q hq => by
      obtain ⟨y, hy, rfl⟩ := mem_rowf.1 hq
      exact hA k hkn y hy) (by
      have := hA k hkn j hj
      have := Lq_inv (A k j) hp
      omega)
    have e1 : (rowf c (A k)).map (· * (A k j)⁻¹) = rowf c fun x => (A k j)⁻¹ * A k x := by
      rw [rowf_map]
      exact rowf_congr fun y _ => Rat.mul_comm _ _
    rw [e1] at m3
    have s1 : (tab n c (swp A a k)).set a (rowf c fun x => (A k j)⁻¹ * A k x) = tab n c (pivR A a k j) := tab_set han
    have c1 : ((a : Int) < (n : Int)) := by omega
    have c2 : ((j : Int) < (c : Int)) := by omega
    have hrl := rowf_len c (A k)
    have hl : (em eR (tab n c (swp A a k))).length = n := by rw [em_len, tab_len]
    have bn : ∀ r, r < n → r ≠ a → ∀ y, y < c → Lq (pivR A a k j r y) ≤ M := fun r hr hne y hy => by
      unfold pivR setr
      rw [if_neg hne]
      unfold swp
      rw [if_neg hne]
      split
      · exact hA a han y hy
      · exact hA r hr y hy
    have ba : ∀ y, y < c → Lq (pivR A a k j a y) ≤ 2 * M := fun y hy => by
      unfold pivR setr
      rw [if_pos rfl]
      have := hA k hkn y hy
      have := hA k hkn j hj
      have := Lq_inv (A k j) hp
      have := Lq_mul (A k j)⁻¹ (A k y)
      show Lq ((A k j)⁻¹ * A k y) ≤ 2 * M
      omega
    generalize (A k j)⁻¹ = iv at *
    generalize A k j = p at *
    generalize rowf c (A k) = rk at *
    generalize rowf c (fun x => iv * A k x) = rs at *
    generalize tab n c (swp A a k) = T1 at *
    generalize pivR A a k j = E at *
    clear hk k1 k2 k3 k4 hA hd hdd hle hp hB hrow e1 hkn
    refine go3 ?_
    refine X_up n (fun i s => ∃ j9 j75 j93 g', s = ⟨[(0, .ptr 0 0 0 0), (1, eI j), (4, eI a), (5, eI k), (6, .ptr (g.length + 1 + 1 + 1) 0 0 0), (7, .ptr (g.length + 1 + 1 + 1 + 1) 0 0 0), (9, j9), (25, .bool false), (73, eI n), (74, eI i), (75, j75), (93, j93)], (some ⟨0, 5, [.agg [.ref 2 vt 1 0 n, pr, .bool (decide ((d1 * p).num < 0)), eN (ab (d1 * p).num), eN (d1 * p).den]]⟩ :: x :: some ⟨vt, 1, em eR (tab n c (elimTo E a j i))⟩ :: (g ++ g'))⟩) ?_ ?_ 0 (Nat.zero_le _) _ ⟨_, _, _, _, by rw [elimTo_zero]; rfl⟩
    · rintro i s hi ⟨j9, j75, j93, g', rfl⟩ rec
      have hlt := lt_c hi
      have hl := (em_len (f := eR) (tab n c (elimTo E a j i))).trans (tab_len n c _)
      have hi6 : i < 9223372036854775807 := by omega
      by_cases hia : i = a
      · subst hia
        rw [elimTo_self] at rec
        have c3 : ¬ ((i : Int) ≠ (i : Int)) := by omega
        have hw := i64_nat hi6
        clear bn ba hf hs
        refine go3 ?_
        exact rec _ ⟨_, _, _, _, rfl⟩
      · have c3 : ((i : Int) ≠ (a : Int)) := by omega
        have c4 : ¬ ((i : Int) = (a : Int)) := by omega
        have q1 := em_getN (f := eR) (tab n c (elimTo E a j i)) i (by rw [tab_len]; exact hi)
        rw [tab_get hi, elimTo_ge E (Nat.le_refl i)] at q1
        have q2 := em_getN (f := eQ) (rowf c (E i)) j (by rw [rowf_len]; exact hj)
        rw [rowf_get hj] at q2
        have q3 := em_getN (f := eR) (tab n c (elimTo E a j i)) a (by rw [tab_len]; exact han)
        rw [tab_get han, elimTo_at] at q3
        have q4 := s_rat_Sign (E i j)
        have rl1 := rowf_len c (E i)
        have b1 := bn i hi hia
        by_cases hz : E i j = 0
        · have q5 : sgn (E i j).num = 0 := (sgn_num_zero _).2 hz
          have q6 : tab n c (elimTo E a j i) = tab n c (elimTo E a j (i + 1)) := tab_congr fun r hr y hy => by
            rw [elimTo_succ E hia]
            unfold setr
            split
            · next e =>
              rw [e, hz]
              grind
            · rfl
          rw [q5] at q4
          rw [← q6] at rec
          generalize tab n c (elimTo E a j i) = T2 at *
          generalize rowf c (E i) = ri at *
          generalize rowf c (E a) = ra at *
          generalize E i j = z at *
          have hw := i64_nat hi6
          clear bn ba hf hs hz b1 q6
          refine go3 ?_
          exact rec _ ⟨_, _, _, _, rfl⟩
        · have q5 : ¬ (sgn (E i j).num = 0) := fun h => hz ((sgn_num_zero _).1 h)
          have q6 := s_vect_Less (a := rowf c (E i)) (b := rowf c (E a)) (k := E i j) (by rw [rowf_len]; omega) (by rw [rowf_len, rowf_len]) (M := 2 * M) (by omega) (fun q hq => by
            obtain ⟨y, hy, rfl⟩ := mem_rowf.1 hq
            have := b1 y hy
            omega) (fun q hq => by
            obtain ⟨y, hy, rfl⟩ := mem_rowf.1 hq
            exact ba y hy) (by have := b1 j hj; omega)
          have q7 : (tab n c (elimTo E a j i)).set i (lessR (rowf c (E i)) (E i j) (rowf c (E a))) = tab n c (elimTo E a j (i + 1)) := by
            have e : lessR (rowf c (E i)) (E i j) (rowf c (E a)) = rowf c fun x => elimTo E a j i i x + -(E i j) * elimTo E a j i a x := by
              unfold lessR
              rw [rowf_zip, elimTo_ge E (Nat.le_refl i), elimTo_at]
              exact rowf_congr fun y _ => by grind
            rw [e, elimTo_succ E hia, tab_set hi]
          generalize lessR (rowf c (E i)) (E i j) (rowf c (E a)) = rn at *
          generalize tab n c (elimTo E a j (i + 1)) = T3 at *
          generalize tab n c (elimTo E a j i) = T2 at *
          generalize rowf c (E i) = ri at *
          generalize rowf c (E a) = ra at *
          generalize E i j = z at *
          have hw := i64_nat hi6
          clear bn ba hf hs hz b1
          refine go3 ?_
          exact rec _ ⟨_, _, _, _, rfl⟩
    · rintro s ⟨j9, j75, j93, g', rfl⟩
      have hlt : ¬ ((n : Int) < (n : Int)) := nlt_c
      have hi6 : piv.length + 1 < 17592186044416 := by omega
      rcases hpv with ⟨rfl, rfl⟩ | ⟨vp, g1, g2, rfl, rfl⟩
      · have z1 : (ui [(j : Int)]).isEmpty = false := rfl
        clear bn ba hf hs
        refine go3 ?_
        exact ⟨_, rfl, _, rfl, _, _, _, _, rfl, .inr ⟨0, g ++ (g' ++ [some ⟨0, 1, ui [(j : Int)]⟩]), [], by simp [ivl], by simp⟩⟩
      · have z1 : (ui [(j : Int)]).isEmpty = false := rfl
        have z2 : (ivl piv).length = a := by rw [ivl_len, ha]
        have z3 := ivl_snoc piv j
        have z4 : List.take a (ivl piv) = ivl piv := take_len_g _ z2.symm
        rw [ha] at hi6
        have z5 : (piv ++ [j]).length = a + 1 := by simp [ha]
        clear bn ba hf hs
        refine go3 ?_
        exact ⟨_, rfl, _, rfl, _, _, _, _, rfl, .inr ⟨vp + 1, g1, _, by rw [z3], by rw [z5]⟩⟩
end Go.S

end
section
set_option linter.unusedVariables false
set_option linter.unusedSimpArgs false
set_option maxRecDepth 100000
namespace Go.S
open Go Go.AM Go.RowKit Go.K
theorem s_clonev {l : List Rat} (hl : l.length ≤ 1000000) (h : Heap) : cloneV (CL F) 115 (eR l) h = some (eR l, h) := by
  cases l with
  | nil =>
    show cloneV (CL F) _ (.lst []) h = _
    rw [cloneV_nil]
    have h1 := s_clone_nil h
    rw [cloneA_nil] at h1
    split at h1
    · next hh => rw [if_pos hh]; rfl
    · cases h1
  | cons x l =>
    rw [cloneV_ne (by intro e; cases e)]
    have h1 := s_clone hl [] (by intro e; cases e)
    rw [callA_pure, fzs_cons, fz_lst, fzs_nil, fzK_some, cpA_some]
    have h2 : CP (CL F) 115 [eR (x :: l)] = some (eR (x :: l)) := by
      refine CP_raw h1 ?_
      exact (fz_ref').trans <| (em_fz6 (h := [some ⟨0, 3, em eQ (x :: l)⟩]) (v := 0) (off := 0) (len := (x :: l).length) E_eQ (x :: l)).trans (by rw [sub_full])
    rw [h2]
    rfl
theorem s_begin0 : CL F 104 [.lst []] [] = some (.tup [.ptr 0 0 0 0, eI 0], [some ⟨0, 5, [aW .nil .nil 1]⟩]) := by
  refine CL_X (F := F) (f := 104) rfl rfl ?_
  have h2 := s_Check (t := []) (by simp)
  rw [show may [] = true from rfl, if_pos rfl] at h2
  replace h2 : CP (CL F) 14 [.lst []] = some (eI 0) := h2
  have h3 := s_rat_Of (a := 1) (by decide) (by decide)
  rw [show ((1 : Int) : Rat) = 1 from rfl] at h3
  refine go3 ?_
  refine X_round ?_
  refine go3 ?_
  trivial
theorem tab_wide {n c : Nat} {A : Mt} (h : 0 < n) : wide (tab n c A) = c := by
  unfold wide
  rw [show (tab n c A).getD 0 [] = rowf c (A 0) from tab_get h, rowf_len]
theorem tab_may {n c : Nat} {A : Mt} (hn : n ≤ 200) (hc : c ≤ 200) : may (tab n c A) = true := by
  rw [may_iff, tab_len]
  rcases Nat.eq_zero_or_pos n with h | h
  · subst h; exact ⟨by omega, by simp [wide, tab], fun r hr => by simp [tab] at hr⟩
  · rw [tab_wide h]; exact ⟨hn, hc, tab_row⟩
theorem s_begin {n c : Nat} {A : Mt} (hn : 0 < n) (hn2 : n ≤ 200) (hc : c ≤ 200) : ∃ x, CL F 104 [eT (tab n c A)] [] = some x ∧ ∃ h, x = (.tup [.ptr 0 0 0 0, eI 0], h) ∧ WH n c (A, [], 1) h := by
  have hm := tab_may (A := A) hn2 hc
  have hl : (tab n c A).length = n := tab_len _ _ _
  have hr : ∀ i, i < n → ((tab n c A).getD i default).length ≤ 200 := fun i hi => by rw [tab_get hi, rowf_len]; exact hc
  suffices H : ∃ x, CL F 104 [eT (tab n c A)] [] = some x ∧ ∃ v y g, x = (.tup [.ptr 0 0 0 0, eI 0], some ⟨0, 5, [aW (.ref 2 v 1 0 n) .nil 1]⟩ :: y :: some ⟨v, 1, em eR (tab n c A)⟩ :: g) by
    obtain ⟨x, h1, v, y, g, rfl⟩ := H
    exact ⟨_, h1, _, rfl, _, _, _, _, rfl, .inl ⟨rfl, rfl⟩⟩
  generalize tab n c A = t at *
  subst hl
  refine CL_XE (F := F) (f := 104) rfl rfl ?_
  have h2 := s_Check (t := t) (by omega)
  rw [hm, if_pos rfl] at h2
  have h3 := s_rat_Of (a := 1) (by decide) (by decide)
  rw [show ((1 : Int) : Rat) = 1 from rfl] at h3
  have hlt0 : ((0 : Int) < (t.length : Int)) := by omega
  have g0 := em_getN (f := eR) t 0 hn
  have k0 := fun h => s_clonev (l := t.getD 0 default) (by have := hr 0 hn; omega) h
  have hw1 : wrap64 (0 + 1) = 1 := by rw [show (0 : Int) + 1 = 1 from rfl, w64 (by omega) (by omega)]
  have hs0 : t.take 1 = [t.getD 0 default] := by rw [take_succ_getD t 0 hn]; rfl
  generalize t.getD 0 default = r0 at *
  clear hm
  refine go3 ?_
  refine X_round ?_
  refine go3 ?_
  refine X_up t.length (fun i s => ∃ j7 j19 v y g, s = ⟨[(0, eT t), (2, .nilp), (3, eI 0), (4, eI 0), (5, .ptr 0 0 0 0), (7, j7), (11, .bool false), (16, eT t), (17, eI t.length), (18, eI i), (19, j19)], some ⟨0, 5, [aW (.ref 2 v 1 0 i) .nil 1]⟩ :: y :: some ⟨v, 1, em eR (t.take i)⟩ :: g⟩) ?_ ?_ 1 hn _ ⟨_, _, _, _, _, by rw [hs0]; rfl⟩
  · rintro i s hi ⟨j7, j19, v, y, g, rfl⟩ rec
    have hlt := lt_c hi
    have g1 := em_getN (f := eR) t i hi
    have k1 := fun h => s_clonev (l := t.getD i default) (by have := hr i hi; omega) h
    have hs : t.take i ++ [t.getD i default] = t.take (i + 1) := (take_succ_getD t i hi).symm
    have hlen : (t.take i).length = i := by simp; omega
    have ht : List.take i (t.take i) = t.take i := take_len_g _ hlen.symm
    generalize t.getD i default = r1 at *
    have hlim : i < 5864062014805 := by omega
    have hi6 : i < 9223372036854775807 := by omega
    have hw := i64_nat hi6
    clear hr hlen hs0 k0 g0 hlt0
    refine go3 ?_
    exact rec _ ⟨_, _, _, _, _, rfl⟩
  · rintro s ⟨j7, j19, v, y, g, rfl⟩
    have hlt : ¬ ((t.length : Int) < (t.length : Int)) := nlt_c
    clear hr hs0 k0 g0
    refine go3 ?_
    exact ⟨_, rfl, _, _, _, rfl⟩
theorem pow5 (K m : Nat) : K * 5 ^ (m + 1) = 5 * (K * 5 ^ m) := by rw [Nat.pow_succ]; simp only [Nat.mul_comm, Nat.mul_left_comm]
theorem gstep_size {n c j K : Nat} {s : Mt × List Nat × Rat} (hK : 1 ≤ K) (hle : s.2.1.length ≤ n) (hj : j < c) (hA : ∀ r, r < n → ∀ y, y < c → Lq (s.1 r y) ≤ K * 5 ^ s.2.1.length) (hd : Lq s.2.2 ≤ K * 5 ^ s.2.1.length) :
    (∀ r, r < n → ∀ y, y < c → Lq ((gstep n j s).1 r y) ≤ K * 5 ^ (gstep n j s).2.1.length) ∧ Lq (gstep n j s).2.2 ≤ K * 5 ^ (gstep n j s).2.1.length := by
  obtain ⟨A, piv, d⟩ := s
  simp only at hA hd hle
  obtain ⟨k1, k2, k3, k4⟩ := fnd_spec (n := n) (A := A) (j := j) hle
  have hgs : gstep n j (A, piv, d) = if fnd n A j piv.length = n then (A, piv, d) else (elimTo (pivR A piv.length (fnd n A j piv.length) j) piv.length j n, piv ++ [j], (if piv.length = fnd n A j piv.length then d else -d) * A (fnd n A j piv.length) j) := rfl
  rw [hgs]
  clear hgs
  generalize fnd n A j piv.length = k at *
  by_cases hk : k = n
  · rw [if_pos hk]; exact ⟨hA, hd⟩
  · rw [if_neg hk]
    simp only [List.length_append, List.length_singleton]
    have hp := k4 (by omega)
    rw [pow5]
    have h1 : 1 ≤ K * 5 ^ piv.length := Nat.mul_pos hK (Nat.pos_of_ne_zero (by simp))
    generalize K * 5 ^ piv.length = M at *
    generalize piv.length = a at *
    have han : a < n := by omega
    have hkn : k < n := by omega
    have hkj := hA k hkn j hj
    have hpa : ∀ y, y < c → Lq (pivR A a k j a y) ≤ 2 * M := fun y hy => by
      have e : pivR A a k j a y = (A k j)⁻¹ * A k y := by unfold pivR setr; rw [if_pos rfl]
      rw [e]
      have := hA k hkn y hy
      have := Lq_inv (A k j) hp
      have := Lq_mul (A k j)⁻¹ (A k y)
      omega
    have hpr : ∀ r, r < n → r ≠ a → ∀ y, y < c → Lq (pivR A a k j r y) ≤ M := fun r hr hne y hy => by
      unfold pivR setr
      rw [if_neg hne]
      unfold swp
      rw [if_neg hne]
      split
      · exact hA a han y hy
      · exact hA r hr y hy
    constructor
    · intro r hr y hy
      by_cases hra : r = a
      · rw [hra, elimTo_at]
        have := hpa y hy
        omega
      · unfold elimTo
        rw [if_pos ⟨hr, hra⟩]
        have h2 := hpr r hr hra y hy
        have h3 := hpr r hr hra j hj
        have h4 := hpa y hy
        have h5 := Lq_sub (pivR A a k j r y) (pivR A a k j r j * pivR A a k j a y)
        have h6 := Lq_mul (pivR A a k j r j) (pivR A a k j a y)
        omega
    · have h2 := Lq_mul (if a = k then d else -d) (A k j)
      have h3 : Lq (if a = k then d else -d) ≤ M := by
        split
        · exact hd
        · rw [Lq_neg]; exact hd
      omega
theorem grun_size {n c K : Nat} {A : Mt} (hK : 1 ≤ K) (hA : ∀ r, r < n → ∀ y, y < c → Lq (A r y) ≤ K) : ∀ j, j ≤ c → (∀ r, r < n → ∀ y, y < c → Lq ((grun n A j).1 r y) ≤ K * 5 ^ (grun n A j).2.1.length) ∧ Lq (grun n A j).2.2 ≤ K * 5 ^ (grun n A j).2.1.length := by
  intro j
  induction j with
  | zero =>
    intro _
    refine ⟨fun r hr y hy => ?_, ?_⟩
    · show Lq (A r y) ≤ K * 1
      have := hA r hr y hy
      omega
    · show Lq 1 ≤ K * 1
      have := Lq_one
      omega
  | succ j ih =>
    intro hj
    obtain ⟨h1, h2⟩ := ih (by omega)
    exact gstep_size hK (grun_RR n A j).le (by omega) h1 h2
theorem grun_bound {n c K : Nat} {A : Mt} (hK : 1 ≤ K) (hA : ∀ r, r < n → ∀ y, y < c → Lq (A r y) ≤ K) {j : Nat} (hj : j ≤ c) : (∀ r, r < n → ∀ y, y < c → Lq ((grun n A j).1 r y) ≤ K * 5 ^ n) ∧ Lq (grun n A j).2.2 ≤ K * 5 ^ n := by
  obtain ⟨h1, h2⟩ := grun_size hK hA j hj
  have h3 : K * 5 ^ (grun n A j).2.1.length ≤ K * 5 ^ n := Nat.mul_le_mul_left K (Nat.pow_le_pow_right (by decide) (grun_RR n A j).le)
  exact ⟨fun r hr y hy => Nat.le_trans (h1 r hr y hy) h3, Nat.le_trans h2 h3⟩
def GB (n c M : Nat) (A : Mt) : Prop := ∀ j, j ≤ c → (∀ r, r < n → ∀ y, y < c → Lq ((grun n A j).1 r y) ≤ M) ∧ Lq (grun n A j).2.2 ≤ M
theorem grun_GB {n c K : Nat} {A : Mt} (hK : 1 ≤ K) (hA : ∀ r, r < n → ∀ y, y < c → Lq (A r y) ≤ K) : GB n c (K * 5 ^ n) A := fun _ hj => grun_bound hK hA hj
theorem s_run {n c M : Nat} {A : Mt} (hn : 0 < n) (hn2 : n ≤ 200) (hc : c ≤ 200) (hM : M < 1000000) (hA : GB n c M A) :
    ∃ x, CL F 55 [eT (tab n c A)] [] = some x ∧ ∃ h, x = (.tup [.ptr 0 0 0 0, eI 0], h) ∧ WH n c (grun n A c) h := by
  obtain ⟨x, b1, h0, rfl, b2⟩ := s_begin (A := A) hn hn2 hc
  refine CL_XE (F := F) (f := 55) rfl rfl ?_
  have h1 := s_Size (tab n c A)
  rw [tab_wide hn, tab_len] at h1
  have hstep : ∀ j, j < c → ∀ h, WH n c (grun n A j) h → ∃ x, CL F 83 [.ptr 0 0 0 0, eI j] h = some x ∧ ∃ h', x = (.tup [], h') ∧ WH n c (grun n A (j + 1)) h' := fun j hj h hw => by
    obtain ⟨g1, g2⟩ := hA j (by omega)
    exact s_step hw (by omega) (by omega) hj (grun_RR n A j).le (M := M) hM g1 (by omega)
  replace b2 : WH n c (grun n A 0) h0 := b2
  clear hA
  refine go3 ?_
  refine X_up c (fun j s => ∃ j8 j24 h, s = ⟨[(0, eT (tab n c A)), (2, .nilp), (3, eI 0), (4, .ptr 0 0 0 0), (5, eI 0), (7, eI c), (8, j8), (15, .bool false), (22, eI c), (23, eI j), (24, j24)], h⟩ ∧ WH n c (grun n A j) h) ?_ ?_ 0 (Nat.zero_le _) _ ⟨_, _, _, rfl, b2⟩
  · rintro j s hj ⟨j8, j24, h, rfl, hw⟩ rec
    have hlt := lt_c hj
    obtain ⟨x, hs, h', rfl, hw'⟩ := hstep j hj h hw
    have hi6 : j < 9223372036854775807 := by omega
    have hw6 := i64_nat hi6
    clear hstep b1 hw b2
    refine go3 ?_
    exact rec _ ⟨_, _, _, rfl, hw'⟩
  · rintro s ⟨j8, j24, h, rfl, hw⟩
    have hlt : ¬ ((c : Int) < (c : Int)) := nlt_c
    clear hstep b1 b2
    refine go3 ?_
    exact ⟨_, rfl, _, rfl, hw⟩
theorem s_run0 : CL F 55 [.lst []] [] = some (.tup [.ptr 0 0 0 0, eI 0], [some ⟨0, 5, [aW .nil .nil 1]⟩]) := by
  refine CL_X (F := F) (f := 55) rfl rfl ?_
  have b1 := s_begin0
  have h1 : CP (CL F) 27 [.lst []] = some (.tup [eI 0, eI 0]) := s_Size []
  refine go3 ?_
  refine X_round ?_
  refine go3 ?_
  trivial
theorem s_Reduce0 : CP (CL F) 12 [.lst []] = some (.tup [.lst [], .lst [], eI 0]) := by
  refine CP_X (F := F) (f := 12) rfl rfl ?_
  have b1 := s_run0
  refine go3 ?_
  trivial
theorem s_Reduce {n c M : Nat} {A : Mt} (hn2 : n ≤ 200) (hc : c ≤ 200) (h0 : n = 0 → c = 0) (hM : M < 1000000) (hA : GB n c M A) :
    CP (CL F) 12 [eT (tab n c A)] = some (.tup [eT (tab n c (grun n A c).1), .lst (ui (ivl (grun n A c).2.1)), eI 0]) := by
  rcases Nat.eq_zero_or_pos n with e | e
  · subst e
    rw [h0 rfl]
    exact s_Reduce0
  · obtain ⟨x, b1, h, rfl, b2⟩ := s_run e hn2 hc hM hA
    refine CP_X (F := F) (f := 12) rfl rfl ?_
    obtain ⟨y, vt, pr, g, rfl, hp⟩ := b2
    have z1 := tab_len n c (grun n A c).1
    have z2 : List.take n (tab n c (grun n A c).1) = tab n c (grun n A c).1 := take_len_g _ z1.symm
    have z3 := ivl_len (grun n A c).2.1
    have z4 : List.take (grun n A c).2.1.length (ivl (grun n A c).2.1) = ivl (grun n A c).2.1 := take_len_g _ z3.symm
    generalize (grun n A c).2.1 = piv at *
    generalize (grun n A c).2.2 = d at *
    generalize tab n c (grun n A c).1 = T at *
    generalize tab n c A = T0 at *
    rcases hp with ⟨rfl, rfl⟩ | ⟨vp, g1, g2, rfl, rfl⟩
    · clear hA
      refine go3 ?_
      trivial
    · clear hA
      refine go3 ?_
      trivial
end Go.S

end
section
set_option linter.unusedVariables false
namespace Go.S
open Go Go.AM Go.RowKit Go.K
def runsTrue2 (F : Nat → Option AFunc) (n f : Nat) : Bool := match callN F n f [] [] with
  | some (.bool b, _) => b
  | _ => false
theorem CP_run2 {F : Nat → Option AFunc} {f : Nat} (n : Nat) (h : runsTrue2 F n f = true) : CP (CL F) f [] = some (.bool true) := by
  unfold runsTrue2 at h
  split at h
  · next b g hb =>
    subst h
    exact CP_raw (CL_of n hb) rfl
  · cases h
end Go.S

end
section
set_option linter.unusedVariables false
set_option linter.unusedSimpArgs false
set_option maxRecDepth 100000
namespace Go.S
open Go Go.AM Go.RowKit Go.K
theorem s_Rank {t : List (List Rat)} {s : AV} {l : List Int} {e : Int} (h : CP (CL F) 12 [eT t] = some (.tup [s, .lst (ui l), eI e])) : CP (CL F) 13 [eT t] = some (.tup [eI l.length, eI e]) := by
  refine CP_X (F := F) (f := 13) rfl rfl ?_
  refine go3 ?_
  trivial
theorem ent_size {t : List (List Rat)} {K : Nat} (h : ∀ r ∈ t, ∀ q ∈ r, Lq q ≤ K) (he : ∀ r ∈ t, r.length = wide t) : ∀ r, r < t.length → ∀ y, y < wide t → Lq (ent t r y) ≤ K := fun r hr y hy => h _ (getD_mem hr) _ (getD_mem (by rw [he _ (getD_mem hr)]; exact hy))
set_option maxHeartbeats 4000000
end Go.S

end
section
set_option linter.unusedVariables false
set_option linter.unusedSimpArgs false
set_option maxRecDepth 100000
namespace Go.S
open Go Go.AM Go.RowKit Go.K
def colR (t : List (List Rat)) (j : Nat) : List Rat := t.map fun r => r.getD j default
theorem fz_tab {H : Heap} {b id v : Nat} {cs : List AV} {g : Heap} {t : List (List Rat)} {ks : List Nat} (R : RowsIn b g eQ cs t ks) (hH : ∀ k, H[b + k]? = g[k]?) (hb : H[id]? = some (some ⟨v, 1, cs⟩)) (m : Nat) : frz H (m + 5) (.ref id v 1 0 t.length) = some (eT t) := by
  have a1 := R.frz (fun x => E_eQ.pl x) hH (m + 1)
  have b1 : blk H id v = some ⟨v, 1, cs⟩ := by
    unfold blk
    rw [hb]
    exact if_pos rfl
  have c1 : sub cs 0 t.length = cs := by unfold sub; rw [List.drop_zero]; exact List.take_of_length_le (by rw [R.1]; omega)
  show (blk H id v).bind (fun b => ((sub b.xs 0 t.length).mapM (Go.AM.frz H (m + 4))).map AV.lst) = _
  rw [b1]
  show ((sub cs 0 t.length).mapM (Go.AM.frz H (m + 4))).map AV.lst = _
  rw [c1, a1]
  rfl
def ownC (b : Nat) (c j : Nat) : List AV := (List.range j).map fun k => AV.ref (b + (k + 1)) 0 3 0 c
def ownB (t : List (List Rat)) (j : Nat) : Heap := (List.range j).map fun k => some (⟨0, 3, em eQ (t.getD k default)⟩ : Blk)
theorem ownC_len (b c j : Nat) : (ownC b c j).length = j := by simp [ownC]
theorem ownB_len (t : List (List Rat)) (j : Nat) : (ownB t j).length = j := by simp [ownB]
theorem ownC_succ (b c j : Nat) : ownC b c (j + 1) = ownC b c j ++ [AV.ref (b + (j + 1)) 0 3 0 c] := by simp [ownC, List.range_succ]
theorem ownB_succ (t : List (List Rat)) (j : Nat) : ownB t (j + 1) = ownB t j ++ [some ⟨0, 3, em eQ (t.getD j default)⟩] := by simp [ownB, List.range_succ]
theorem s_own_raw {t : List (List Rat)} {c : Nat} (hl : t.length ≤ 1000000) (hc : 0 < c) (hc2 : c ≤ 1000000) (ht : ∀ r ∈ t, r.length = c) (h : Heap) :
    CL F 68 [eT t] h = some (.ref h.length 0 1 0 t.length, h ++ (some ⟨0, 1, ownC h.length c t.length⟩ :: ownB t t.length)) := by
  refine CL_X (F := F) (f := 68) rfl rfl ?_
  have h2 : t.length ≤ 11728124029610 := by omega
  refine go3 ?_
  refine X_up t.length (fun i s => ∃ j4 j5 j12, s = ⟨[(0, eT t), (2, .nil), (3, .ref h.length 0 1 0 t.length), (4, j4), (5, j5), (9, eT t), (10, eI t.length), (11, eI i), (12, j12)], h ++ (some ⟨0, 1, ownC h.length c i ++ List.replicate (t.length - i) .nil⟩ :: ownB t i)⟩) ?_ ?_ 0 (Nat.zero_le _) _ ⟨_, _, _, rfl⟩
  · rintro i s hi ⟨j4, j5, j12, rfl⟩ rec
    have hlt := lt_c hi
    have g1 := em_getN (f := eR) t i hi
    have hr := ht _ (getD_mem hi)
    have k1 := fun h => s_clone' (l := t.getD i default) (by omega) h (fun e => by rw [e] at hr; simp at hr; omega)
    simp only [ownC_succ, ownB_succ] at rec
    have hb := ownB_len t i
    obtain ⟨m, hm⟩ : ∃ m, t.length - i = m + 1 := ⟨t.length - i - 1, by omega⟩
    have a1 : (ownC h.length c i ++ List.replicate (t.length - i) AV.nil)[i]? = some .nil := by rw [hm, List.getElem?_append_right (by rw [ownC_len]; omega), ownC_len]; simp
    have a2 : (ownC h.length c i ++ List.replicate (t.length - i) AV.nil).set i (AV.ref (h.length + (i + 1)) 0 3 0 c) = ownC h.length c i ++ [AV.ref (h.length + (i + 1)) 0 3 0 c] ++ List.replicate (t.length - (i + 1)) .nil := by
      rw [hm, List.set_append_right _ _ (by rw [ownC_len]; omega), ownC_len, show t.length - (i + 1) = m by omega, Nat.sub_self]
      simp [List.replicate_succ]
    generalize t.getD i default = r at *
    have hw := i64_nat (n := i) (by omega)
    clear hm ht hc hc2
    refine go3 ?_
    exact rec _ ⟨eI i, eR r, .bool true, by simp⟩
  · rintro s ⟨j4, j5, j12, rfl⟩
    have hlt : ¬ ((t.length : Int) < (t.length : Int)) := nlt_c
    have he : List.replicate (t.length - t.length) AV.nil = [] := by simp
    clear ht
    refine go3 ?_
    trivial
theorem s_own_raw0 {t : List (List Rat)} (hl : t.length ≤ 1000000) (ht : ∀ r ∈ t, r = []) (h : Heap) :
    CL F 68 [eT t] h = some (.ref h.length 0 1 0 t.length, h ++ [some ⟨0, 1, List.replicate t.length .zero⟩]) := by
  refine CL_X (F := F) (f := 68) rfl rfl ?_
  have h2 : t.length ≤ 11728124029610 := by omega
  have k1 := fun h => s_clone_nil h
  have e0 : em eQ [] = [] := rfl
  refine go3 ?_
  refine X_up t.length (fun i s => ∃ j4 j5 j12, s = ⟨[(0, eT t), (2, .nil), (3, .ref h.length 0 1 0 t.length), (4, j4), (5, j5), (9, eT t), (10, eI t.length), (11, eI i), (12, j12)], h ++ [some ⟨0, 1, List.replicate i .zero ++ List.replicate (t.length - i) .nil⟩]⟩) ?_ ?_ 0 (Nat.zero_le _) _ ⟨_, _, _, rfl⟩
  · rintro i s hi ⟨j4, j5, j12, rfl⟩ rec
    have hlt := lt_c hi
    have g1 := em_getN (f := eR) t i hi
    rw [ht _ (getD_mem hi)] at g1
    obtain ⟨m, hm⟩ : ∃ m, t.length - i = m + 1 := ⟨t.length - i - 1, by omega⟩
    have a1 : (List.replicate i AV.zero ++ List.replicate (t.length - i) AV.nil)[i]? = some .nil := by rw [hm, List.getElem?_append_right (by simp)]; simp
    have a2 : (List.replicate i AV.zero ++ List.replicate (t.length - i) AV.nil).set i AV.zero = List.replicate (i + 1) AV.zero ++ List.replicate (t.length - (i + 1)) .nil := by
      rw [hm, List.set_append_right _ _ (by simp), show t.length - (i + 1) = m by omega, List.length_replicate, Nat.sub_self]
      rw [List.replicate_succ (n := m), List.set_cons_zero, List.replicate_succ' (n := i), List.append_assoc]
      rfl
    have hw := i64_nat (n := i) (by omega)
    clear hm ht
    refine go3 ?_
    exact rec _ ⟨_, _, _, rfl⟩
  · rintro s ⟨j4, j5, j12, rfl⟩
    have hlt : ¬ ((t.length : Int) < (t.length : Int)) := nlt_c
    have he : List.replicate (t.length - t.length) AV.nil = [] := by simp
    clear ht
    refine go3 ?_
    trivial
theorem own_rows {t : List (List Rat)} {c b : Nat} (ht : ∀ r ∈ t, r.length = c) : RowsIn (b + 1) (ownB t t.length) eQ (ownC b c t.length) t (List.range t.length) := by
  refine ⟨ownC_len _ _ _, by simp, fun i hi => ?_⟩
  have e1 : (ownC b c t.length).getD i default = AV.ref (b + (i + 1)) 0 3 0 c := by simp [ownC, List.getD, hi]
  have e3 : (List.range t.length).getD i default = i := by simp [List.getD, hi]
  rw [e1, e3]
  refine ⟨0, [], by rw [ht _ (getD_mem hi)]; congr 1; omega, by simp [ownB, hi]⟩
theorem s_own {t : List (List Rat)} {c : Nat} (hl : t.length ≤ 1000000) (hc2 : c ≤ 1000000) (ht : ∀ r ∈ t, r.length = c) : CP (CL F) 68 [eT t] = some (eT t) := by
  rcases Nat.eq_zero_or_pos c with rfl | hc
  · have h0 : ∀ r ∈ t, r = [] := fun r hr => List.eq_nil_of_length_eq_zero (ht r hr)
    refine CP_raw (s_own_raw0 hl h0 []) ?_
    have e : em eR t = List.replicate t.length (AV.lst []) := by
      refine List.eq_replicate_iff.2 ⟨em_len _, fun x hx => ?_⟩
      obtain ⟨r, hr, rfl⟩ := List.mem_map.1 hx
      rw [h0 r hr]; rfl
    show (((sub (List.replicate t.length AV.zero) 0 t.length).mapM (Go.AM.frz _ 6)).map AV.lst) = _
    have c1 : sub (List.replicate t.length AV.zero) 0 t.length = List.replicate t.length AV.zero := by unfold sub; rw [List.drop_zero]; exact List.take_of_length_le (by simp)
    rw [c1, mapM_some (G := fun _ => AV.lst []) _ fun x hx => by rw [List.eq_of_mem_replicate hx]; rfl]
    show some (AV.lst _) = some (AV.lst (em eR t))
    rw [e]
    simp
  · refine CP_raw (s_own_raw hl hc hc2 ht []) ?_
    exact fz_tab (H := some ⟨0, 1, ownC 0 c t.length⟩ :: ownB t t.length) (id := 0) (v := 0) (g := ownB t t.length) (own_rows (b := 0) ht) (fun k => by rw [Nat.add_comm]; rfl) rfl 2
end Go.S

end
section
set_option linter.unusedVariables false
set_option linter.unusedSimpArgs false
set_option maxRecDepth 100000
namespace Go.S
open Go Go.AM Go.RowKit Go.K
def upd {α : Type} (n : Nat) (f g : Nat → α) (i : Nat) : List α := (List.range n).map fun k => if k < i then g k else f k
section
variable {α : Type} {n : Nat} {f g : Nat → α}
theorem upd_len (i : Nat) : (upd n f g i).length = n := by simp [upd]
theorem upd_zero : upd n f g 0 = (List.range n).map f := by simp [upd]
theorem upd_all : upd n f g n = (List.range n).map g := by
  unfold upd
  refine List.map_congr_left fun k hk => ?_
  rw [if_pos (by simpa using hk)]
theorem upd_get {i : Nat} (h : i < n) : (upd n f g i)[i]? = some (f i) := by simp [upd, h]
theorem upd_set {i : Nat} (h : i < n) : (upd n f g i).set i (g i) = upd n f g (i + 1) := by
  refine List.ext_getElem? fun k => ?_
  rw [List.getElem?_set]
  by_cases hk : i = k
  · subst hk
    rw [if_pos rfl, if_pos (by rw [upd_len]; exact h)]
    simp [upd, h]
  · rw [if_neg hk]
    unfold upd
    by_cases hn : k < n
    · simp only [List.getElem?_map, List.getElem?_range hn, Option.map_some]
      have : k < i ↔ k < i + 1 := by omega
      simp [this]
    · simp [List.getElem?_eq_none, hn]
end
def besideR (a b : List (List Rat)) : List (List Rat) := List.zipWith (· ++ ·) a b
theorem s_Beside_walk {a b : List (List Rat)} (ha : may a = true) (hb : may b = true) (h : b.length = a.length) {c d : Nat} (hc : 0 < c) (ea : ∀ r ∈ a, r.length = c) (eb : ∀ r ∈ b, r.length = d) (c1 : c ≤ 200) (d1 : d ≤ 200) (hm : may (besideR a b) = true) :
    CP (CL F) 103 [.lst (em eT [a, b])] = some (.tup [eT (besideR a b), eI 0]) := by
  have a1 : a.length ≤ 200 := by simp [may] at ha; exact ha.1.1
  have hlen : (besideR a b).length = a.length := by simp [besideR]; omega
  refine CP_X (F := F) (f := 103) rfl rfl ?_
  have hk := s_checks (l := [a, b]) (by simp) fun t ht => by simp at ht; rcases ht with rfl | rfl <;> omega
  rw [show [a, b].all may = true by simp [ha, hb]] at hk
  have hl : (em eT [a, b]).length = 2 := rfl
  have g0 : (em eT [a, b])[0]? = some (eT a) := rfl
  have hd : List.drop 1 (em eT [a, b]) = [eT b] := rfl
  have hok : okS 1 (em eT [a, b]) = true := rfl
  have hn : nth [b] (0 : Int) = b := rfl
  have hne2 : ((b.length : Int) = (a.length : Int)) := by omega
  let cf : Nat → AV := fun k => .ref (k + 1) 0 3 0 c
  let cg : Nat → AV := fun k => .ref (k + 1) 1 3 0 (c + d)
  let bf : Nat → Option Blk := fun k => some ⟨0, 3, em eQ (a.getD k default)⟩
  let bg : Nat → Option Blk := fun k => some ⟨1, 3, em eQ (a.getD k default ++ b.getD k default)⟩
  have ho : CL F 68 [eT a] [] = some (.ref 0 0 1 0 a.length, some ⟨0, 1, upd a.length cf cg 0⟩ :: upd a.length bf bg 0) := by
    rw [s_own_raw (by omega) hc (by omega) ea [], upd_zero, upd_zero]
    have e1 : ownC ([] : Heap).length c a.length = (List.range a.length).map cf := by simp [ownC, cf]
    rw [e1]
    rfl
  have hC := s_Check (t := besideR a b) (by omega)
  rw [hm, if_pos rfl] at hC
  have hfz : fz (some ⟨0, 1, upd a.length cf cg a.length⟩ :: upd a.length bf bg a.length) (.ref 0 0 1 0 a.length) = some (eT (besideR a b)) := by
    have R : RowsIn 1 (upd a.length bf bg a.length) eQ (upd a.length cf cg a.length) (besideR a b) (List.range a.length) := by
      refine ⟨by rw [upd_len, hlen], by simp [hlen], fun i hi => ?_⟩
      have hi' : i < a.length := by omega
      rw [upd_all, upd_all]
      have e1 : ((List.range a.length).map cg).getD i default = cg i := by simp [List.getD, hi']
      have e2 : (besideR a b).getD i default = a.getD i default ++ b.getD i default := by
        simp only [besideR, List.getD_eq_getElem?_getD]
        rw [List.getElem?_eq_getElem (by simp; omega), List.getElem_zipWith, List.getElem?_eq_getElem hi', List.getElem?_eq_getElem (by omega)]
        rfl
      have e3 : (List.range a.length).getD i default = i := by simp [List.getD, hi']
      rw [e1, e2, e3]
      refine ⟨1, [], ?_, by simp [bg, hi']⟩
      rw [List.length_append, ea _ (getD_mem hi'), eb _ (getD_mem (by omega))]
      show AV.ref (i + 1) 1 3 0 (c + d) = _
      rw [Nat.add_comm i 1]
    have := fz_tab (H := some ⟨0, 1, upd a.length cf cg a.length⟩ :: upd a.length bf bg a.length) (id := 0) (v := 0) R (fun k => by rw [Nat.add_comm]; rfl) rfl 2
    rwa [hlen] at this
  clear hm ha hb
  refine go3 ?_
  refine X_round ?_
  refine go3 ?_
  have step : ∀ i, i < a.length → ∃ ra rb, ra.length = c ∧ rb.length = d ∧ (em eR b)[i]? = some (eR rb) ∧ (upd a.length cf cg i)[i]? = some (.ref (i + 1) 0 3 0 c) ∧ (upd a.length cf cg i).set i (.ref (i + 1) 1 3 0 (c + d)) = upd a.length cf cg (i + 1) ∧
      (upd a.length bf bg i)[i]? = some (some ⟨0, 3, em eQ ra⟩) ∧ (upd a.length bf bg i).set i (some ⟨1, 3, em eQ (ra ++ rb)⟩) = upd a.length bf bg (i + 1) := fun i hi =>
    ⟨a.getD i default, b.getD i default, ea _ (getD_mem hi), eb _ (getD_mem (by omega)), em_getN (f := eR) b i (by omega), upd_get hi, upd_set hi, upd_get hi, upd_set hi⟩
  generalize upd a.length cf cg = C at *
  generalize upd a.length bf bg = D at *
  clear ho
  refine X_up a.length (fun i s => ∃ j7 j8 j35, s = ⟨[(0, .lst (em eT [a, b])), (2, .nil), (3, eI 0), (4, .ref 0 0 1 0 a.length), (6, .lst (em eR b)), (7, j7), (8, j8), (9, .undef), (12, .bool false), (15, .bool false), (21, .lst (em eT [b])), (22, eI 1), (23, eI 0), (24, .bool true), (31, .bool false), (32, .lst (em eR b)), (33, eI a.length), (34, eI i), (35, j35), (53, .undef)], some ⟨0, 1, C i⟩ :: D i⟩) ?_ ?_ 0 (Nat.zero_le _) _ ⟨_, _, _, rfl⟩
  · rintro i s hi ⟨j7, j8, j35, rfl⟩ rec
    have hlt := lt_c hi
    obtain ⟨ra, rb, l1, l2, g1, u1, u2, u3, u4⟩ := step i hi
    have ht : List.take c ra = ra := take_len_g _ l1.symm
    have hlim : c + d ≤ 2513169434916 := by omega
    have hw := i64_nat (n := i) (by omega)
    clear step hfz ea eb h c1 d1 hlen hc
    refine go3 ?_
    exact rec _ ⟨_, _, _, rfl⟩
  · rintro s ⟨j7, j8, j35, rfl⟩
    have hlt : ¬ ((a.length : Int) < (a.length : Int)) := nlt_c
    have hw : wrap64 (0 + 1) = 1 := by rw [show (0 : Int) + 1 = 1 from rfl, w64 (by omega) (by omega)]
    clear step ea eb h c1 d1 hc
    refine go3 ?_
    refine X_round ?_
    refine go3 ?_
    trivial
theorem besideR_nil {a b : List (List Rat)} (ha : ∀ r ∈ a, r = []) (h : b.length = a.length) : besideR a b = b := by
  refine List.ext_getElem (by simp [besideR]; omega) fun i h1 h2 => ?_
  simp only [besideR, List.getElem_zipWith]
  rw [ha _ (List.getElem_mem (by omega)), List.nil_append]
theorem s_Beside_walk0 {a b : List (List Rat)} (ha : may a = true) (hb : may b = true) (h : b.length = a.length) {d : Nat} (hd : 0 < d) (ea : ∀ r ∈ a, r = []) (eb : ∀ r ∈ b, r.length = d) (d1 : d ≤ 200) :
    CP (CL F) 103 [.lst (em eT [a, b])] = some (.tup [eT b, eI 0]) := by
  have a1 : a.length ≤ 200 := by simp [may] at ha; exact ha.1.1
  refine CP_X (F := F) (f := 103) rfl rfl ?_
  have hk := s_checks (l := [a, b]) (by simp) fun t ht => by simp at ht; rcases ht with rfl | rfl <;> omega
  rw [show [a, b].all may = true by simp [ha, hb]] at hk
  have hl : (em eT [a, b]).length = 2 := rfl
  have g0 : (em eT [a, b])[0]? = some (eT a) := rfl
  have hdr : List.drop 1 (em eT [a, b]) = [eT b] := rfl
  have hok : okS 1 (em eT [a, b]) = true := rfl
  have hn : nth [b] (0 : Int) = b := rfl
  have hne2 : ((b.length : Int) = (a.length : Int)) := by omega
  let cf : Nat → AV := fun k => .zero
  let cg : Nat → AV := fun k => .ref (k + 1) 0 3 0 d
  have ho : CL F 68 [eT a] [] = some (.ref 0 0 1 0 a.length, some ⟨0, 1, upd a.length cf cg 0⟩ :: ownB b 0) := by
    rw [s_own_raw0 (by omega) ea [], upd_zero]
    have e1 : (List.range a.length).map cf = List.replicate a.length .zero := by
      refine List.eq_replicate_iff.2 ⟨by simp, fun x hx => ?_⟩
      obtain ⟨k, _, rfl⟩ := List.mem_map.1 hx
      rfl
    rw [e1]
    rfl
  have hC := s_Check (t := b) (by omega)
  rw [hb, if_pos rfl] at hC
  have hfz : fz (some ⟨0, 1, upd a.length cf cg a.length⟩ :: ownB b a.length) (.ref 0 0 1 0 a.length) = some (eT b) := by
    have R := own_rows (b := 0) eb
    have e1 : upd a.length cf cg a.length = ownC 0 d b.length := by rw [upd_all, h]; simp [ownC, cg]
    rw [e1, ← h]
    exact fz_tab (H := some ⟨0, 1, ownC 0 d b.length⟩ :: ownB b b.length) (id := 0) (v := 0) R (fun k => by rw [Nat.add_comm]; rfl) rfl 2
  clear ha hb ea
  refine go3 ?_
  refine X_round ?_
  refine go3 ?_
  have step : ∀ i, i < a.length → ∃ rb, rb.length = d ∧ (em eR b)[i]? = some (eR rb) ∧ (upd a.length cf cg i)[i]? = some .zero ∧ (upd a.length cf cg i).set i (.ref (i + 1) 0 3 0 d) = upd a.length cf cg (i + 1) ∧
      ownB b (i + 1) = ownB b i ++ [some ⟨0, 3, em eQ rb⟩] := fun i hi =>
    ⟨b.getD i default, eb _ (getD_mem (by omega)), em_getN (f := eR) b i (by omega), upd_get hi, upd_set hi, ownB_succ b i⟩
  have bl := ownB_len b
  generalize upd a.length cf cg = C at *
  generalize ownB b = D at *
  clear ho
  refine X_up a.length (fun i s => ∃ j7 j8 j35, s = ⟨[(0, .lst (em eT [a, b])), (2, .nil), (3, eI 0), (4, .ref 0 0 1 0 a.length), (6, .lst (em eR b)), (7, j7), (8, j8), (9, .undef), (12, .bool false), (15, .bool false), (21, .lst (em eT [b])), (22, eI 1), (23, eI 0), (24, .bool true), (31, .bool false), (32, .lst (em eR b)), (33, eI a.length), (34, eI i), (35, j35), (53, .undef)], some ⟨0, 1, C i⟩ :: D i⟩) ?_ ?_ 0 (Nat.zero_le _) _ ⟨_, _, _, rfl⟩
  · rintro i s hi ⟨j7, j8, j35, rfl⟩ rec
    have hlt := lt_c hi
    obtain ⟨rb, l2, g1, u1, u2, u3⟩ := step i hi
    rw [u3] at rec
    have bli := bl i
    have hlim : d ≤ 2513169434916 := by omega
    obtain ⟨x, l, hrb⟩ : ∃ x l, em eQ rb = x :: l := by
      cases rb with
      | nil => simp at l2; omega
      | cons x l => exact ⟨_, _, rfl⟩
    have hne : (em eQ rb).isEmpty = false := by rw [hrb]; rfl
    have hw := i64_nat (n := i) (by omega)
    clear step hfz eb h d1 hd bl hrb u3
    refine go3 ?_
    exact rec _ ⟨_, _, _, rfl⟩
  · rintro s ⟨j7, j8, j35, rfl⟩
    have hlt : ¬ ((a.length : Int) < (a.length : Int)) := nlt_c
    have hw : wrap64 (0 + 1) = 1 := by rw [show (0 : Int) + 1 = 1 from rfl, w64 (by omega) (by omega)]
    clear step eb h d1 hd bl
    refine go3 ?_
    refine X_round ?_
    refine go3 ?_
    trivial
theorem s_Beside_walk00 {a b : List (List Rat)} (ha : may a = true) (hb : may b = true) (h : b.length = a.length) (ea : ∀ r ∈ a, r = []) (eb : ∀ r ∈ b, r = []) :
    CP (CL F) 103 [.lst (em eT [a, b])] = some (.tup [eT b, eI 0]) := by
  have a1 : a.length ≤ 200 := by simp [may] at ha; exact ha.1.1
  refine CP_X (F := F) (f := 103) rfl rfl ?_
  have hk := s_checks (l := [a, b]) (by simp) fun t ht => by simp at ht; rcases ht with rfl | rfl <;> omega
  rw [show [a, b].all may = true by simp [ha, hb]] at hk
  have hl : (em eT [a, b]).length = 2 := rfl
  have g0 : (em eT [a, b])[0]? = some (eT a) := rfl
  have hdr : List.drop 1 (em eT [a, b]) = [eT b] := rfl
  have hok : okS 1 (em eT [a, b]) = true := rfl
  have hn : nth [b] (0 : Int) = b := rfl
  have hne2 : ((b.length : Int) = (a.length : Int)) := by omega
  have ho := s_own_raw0 (by omega) ea []
  have hC := s_Check (t := b) (by omega)
  rw [hb, if_pos rfl] at hC
  have hfz : fz [some ⟨0, 1, List.replicate a.length AV.zero⟩] (.ref 0 0 1 0 a.length) = some (eT b) := by
    have e : em eR b = List.replicate a.length (AV.lst []) := by
      refine List.eq_replicate_iff.2 ⟨by rw [em_len, h], fun x hx => ?_⟩
      obtain ⟨r, hr, rfl⟩ := List.mem_map.1 hx
      rw [eb r hr]; rfl
    show (((sub (List.replicate a.length AV.zero) 0 a.length).mapM (Go.AM.frz _ 6)).map AV.lst) = _
    have c1 : sub (List.replicate a.length AV.zero) 0 a.length = List.replicate a.length AV.zero := by unfold sub; rw [List.drop_zero]; exact List.take_of_length_le (by simp)
    rw [c1, mapM_some (G := fun _ => AV.lst []) _ fun x hx => by rw [List.eq_of_mem_replicate hx]; rfl]
    show some (AV.lst _) = some (AV.lst (em eR b))
    rw [e]
    simp
  clear ha hb ea
  refine go3 ?_
  refine X_round ?_
  refine go3 ?_
  have step : ∀ i, i < a.length → (em eR b)[i]? = some (.lst []) ∧ (List.replicate a.length AV.zero)[i]? = some .zero ∧ (List.replicate a.length AV.zero).set i .zero = List.replicate a.length .zero := fun i hi =>
    ⟨by rw [em_getN (f := eR) b i (by omega), eb _ (getD_mem (by omega))]; rfl, by simp [hi], by
      refine List.ext_getElem (by simp) fun k h1 h2 => ?_
      rw [List.getElem_set]
      split <;> simp⟩
  clear ho
  refine X_up a.length (fun i s => ∃ j7 j8 j35, s = ⟨[(0, .lst (em eT [a, b])), (2, .nil), (3, eI 0), (4, .ref 0 0 1 0 a.length), (6, .lst (em eR b)), (7, j7), (8, j8), (9, .undef), (12, .bool false), (15, .bool false), (21, .lst (em eT [b])), (22, eI 1), (23, eI 0), (24, .bool true), (31, .bool false), (32, .lst (em eR b)), (33, eI a.length), (34, eI i), (35, j35), (53, .undef)], [some ⟨0, 1, List.replicate a.length .zero⟩]⟩) ?_ ?_ 0 (Nat.zero_le _) _ ⟨_, _, _, rfl⟩
  · rintro i s hi ⟨j7, j8, j35, rfl⟩ rec
    have hlt := lt_c hi
    obtain ⟨g1, u1, u2⟩ := step i hi
    have hw := i64_nat (n := i) (by omega)
    clear step hfz eb h
    refine go3 ?_
    exact rec _ ⟨_, _, _, rfl⟩
  · rintro s ⟨j7, j8, j35, rfl⟩
    have hlt : ¬ ((a.length : Int) < (a.length : Int)) := nlt_c
    have hw : wrap64 (0 + 1) = 1 := by rw [show (0 : Int) + 1 = 1 from rfl, w64 (by omega) (by omega)]
    clear step eb h
    refine go3 ?_
    refine X_round ?_
    refine go3 ?_
    trivial
theorem may_spec {t : List (List Rat)} : may t = true ↔ t.length ≤ 200 ∧ wide t ≤ 200 ∧ ∀ r ∈ t, r.length = wide t := by
  unfold may
  simp only [Bool.and_eq_true, decide_eq_true_eq, even_iff, and_assoc]
theorem s_Beside {a b : List (List Rat)} (ha : may a = true) (hb : may b = true) (h : b.length = a.length) (hw : wide a + wide b ≤ 200) :
    CP (CL F) 103 [.lst (em eT [a, b])] = some (.tup [eT (besideR a b), eI 0]) := by
  obtain ⟨a1, a2, a3⟩ := may_spec.1 ha
  obtain ⟨b1, b2, b3⟩ := may_spec.1 hb
  rcases Nat.eq_zero_or_pos (wide a) with e | e
  · have a4 : ∀ r ∈ a, r = [] := fun r hr => List.eq_nil_of_length_eq_zero (by rw [a3 r hr, e])
    rw [besideR_nil a4 h]
    rcases Nat.eq_zero_or_pos (wide b) with e2 | e2
    · exact s_Beside_walk00 ha hb h a4 fun r hr => List.eq_nil_of_length_eq_zero (by rw [b3 r hr, e2])
    · exact s_Beside_walk0 ha hb h e2 a4 b3 b2
  · refine s_Beside_walk ha hb h e a3 b3 a2 b2 ?_
    have hr : ∀ r ∈ besideR a b, r.length = wide a + wide b := fun r hr => by
      obtain ⟨i, hi, rfl⟩ := List.getElem_of_mem hr
      simp only [besideR, List.getElem_zipWith, List.length_append]
      rw [a3 _ (List.getElem_mem _), b3 _ (List.getElem_mem _)]
    have hl : (besideR a b).length = a.length := by simp [besideR]; omega
    refine may_spec.2 ⟨by omega, ?_⟩
    rcases Nat.eq_zero_or_pos a.length with z | z
    · have : besideR a b = [] := List.eq_nil_of_length_eq_zero (by omega)
      rw [this]
      exact ⟨by simp [wide], fun r h => by cases h⟩
    · have hw2 : wide (besideR a b) = wide a + wide b := by
        unfold wide
        rw [show (besideR a b).getD 0 [] = (besideR a b)[0]'(by omega) from by simp [List.getD, List.getElem?_eq_getElem (show 0 < (besideR a b).length by omega)]]
        exact hr _ (List.getElem_mem _)
      rw [hw2]
      exact ⟨hw, hr⟩
end Go.S

end
section
set_option linter.unusedVariables false
set_option linter.unusedSimpArgs false
set_option maxRecDepth 100000
namespace Go.S
open Go Go.AM Go.RowKit Go.K
def partsTo (r : List Rat) (b : List (List Rat)) : Nat → List (List Rat)
  | 0 => []
  | k + 1 => partsTo r b k ++ if r.getD k default = 0 then [] else [(b.getD k default).map (· * r.getD k default)]
def rowMul (r : List Rat) (b : List (List Rat)) (c : Nat) : List Rat := rowf c fun j => sm r.length fun k => r.getD k default * (b.getD k default).getD j default
def mulR (a b : List (List Rat)) : List (List Rat) := a.map fun r => rowMul r b (wide b)
theorem partsTo_len (r : List Rat) (b : List (List Rat)) : ∀ k, (partsTo r b k).length ≤ k := by
  intro k
  induction k with
  | zero => exact Nat.le_refl _
  | succ k ih =>
    show (partsTo r b k ++ _).length ≤ _
    rw [List.length_append]
    split
    · simp; omega
    · simp; omega
theorem partsTo_mem {r : List Rat} {b : List (List Rat)} {s : List Rat} : ∀ {k}, s ∈ partsTo r b k → ∃ i, i < k ∧ s = (b.getD i default).map (· * r.getD i default) := by
  intro k
  induction k with
  | zero => intro h; cases h
  | succ k ih =>
    intro h
    rcases List.mem_append.1 h with h | h
    · obtain ⟨i, hi, e⟩ := ih h
      exact ⟨i, by omega, e⟩
    · split at h
      · cases h
      · exact ⟨k, by omega, by simpa using h⟩
theorem rowf_addR (c : Nat) (f g : Nat → Rat) : addR (rowf c f) (rowf c g) = rowf c fun j => f j + g j := rowf_zip _
theorem sum_parts {r : List Rat} {b : List (List Rat)} {c : Nat} (hb : ∀ s ∈ b, s.length = c) : ∀ k, k ≤ r.length → k ≤ b.length → sumR (List.replicate c 0) (partsTo r b k) = rowf c fun j => sm k fun i => r.getD i default * (b.getD i default).getD j default := by
  intro k
  induction k with
  | zero =>
    intro _ _
    refine List.ext_getElem (by simp [sumR, partsTo, rowf]) fun i h1 h2 => ?_
    simp [sumR, partsTo, rowf, sm]
  | succ k ih =>
    intro h1 h2
    have e : (b.getD k default) = rowf c fun j => (b.getD k default).getD j default := by
      have := rowf_of (b.getD k default)
      rw [hb _ (getD_mem (by omega))] at this
      exact this.symm
    show sumR _ (partsTo r b k ++ _) = rowf c fun j => sm k _ + r.getD k default * (b.getD k default).getD j default
    split
    · next h =>
      rw [List.append_nil, ih (by omega) (by omega), h]
      exact rowf_congr fun j _ => by grind
    · rw [sumR_snoc, ih (by omega) (by omega)]
      rw [show (b.getD k default).map (· * r.getD k default) = rowf c fun j => (b.getD k default).getD j default * r.getD k default from by
        rw [← rowf_map (f := fun j => (b.getD k default).getD j default) (· * r.getD k default), ← e]]
      rw [rowf_addR]
      exact rowf_congr fun j _ => by grind
theorem s_times {a b : List (List Rat)} (ha : a.length ≤ 1000) (hb : b.length ≤ 1000) (hw : wide a = b.length) (hc : wide b ≤ 200) (ea : ∀ r ∈ a, r.length = wide a) (eb : ∀ r ∈ b, r.length = wide b) {M : Nat} (hM : M ≤ 1000) (la : ∀ r ∈ a, ∀ q ∈ r, Lq q ≤ M) (lb : ∀ r ∈ b, ∀ q ∈ r, Lq q ≤ M) :
    CP (CL F) 67 [eT a, eT b] = some (.tup [eT (mulR a b), eI 0]) := by
  refine CP_X (F := F) (f := 67) rfl rfl ?_
  have h1 := s_Size a
  have h2 := s_Size b
  rw [hw] at h1
  have h3 : a.length ≤ 11728124029610 := by omega
  have z := s_vect_Zero (n := wide b) hc
  generalize hW : wide b = c at *
  refine go3 ?_
  refine X_up a.length (fun i s => ∃ j11 j12 j13 j14 j16 j17 j37 j53 j54 j55 j56 j62 g, s = ⟨[(0, eT a), (1, eT b), (4, .nil), (5, eI 0), (6, eI b.length), (7, eI c), (9, eI b.length), (10, .ref 0 0 1 0 a.length), (11, j11), (12, j12), (13, j13), (14, j14), (16, j16), (17, j17), (30, .bool false), (34, eT a), (35, eI a.length), (36, eI i), (37, j37), (53, j53), (54, j54), (55, j55), (56, j56), (62, j62)], some ⟨0, 1, em eR ((a.take i).map fun r => rowMul r b c) ++ List.replicate (a.length - i) .nil⟩ :: g⟩) ?_ ?_ 0 (Nat.zero_le _) _ ⟨_, _, _, _, _, _, _, _, _, _, _, _, [], rfl⟩
  · rintro i s hi ⟨j11, j12, j13, j14, j16, j17, j37, j53, j54, j55, j56, j62, g, rfl⟩ rec
    have hlt := lt_c hi
    have g1 := em_getN (f := eR) a i hi
    have hr := ea _ (getD_mem hi)
    have lr := la _ (getD_mem hi)
    obtain ⟨m, hm⟩ : ∃ m, a.length - i = m + 1 := ⟨a.length - i - 1, by omega⟩
    have hg := fill_get (f := eR) ((a.take i).map fun r => rowMul r b c) m .nil
    have hs := fill_set (f := eR) ((a.take i).map fun r => rowMul r b c) m .nil (rowMul (a.getD i default) b c)
    have hlen : ((a.take i).map fun r => rowMul r b c).length = i := by simp; omega
    rw [hlen] at hg hs
    rw [← hm, show m = a.length - (i + 1) by omega, show ((a.take i).map fun r => rowMul r b c) ++ [rowMul (a.getD i default) b c] = (a.take (i + 1)).map fun r => rowMul r b c by rw [take_succ_getD a i hi]; simp] at hs
    rw [← hm] at hg
    generalize a.getD i default = r at *
    have hrb : r.length = b.length := by rw [hr, hw]
    have hcap : ¬ ((b.length : Int) + 1 < 0) := by omega
    have hsum := sum_parts (r := r) (b := b) (c := c) eb r.length (Nat.le_refl _) (by omega)
    rw [show (rowf c fun j => sm r.length fun i => r.getD i default * (b.getD i default).getD j default) = rowMul r b c from rfl] at hsum
    have hpl := partsTo_len r b r.length
    have hadd := s_vect_Add (r0 := List.replicate c 0) (rs := partsTo r b r.length) (M := 2 * M + 1) (by simp; omega) (by omega) (fun s hs => by
      obtain ⟨i, hi, rfl⟩ := partsTo_mem hs
      rw [List.length_map, List.length_replicate, eb _ (getD_mem (by omega))]) (fun q hq => by
      rw [List.eq_of_mem_replicate hq]
      have := Lq_zero
      omega) (fun s hs q hq => by
      obtain ⟨i, hi, rfl⟩ := partsTo_mem hs
      obtain ⟨x, hx, rfl⟩ := List.mem_map.1 hq
      have h1 := lb _ (getD_mem (l := b) (i := i) (by omega)) x hx
      have h2 := lr _ (getD_mem (l := r) (i := i) (by omega))
      have := Lq_mul x (r.getD i default)
      omega) (by
      have : (partsTo r b r.length).length + 1 ≤ 1001 := by omega
      have h2 : 2 * M + 1 + 1 ≤ 2002 := by omega
      calc _ ≤ 1001 * 2002 := Nat.mul_le_mul this h2
        _ < _ := by decide)
    rw [hsum] at hadd
    have z1 : [eR (List.replicate c 0)] = em eR [List.replicate c 0] := rfl
    have z2 : (em eR [List.replicate c 0]).all okCell = true := rfl
    have w2 : b.length + 1 ≤ 11728124029610 := by omega
    have w3 : (0 : Int) ≤ ((b.length + 1 : Nat) : Int) := by omega
    have hlim : (partsTo r b r.length).length + 1 ≤ 5864062014805 := by omega
    have w0 : b.length < 9223372036854775807 := by omega
    have w1 : wrap64 ((b.length : Int) + 1) = ((b.length + 1 : Nat) : Int) := i64_nat w0
    clear hm hlen ea la hpl
    refine go3 ?_
    refine X_up b.length (fun k s => ∃ j16 j17 j56 j62 v ps g', ps = partsTo r b k ∧ s = ⟨[(0, eT a), (1, eT b), (4, .nil), (5, eI 0), (6, eI b.length), (7, eI c), (9, eI b.length), (10, .ref 0 0 1 0 a.length), (11, eI i), (12, eR r), (13, .ref (g.length + 1) v 1 0 (ps.length + 1)), (14, eR (List.replicate c 0)), (16, j16), (17, j17), (30, .bool false), (34, eT a), (35, eI a.length), (36, eI i), (37, .bool true), (53, eR r), (54, eI b.length), (55, eI k), (56, j56), (62, j62)], some ⟨0, 1, em eR ((a.take i).map fun r => rowMul r b c) ++ List.replicate (a.length - i) .nil⟩ :: (g ++ (some ⟨v, 1, em eR (List.replicate c 0 :: ps)⟩ :: g'))⟩) ?_ ?_ 0 (Nat.zero_le _) _ ⟨_, _, _, _, 1, [], _, rfl, rfl⟩
    · rintro k s hk ⟨j16, j17, j56, j62, v, ps, g', hps, rfl⟩ rec2
      clear w1
      have hlt2 := lt_c hk
      have q1 := em_getN (f := eQ) r k (by omega)
      have q2 := em_getN (f := eR) b k hk
      have q3 := s_rat_Sign (r.getD k default)
      have lx := lr _ (getD_mem (l := r) (i := k) (by omega))
      have ly := lb _ (getD_mem hk)
      have eb' := eb _ (getD_mem hk)
      have q4 := s_vect_Scale (l := b.getD k default) (c := r.getD k default) (by omega) (M := M) (by omega) ly (by omega)
      have pl : ps.length ≤ k := by rw [hps]; exact partsTo_len r b k
      have hlim2 : ps.length + 1 < 5864062014805 := by omega
      have hw2 := i64_nat (n := k) (by omega)
      clear hadd hsum hlim w2 w3 hcap hg hs
      by_cases hx : r.getD k default = 0
      · have q5 : sgn (r.getD k default).num = 0 := (sgn_num_zero _).2 hx
        have hp : partsTo r b (k + 1) = ps := by
          show partsTo r b k ++ _ = ps
          rw [if_pos hx, List.append_nil, hps]
        generalize r.getD k default = x at *
        generalize b.getD k default = bk at *
        rw [q5] at q3
        clear eb lb lr hx hps
        refine go3 ?_
        exact rec2 _ ⟨_, _, _, _, _, ps, _, hp.symm, rfl⟩
      · have q5 : ¬ (sgn (r.getD k default).num = 0) := fun h => hx ((sgn_num_zero _).1 h)
        have hp : partsTo r b (k + 1) = ps ++ [(b.getD k default).map (· * r.getD k default)] := by
          show partsTo r b k ++ _ = _
          rw [if_neg hx, hps]
        generalize r.getD k default = x at *
        generalize b.getD k default = bk at *
        clear eb lb lr hx hps
        refine go3 ?_
        rw [show ps.length + 1 = (ps ++ [bk.map (· * x)]).length by simp]
        exact rec2 _ ⟨_, _, _, _, _, ps ++ [bk.map (· * x)], _, hp.symm, rfl⟩
    · rintro s ⟨j16, j17, j56, j62, v, ps, g', hps, rfl⟩
      clear w1
      have hlt2 : ¬ ((b.length : Int) < (b.length : Int)) := nlt_c
      rw [hrb, ← hps] at hadd
      have hw := i64_nat (n := i) (by omega)
      clear eb lb lr hps hsum hlim w2 w3 hcap
      refine go3 ?_
      exact rec _ ⟨_, _, _, _, _, _, _, _, _, _, _, _, _, rfl⟩
  · rintro s ⟨j11, j12, j13, j14, j16, j17, j37, j53, j54, j55, j56, j62, g, rfl⟩
    have hlt : ¬ ((a.length : Int) < (a.length : Int)) := nlt_c
    have he : List.replicate (a.length - a.length) AV.nil = [] := by simp
    have ht : List.take a.length (a.map fun r => rowMul r b c) = mulR a b := by unfold mulR; rw [hW]; exact take_len_g _ (by simp)
    clear ea eb la lb
    refine go3 ?_
    trivial
theorem mulR_len (a b : List (List Rat)) : (mulR a b).length = a.length := by simp [mulR]
theorem mulR_row {a b : List (List Rat)} : ∀ r ∈ mulR a b, r.length = wide b := fun r hr => by
  obtain ⟨s, _, rfl⟩ := List.mem_map.1 hr
  exact rowf_len _ _
theorem s_Mul2 {a b : List (List Rat)} (ha : may a = true) (hb : may b = true) (h : wide a = b.length) {M : Nat} (hM : M ≤ 1000) (la : ∀ r ∈ a, ∀ q ∈ r, Lq q ≤ M) (lb : ∀ r ∈ b, ∀ q ∈ r, Lq q ≤ M) : CP (CL F) 23 [.lst (em eT [a, b])] = some (.tup [eT (mulR a b), eI 0]) := by
  refine CP_X (F := F) (f := 23) rfl rfl ?_
  obtain ⟨a1, a2, a3⟩ := may_spec.1 ha
  obtain ⟨b1, b2, b3⟩ := may_spec.1 hb
  have hk := s_checks (l := [a, b]) (by simp) fun t ht => by simp at ht; rcases ht with rfl | rfl <;> omega
  rw [show [a, b].all may = true by simp [ha, hb]] at hk
  have hl : (em eT [a, b]).length = 2 := rfl
  have g0 : (em eT [a, b])[0]? = some (eT a) := rfl
  have hdr : List.drop 1 (em eT [a, b]) = [eT b] := rfl
  have hok : okS 1 (em eT [a, b]) = true := rfl
  have hn : nth [b] (0 : Int) = b := rfl
  have t1 := s_times (by omega) (by omega) h b2 a3 b3 hM la lb
  have o1 := s_own (t := mulR a b) (c := wide b) (by rw [mulR_len]; omega) (by omega) mulR_row
  have hw : wrap64 (0 + 1) = 1 := by rw [show (0 : Int) + 1 = 1 from rfl, w64 (by omega) (by omega)]
  clear h ha hb la lb a1 a2 a3 b1 b2 b3
  refine go3 ?_
  refine X_round ?_
  refine go3 ?_
  refine X_round ?_
  refine go3 ?_
  trivial
end Go.S

end
section
set_option linter.unusedVariables false
set_option linter.unusedSimpArgs false
set_option maxRecDepth 100000
namespace Go.S
open Go Go.AM Go.RowKit Go.K
theorem dotTo_sm (a b : List Rat) : ∀ k, dotTo a b k = sm k fun i => a.getD i default * b.getD i default := by
  intro k
  induction k with
  | zero => rfl
  | succ k ih => show dotTo a b k + _ = _ ; rw [ih]; rfl
theorem colR_getD {t : List (List Rat)} {j k : Nat} (h : k < t.length) : (colR t j).getD k default = (t.getD k default).getD j default := by
  simp [colR, List.getD, List.getElem?_eq_getElem h]
theorem dot_col {r : List Rat} {b : List (List Rat)} {c j : Nat} (h : r.length = b.length) (hj : j < c) : dot r (colR b j) = (rowMul r b c).getD j default := by
  unfold rowMul
  rw [rowf_get hj]
  unfold dot
  rw [dotTo_sm]
  exact sm_congr fun k hk => by rw [colR_getD (by omega)]
theorem mulR_size {a b : List (List Rat)} {M : Nat} (ea : ∀ r ∈ a, r.length = b.length) (eb : ∀ r ∈ b, r.length = wide b) (la : ∀ r ∈ a, ∀ q ∈ r, Lq q ≤ M) (lb : ∀ r ∈ b, ∀ q ∈ r, Lq q ≤ M) : ∀ r ∈ mulR a b, ∀ q ∈ r, Lq q ≤ 1 + b.length * (2 * M + 1) := by
  intro r hr q hq
  obtain ⟨s, hs, rfl⟩ := List.mem_map.1 hr
  obtain ⟨j, hj, rfl⟩ := mem_rowf.1 hq
  have e := dot_col (r := s) (b := b) (c := wide b) (j := j) (ea s hs) hj
  unfold rowMul at e
  rw [rowf_get hj] at e
  rw [← e]
  have h := dotTo_size (a := s) (b := colR b j) (M := M) (la s hs) (fun q hq => by
    obtain ⟨x, hx, rfl⟩ := List.mem_map.1 hq
    exact lb x hx _ (getD_mem (by rw [eb x hx]; exact hj))) s.length (Nat.le_refl _) (by simp [colR, ea s hs])
  rw [ea s hs] at h
  unfold dot
  rw [ea s hs]
  exact h
end Go.S

end
section
set_option linter.unusedVariables false
set_option linter.unusedSimpArgs false
set_option maxRecDepth 100000
namespace Go.S
open Go Go.AM Go.RowKit Go.K
theorem RowsIn.same {b : Nat} {g g' : Heap} {f : Rat → AV} {cs : List AV} {t : List (List Rat)} {ks : List Nat} (h : RowsIn b g f cs t ks) (h2 : ∀ k ∈ ks, g'[k]? = g[k]?) : RowsIn b g' f cs t ks := by
  refine ⟨h.1, h.2.1, fun i hi => ?_⟩
  obtain ⟨v, ys, h3, h4⟩ := h.2.2 i hi
  refine ⟨v, ys, h3, ?_⟩
  rw [h2 _ (getD_mem (by rw [h.2.1]; exact hi))]
  exact h4
theorem RowsIn.upd {b : Nat} {g g' : Heap} {f : Rat → AV} {cs : List AV} {t : List (List Rat)} {ks : List Nat} (h : RowsIn b g f cs t ks) (hN : ks.Nodup) {i : Nat} (hi : i < t.length) {c : AV} {r : List Rat} (h1 : RowAt b g' f c r (ks.getD i default)) (h2 : ∀ k ∈ ks, k ≠ ks.getD i default → g'[k]? = g[k]?) : RowsIn b g' f (cs.set i c) (t.set i r) ks := by
  have l1 := h.1
  have l2 := h.2.1
  refine ⟨by rw [List.length_set, List.length_set]; exact l1, by rw [List.length_set]; exact l2, fun j hj => ?_⟩
  rw [List.length_set] at hj
  by_cases e : i = j
  · subst e
    rw [getD_set_self (by omega), getD_set_self hi]
    exact h1
  · rw [getD_set_other e, getD_set_other e]
    obtain ⟨v, ys, h3, h4⟩ := h.2.2 j hj
    refine ⟨v, ys, h3, ?_⟩
    rw [h2 _ (getD_mem (by omega)) (nodup_getD hN (by omega) (by omega) (Ne.symm e))]
    exact h4
def EvenS (n c most : Nat) (ks ls : List Nat) (p : List (List Rat)) (cs ds : List AV) (g : Heap) : Prop :=
  RowsIn 2 g eQ cs p ks ∧ RowsIn 2 g rQ ds p ls ∧ p.length = n ∧ (0 < n → (p.getD 0 default).length = c) ∧ ∀ r ∈ p, r.length ≤ most ∧ ∀ q ∈ r, Lq q ≤ 1
theorem Lq_small {z : Int} (h : ab z < 4294967296) : Lq (z : Rat) ≤ 1 := by
  have := Lq_int z
  have := L_small h
  omega
set_option maxHeartbeats 4000000
theorem s_Even {t : List (List XQ)} (hx : ∀ l ∈ t, ∀ x ∈ l, x.ok) {most : Nat} (hm : most ≤ 1000000) : ∃ p : List (List Rat), p.length ≤ most ∧ (∀ r ∈ p, r.length = wide p ∧ r.length ≤ most ∧ ∀ q ∈ r, Lq q ≤ 1) ∧ CP (CL F) 20 [.lst (em eXL t), eI most] = some (.tup [eT p, rT p]) := by
  obtain ⟨p0, f1, f2, f3⟩ := s_Few12_raw hx hm
  obtain ⟨v, w, cs0, ds0, ks, ls, g0, f4, R1, R2, hN⟩ := f3 []
  have f5 : CL F 11 [.lst (em eXL t), eI most] [] = some (.tup [.ref 0 v 1 0 p0.length, .ref 1 w 1 0 p0.length], some ⟨v, 1, cs0⟩ :: some ⟨w, 1, ds0⟩ :: g0) := f4
  have hN1 : ks.Nodup := (List.nodup_append.1 hN).1
  have hN2 : ls.Nodup := (List.nodup_append.1 hN).2.1
  have hN3 : ∀ a ∈ ks, ∀ b ∈ ls, a ≠ b := (List.nodup_append.1 hN).2.2
  have hpl : p0.length ≤ most := by omega
  suffices H : ∃ x, CL F 20 [.lst (em eXL t), eI most] [] = some x ∧ ∃ p cs ds g, x = (.tup [.ref 0 v 1 0 p0.length, .ref 1 w 1 0 p0.length], some ⟨v, 1, cs⟩ :: some ⟨w, 1, ds⟩ :: g) ∧ EvenS p0.length (p0.getD 0 default).length most ks ls p cs ds g ∧ ∀ j, j < p0.length → (p.getD j default).length = (p0.getD 0 default).length by
    obtain ⟨x, h1, p, cs, ds, g, rfl, ⟨S1, S2, S3, S4, S5⟩, S6⟩ := H
    refine ⟨p, by omega, fun r hr => ⟨?_, S5 r hr⟩, CP_raw h1 ?_⟩
    · obtain ⟨j, hj, rfl⟩ := List.getElem_of_mem hr
      have e1 := S6 j (by omega)
      rw [List.getD, List.getElem?_eq_getElem hj] at e1
      have e2 := S4 (by omega)
      unfold wide
      exact e1.trans e2.symm
    · have := fz_rows2 (h := []) (v := v) (w := w) S1 S2
      rw [S3] at this
      exact this
  refine CL_XE (F := F) (f := 20) rfl rfl ?_
  have st0 : EvenS p0.length (p0.getD 0 default).length most ks ls p0 cs0 ds0 g0 := ⟨R1, R2, rfl, fun _ => rfl, f2⟩
  clear f3 f4 hN f2 R1 R2 hx f1
  refine go3 ?_
  clear f5
  generalize (p0.getD 0 default).length = c at *
  generalize p0.length = n at *
  refine X_up n (fun i s => ∃ j18 j30 p cs ds g, (EvenS n c most ks ls p cs ds g ∧ ∀ j, j < i → (p.getD j default).length = c) ∧ s = ⟨[(0, .lst (em eXL t)), (1, eI most), (4, .nil), (5, .nil), (6, .ref 0 v 1 0 n), (7, .ref 1 w 1 0 n), (8, eI i), (18, j18), (30, j30)], some ⟨v, 1, cs⟩ :: some ⟨w, 1, ds⟩ :: g⟩) ?_ ?_ 0 (Nat.zero_le _) _ ⟨_, _, _, _, _, _, ⟨st0, fun j hj => by omega⟩, rfl⟩
  · rintro i s hi ⟨j18, j30, p, cs, ds, g, ⟨st, hall⟩, rfl⟩ rec
    have hlt := lt_c hi
    have hcm : c ≤ most := by
      obtain ⟨_, _, S3, S4, S5⟩ := st
      rw [← S4 (by omega)]
      exact (S5 _ (getD_mem (by omega))).1
    refine go3 ?_
    refine X_upto (c - (p.getD i default).length) (fun k s => ∃ j30 p' cs ds g, (EvenS n c most ks ls p' cs ds g ∧ (∀ j, j < i → (p'.getD j default).length = c) ∧ (p'.getD i default).length = (p.getD i default).length + k) ∧ s = ⟨[(0, .lst (em eXL t)), (1, eI most), (4, .nil), (5, .nil), (6, .ref 0 v 1 0 n), (7, .ref 1 w 1 0 n), (8, eI i), (18, .bool true), (30, j30)], some ⟨v, 1, cs⟩ :: some ⟨w, 1, ds⟩ :: g⟩) ?_ 0 (Nat.zero_le _) _ ⟨_, _, _, _, _, ⟨st, hall, rfl⟩, rfl⟩
    clear st hall cs ds g
    rintro k s hk ⟨j30, p', cs, ds, g, ⟨st, hall, hlen⟩, rfl⟩ rec2
    generalize (p.getD i default).length = L0 at *
    obtain ⟨S1, S2, S3, S4, S5⟩ := st
    obtain ⟨v1, ys1, a1, a2⟩ := S1.2.2 i (by omega)
    obtain ⟨v2, ys2, b1, b2⟩ := S2.2.2 i (by omega)
    obtain ⟨v3, ys3, c1, c2⟩ := S1.2.2 0 (by omega)
    have hc0 := S4 (by omega)
    rw [hc0] at c1
    have lcs : cs.length = n := by rw [S1.1, S3]
    have lds : ds.length = n := by rw [S2.1, S3]
    have x1 : cs[i]? = some (.ref (ks.getD i default + 1 + 1) v1 3 0 (p'.getD i default).length) := by
      rw [List.getElem?_eq_getElem (by omega)]
      rw [List.getD, List.getElem?_eq_getElem (by omega)] at a1
      rw [show cs[i] = _ from a1, Nat.add_comm 2]
    have x2 : ds[i]? = some (.ref (ls.getD i default + 1 + 1) v2 3 0 (p'.getD i default).length) := by
      rw [List.getElem?_eq_getElem (by omega)]
      rw [List.getD, List.getElem?_eq_getElem (by omega)] at b1
      rw [show ds[i] = _ from b1, Nat.add_comm 2]
    have x3 : cs[0]? = some (.ref (ks.getD 0 default + 1 + 1) v3 3 0 c) := by
      rw [List.getElem?_eq_getElem (by omega)]
      rw [List.getD, List.getElem?_eq_getElem (by omega)] at c1
      rw [show cs[0] = _ from c1, Nat.add_comm 2]
    have hlt0 : ((0 : Int) < (n : Int)) := by omega
    have hkl : ks.getD i default ≠ ls.getD i default := hN3 _ (getD_mem (by rw [S1.2.1]; omega)) _ (getD_mem (by rw [S2.2.1]; omega))
    have hk1 : ks.getD i default < g.length := (List.getElem?_eq_some_iff.1 a2).1
    have hl1 : ls.getD i default < g.length := (List.getElem?_eq_some_iff.1 b2).1
    have hrb := (S5 _ (getD_mem (l := p') (i := i) (by omega))).1
    by_cases hdone : (p'.getD i default).length < c
    · have d1 : (((p'.getD i default).length : Int) < (c : Int)) := by omega
      generalize hr : p'.getD i default = r at *
      have y1 : ∀ l : Heap, (g ++ l)[ks.getD i default]? = some (some ⟨v1, 3, em eQ r ++ ys1⟩) := fun l => by rw [List.getElem?_append_left hk1]; exact a2
      have y2 : ∀ (l : Heap) y, (g.set (ks.getD i default) y ++ l)[ls.getD i default]? = some (some ⟨v2, 3, em rQ r ++ ys2⟩) := fun l y => by
        rw [List.getElem?_append_left (by rw [List.length_set]; exact hl1), List.getElem?_set_ne hkl]; exact b2
      have y3 : ∀ (l : Heap) y, (g ++ l).set (ks.getD i default) y = g.set (ks.getD i default) y ++ l := fun l y => List.set_append_left _ _ hk1
      have y4 : ∀ (l : Heap) y z, (g.set (ks.getD i default) y ++ l).set (ls.getD i default) z = (g.set (ks.getD i default) y).set (ls.getD i default) z ++ l := fun l y z => List.set_append_left _ _ (by rw [List.length_set]; exact hl1)
      have y5 : ∀ (l : Heap) y m, (g.set (ks.getD i default) y ++ l)[g.length + m]? = l[m]? := fun l y m => by
        rw [List.getElem?_append_right (by rw [List.length_set]; omega), List.length_set]
        congr 1; omega
      have t1 : sub (em eQ r ++ ys1) 0 r.length = em eQ r := by
        have := em_len (f := eQ) r
        unfold sub
        rw [List.drop_zero]
        rw [List.take_append_of_le_length (by omega), ← this, List.take_length]
      have t2 : sub (em rQ r ++ ys2) 0 r.length = em rQ r := by
        have := em_len (f := rQ) r
        unfold sub
        rw [List.drop_zero]
        rw [List.take_append_of_le_length (by omega), ← this, List.take_length]
      have q1 := s_rat_Of (a := (r.length + i : Nat)) (by omega) (by omega)
      have q2 := s_r08_Int (n := (r.length + i : Nat)) (by omega) (by omega)
      have q3 : Lq (((r.length + i : Nat) : Int) : Rat) ≤ 1 := Lq_small (by unfold ab; omega)
      have hlim : r.length < 2513169434916 := by omega
      have hmem : ∀ r' ∈ p'.set i (r ++ [(((r.length + i : Nat) : Int) : Rat)]), r'.length ≤ most ∧ ∀ q ∈ r', Lq q ≤ 1 := fun r' hr' => by
        rcases List.mem_or_eq_of_mem_set hr' with h | h
        · exact S5 r' h
        · subst h
          refine ⟨by simp; omega, fun q hq => ?_⟩
          rcases List.mem_append.1 hq with h | h
          · rw [← hr] at h
            exact (S5 _ (getD_mem (by omega))).2 q h
          · rw [List.mem_singleton] at h; rw [h]; exact q3
      have hi0 : i ≠ 0 := fun h => by subst h; rw [hr] at hc0; omega
      have hwA : -9223372036854775808 ≤ (r.length : Int) + (i : Int) := by omega
      have hwB : (r.length : Int) + (i : Int) ≤ 9223372036854775807 := by omega
      have hwC : (r.length : Int) + (i : Int) = ((r.length + i : Nat) : Int) := by omega
      generalize (((r.length + i : Nat) : Int) : Rat) = X at *
      have hlen' : (r.length = L0 + k) = True := eq_true hlen
      clear hlen
      have z1 : [eQ X] = em eQ [X] := rfl
      have z2 : [rQ X] = em rQ [X] := rfl
      have hk0 : k < c - L0 := by have h := of_eq_true hlen'; omega
      have e1 : ∀ (Y Z : Option Blk) (T : Heap), ((g.set (ks.getD i default) Y).set (ls.getD i default) Z ++ T)[ks.getD i default]? = some Y := fun Y Z T => by
        rw [List.getElem?_append_left (by rw [List.length_set, List.length_set]; exact hk1), List.getElem?_set_ne (Ne.symm hkl), List.getElem?_set_self hk1]
      have e2 : ∀ (Y Z : Option Blk) (T : Heap), ((g.set (ks.getD i default) Y).set (ls.getD i default) Z ++ T)[ls.getD i default]? = some Z := fun Y Z T => by
        rw [List.getElem?_append_left (by rw [List.length_set, List.length_set]; exact hl1), List.getElem?_set_self (by rw [List.length_set]; exact hl1)]
      have U1 := fun (Y Z : Option Blk) (T : Heap) (cc : AV) (rr : List Rat) h1 => S1.upd (g' := (g.set (ks.getD i default) Y).set (ls.getD i default) Z ++ T) hN1 (i := i) (by omega) (c := cc) (r := rr) h1 fun k' hk' hne => by
        have := S1.lt k' hk'
        rw [List.getElem?_append_left (by rw [List.length_set, List.length_set]; exact this), List.getElem?_set_ne (hN3 _ hk' _ (getD_mem (by rw [S2.2.1]; omega))).symm, List.getElem?_set_ne (Ne.symm hne)]
      have U2 := fun (Y Z : Option Blk) (T : Heap) (cc : AV) (rr : List Rat) h1 => S2.upd (g' := (g.set (ks.getD i default) Y).set (ls.getD i default) Z ++ T) hN2 (i := i) (by omega) (c := cc) (r := rr) h1 fun k' hk' hne => by
        have := S2.lt k' hk'
        rw [List.getElem?_append_left (by rw [List.length_set, List.length_set]; exact this), List.getElem?_set_ne (Ne.symm hne), List.getElem?_set_ne (hN3 _ (getD_mem (by rw [S1.2.1]; omega)) _ hk')]
      have hpl2 : p'.length = n := S3
      have hS4 : 0 < n → ((p'.set i (r ++ [X])).getD 0 default).length = c := fun _ => by rw [getD_set_other hi0]; exact hc0
      have hall2 : ∀ j, j < i → ((p'.set i (r ++ [X])).getD j default).length = c := fun j hj => by rw [getD_set_other (by omega)]; exact hall j hj
      have hlen2 : ((p'.set i (r ++ [X])).getD i default).length = L0 + (k + 1) := by
        rw [getD_set_self (by omega), List.length_append, List.length_singleton, of_eq_true hlen']; omega
      have hw0 : wrap64 ((r.length : Int) + (i : Int)) = ((r.length + i : Nat) : Int) := by rw [w64 hwA hwB, hwC]
      clear S1 S2 S3 S4 S5 rec hall hlen' hN1 hN2 hN3 a1 a2 b1 b2 c1 c2 st0 hr hc0 hrb hwA hwB hwC
      refine go3 ?_
      exact rec2 _ hk0 ⟨_, p'.set i (r ++ [X]), _, _, _, ⟨⟨U1 _ _ _ _ (r ++ [X]) ⟨v1 + 1, [], by rw [List.length_append, List.length_singleton, Nat.add_comm 2], by rw [e1, List.append_nil]⟩, U2 _ _ _ _ (r ++ [X]) ⟨v2 + 1, [], by rw [List.length_append, List.length_singleton, Nat.add_comm 2], by rw [e2, List.append_nil]⟩, by rw [List.length_set]; exact hpl2, hS4, hmem⟩, hall2, hlen2⟩, rfl⟩
    · have d1 : ¬ (((p'.getD i default).length : Int) < (c : Int)) := by omega
      have d2 : c ≤ (p'.getD i default).length := by omega
      have d3 : (c : Int) ≤ ((p'.getD i default).length : Int) := by omega
      have hi6 : i < 9223372036854775807 := by omega
      generalize hr : p'.getD i default = r at *
      have hlt2 : (r.take c).length = c := by rw [List.length_take]; omega
      have U1 := fun (cc : AV) (rr : List Rat) h1 => S1.upd (g' := g) hN1 (i := i) (by omega) (c := cc) (r := rr) h1 fun k' _ _ => rfl
      have U2 := fun (cc : AV) (rr : List Rat) h1 => S2.upd (g' := g) hN2 (i := i) (by omega) (c := cc) (r := rr) h1 fun k' _ _ => rfl
      have hpl2 : p'.length = n := S3
      have hS4 : 0 < n → ((p'.set i (r.take c)).getD 0 default).length = c := fun h => by
        by_cases e : i = 0
        · subst e; rw [getD_set_self (by omega)]; exact hlt2
        · rw [getD_set_other e]; exact hc0
      have hall2 : ∀ j, j < i + 1 → ((p'.set i (r.take c)).getD j default).length = c := fun j hj => by
        by_cases e : i = j
        · subst e; rw [getD_set_self (by omega)]; exact hlt2
        · rw [getD_set_other e]; exact hall j (by omega)
      have hmem : ∀ r' ∈ p'.set i (r.take c), r'.length ≤ most ∧ ∀ q ∈ r', Lq q ≤ 1 := fun r' hr' => by
        rcases List.mem_or_eq_of_mem_set hr' with h | h
        · exact S5 r' h
        · subst h
          refine ⟨by omega, fun q hq => ?_⟩
          have := List.mem_of_mem_take hq
          rw [← hr] at this
          exact (S5 _ (getD_mem (by omega))).2 q this
      have a2' : g[ks.getD i default]? = some (some ⟨v1, 3, em eQ (r.take c) ++ (em eQ (r.drop c) ++ ys1)⟩) := by
        rw [a2, ← List.append_assoc, em_app, List.take_append_drop]
      have b2' : g[ls.getD i default]? = some (some ⟨v2, 3, em rQ (r.take c) ++ (em rQ (r.drop c) ++ ys2)⟩) := by
        rw [b2, ← List.append_assoc, em_app, List.take_append_drop]
      have hw := i64_nat hi6
      have e0 : (cs.set i (.ref (ks.getD i default + 1 + 1) v1 3 0 c))[0]? = some (.ref (ks.getD 0 default + 1 + 1) v3 3 0 c) ∨ True := .inr trivial
      clear S1 S2 S3 S4 S5 rec2 hall hlen hN1 hN2 hN3 a1 a2 b1 b2 c1 c2 st0 hr hc0 hrb hdone e0
      refine go3 ?_
      exact rec _ ⟨_, _, p'.set i (r.take c), _, _, _, ⟨⟨U1 _ (r.take c) ⟨v1, _, by rw [hlt2, Nat.add_comm 2], a2'⟩, U2 _ (r.take c) ⟨v2, _, by rw [hlt2, Nat.add_comm 2], b2'⟩, by rw [List.length_set]; exact hpl2, hS4, hmem⟩, hall2⟩, rfl⟩
  · rintro s ⟨j18, j30, p, cs, ds, g, ⟨st, hall⟩, rfl⟩
    have hlt : ¬ ((n : Int) < (n : Int)) := nlt_c
    clear hN1 hN2 hN3 st0
    refine go3 ?_
    exact ⟨_, rfl, _, _, _, _, rfl, st, hall⟩
end Go.S

end
section
set_option linter.unusedVariables false
set_option linter.unusedSimpArgs false
set_option maxRecDepth 100000
namespace Go.S
open Go Go.AM Go.RowKit Go.K
theorem tab_wide' {n c : Nat} {A : Mt} (h : 0 < n) : wide (tab n c A) = c := by
  unfold wide
  rw [show (tab n c A).getD 0 [] = rowf c (A 0) from tab_get h, rowf_len]
theorem tab_wide0 {n c : Nat} {A : Mt} (h : n = 0 → c = 0) : wide (tab n c A) = c := by
  rcases Nat.eq_zero_or_pos n with e | e
  · subst e; rw [h rfl]; rfl
  · exact tab_wide' e
theorem mul_tab {n m k : Nat} {A B : Mt} (h : m = 0 → k = 0) : mulR (tab n m A) (tab m k B) = tab n k (mm m A B) := by
  unfold mulR
  rw [tab_wide0 h]
  unfold tab
  rw [List.map_map]
  refine List.map_congr_left fun i hi => ?_
  show rowMul (rowf m (A i)) (tab m k B) k = rowf k (mm m A B i)
  unfold rowMul
  rw [rowf_len]
  refine rowf_congr fun j hj => sm_congr fun x hx => ?_
  rw [rowf_get hx, tab_get hx, rowf_get hj]
theorem tab_may' {n c : Nat} {A : Mt} (hn : n ≤ 200) (hc : c ≤ 200) (h : n = 0 → c = 0) : may (tab n c A) = true := by
  rw [may_spec, tab_len, tab_wide0 h]
  exact ⟨hn, hc, tab_row⟩
def Sz (M : Nat) (t : List (List Rat)) : Prop := ∀ r ∈ t, ∀ q ∈ r, Lq q ≤ M
theorem s_Mul2' {n m k : Nat} {A B : Mt} (hn : n ≤ 200) (hm : m ≤ 200) (hk : k ≤ 200) (h1 : n = 0 → m = 0) (h2 : m = 0 → k = 0) {M : Nat} (hM : M ≤ 1000) (la : Sz M (tab n m A)) (lb : Sz M (tab m k B)) :
    CP (CL F) 23 [.lst (em eT [tab n m A, tab m k B])] = some (.tup [eT (tab n k (mm m A B)), eI 0]) ∧ Sz (1 + m * (2 * M + 1)) (tab n k (mm m A B)) := by
  have e := mul_tab (n := n) (A := A) (B := B) h2
  have s := s_Mul2 (tab_may' (A := A) hn hm h1) (tab_may' (A := B) hm hk h2) (by rw [tab_wide0 h1, tab_len]) hM la lb
  have z := mulR_size (a := tab n m A) (b := tab m k B) (M := M) (fun r hr => by rw [tab_row r hr, tab_len]) (fun r hr => by rw [tab_row r hr, tab_wide0 h2]) la lb
  rw [e] at s z
  rw [tab_len] at z
  exact ⟨s, z⟩
end Go.S

end
section
set_option linter.unusedVariables false
set_option linter.unusedSimpArgs false
namespace Go.S
theorem piv_ge {n j : Nat} {S : Mt} {piv : List Nat} (H : RR n j S piv) : ∀ i, i < piv.length → i ≤ piv.getD i default := by
  intro i
  induction i with
  | zero => intro _; exact Nat.zero_le _
  | succ i ih =>
    intro h
    have := ih (by omega)
    have := H.mono i (i + 1) (by omega) h
    omega
theorem piv_le {n : Nat} {S : Mt} {piv : List Nat} (H : RR n n S piv) (hl : piv.length = n) : ∀ d i, i + d + 1 = n → piv.getD i default ≤ i := by
  intro d
  induction d with
  | zero =>
    intro i h
    have := H.lt i (by omega)
    omega
  | succ d ih =>
    intro i h
    have h1 := ih (i + 1) (by omega)
    have h2 := H.mono i (i + 1) (by omega) (by omega)
    omega
theorem full_id {n : Nat} {S : Mt} {piv : List Nat} (H : RR n n S piv) (hl : piv.length = n) : ∀ i c, i < n → c < n → S i c = if i = c then 1 else 0 := by
  have hp : ∀ i, i < n → piv.getD i default = i := fun i hi => by
    have h1 := piv_ge H i (by omega)
    have h2 := piv_le H hl (n - 1 - i) i (by omega)
    omega
  intro i c hi hc
  have e := hp c hc
  by_cases h : i = c
  · subst h
    have := H.one i (by omega)
    rw [e] at this
    rw [if_pos rfl, this]
  · have := H.col c (by omega) i hi h
    rw [e] at this
    rw [if_neg h, this]
def gdet (n : Nat) (A : Mt) : Rat := if (grun n A n).2.1.length < n then 0 else (grun n A n).2.2
theorem det_mm {n : Nat} {A B : Mt} : det n (mm n A B) = gdet n A * det n B := by
  have H := grun_RR n A n
  have R := grun_Rop n A n
  unfold gdet
  generalize (grun n A n).2.2 = d at *
  generalize (grun n A n).1 = S at *
  generalize (grun n A n).2.1 = piv at *
  have L : LinR (fun (f : Nat → Rat) (j : Nat) => sm n fun k => f k * B k j) := ⟨fun f g k c => by
    show sm n (fun x => (f x + k * g x) * B x c) = sm n (fun x => f x * B x c) + k * sm n (fun x => g x * B x c)
    rw [← sm_mul, ← sm_add]
    exact sm_congr fun x _ => by grind⟩
  have h1 : det n (mm n A B) = d * det n (mm n S B) := R.det L
  rw [h1]
  by_cases hl : piv.length < n
  · rw [if_pos hl]
    have : det n (mm n S B) = 0 := det_row0 (r := piv.length) hl fun c hc => sm_zero' fun k hk => by
      rw [H.rest piv.length (Nat.le_refl _) hl k hk]; grind
    rw [this]; grind
  · rw [if_neg hl]
    have hl2 : piv.length = n := by have := H.le; omega
    have hS := full_id H hl2
    have : det n (mm n S B) = det n B := det_congr fun i c hi hc => by
      unfold mm
      rw [sm_one hi fun k hk hne => by rw [hS i k hi hk, if_neg (Ne.symm hne)]; grind, hS i i hi hi, if_pos rfl]; grind
    rw [this]
theorem det_gdet (n : Nat) (A : Mt) : det n A = gdet n A := by
  have h := det_mm (n := n) (A := A) (B := idm)
  have h1 : det n (mm n A idm) = det n A := det_congr fun i c hi hc => mm_one_r i hc
  have h2 : det n idm = 1 := det_id n fun i c hi hc => rfl
  rw [h1, h2] at h
  rw [h]; grind
end Go.S

end
section
set_option linter.unusedVariables false
set_option linter.unusedSimpArgs false
namespace Go.S
def Agree (c : Nat) (A B : Mt) : Prop := ∀ r x, x < c → B r x = A r x
theorem fnd_agree {n c j a : Nat} {A B : Mt} (h : Agree c A B) (hj : j < c) (ha : a ≤ n) : fnd n B j a = fnd n A j a := by
  obtain ⟨k1, k2, k3, k4⟩ := fnd_spec (n := n) (A := A) (j := j) ha
  exact fnd_uniq k1 k2 (fun i h1 h2 => by rw [h i j hj]; exact k3 i h1 h2) fun hk => by rw [h _ j hj]; exact k4 hk
theorem gstep_agree {n c j : Nat} {A B : Mt} {piv : List Nat} {d : Rat} (h : Agree c A B) (hj : j < c) (ha : piv.length ≤ n) : Agree c (gstep n j (A, piv, d)).1 (gstep n j (B, piv, d)).1 ∧ (gstep n j (B, piv, d)).2 = (gstep n j (A, piv, d)).2 := by
  unfold gstep
  simp only
  rw [fnd_agree h hj ha]
  generalize fnd n A j piv.length = k at *
  by_cases hk : k = n
  · rw [if_pos hk, if_pos hk]; exact ⟨h, rfl⟩
  · rw [if_neg hk, if_neg hk]
    refine ⟨fun r x hx => ?_, ?_⟩
    · have hp : ∀ r x, x < c → pivR B piv.length k j r x = pivR A piv.length k j r x := fun r x hx => by
        unfold pivR setr swp
        by_cases e : r = piv.length
        · rw [if_pos e, if_pos e]
          show (B k j)⁻¹ * B k x = (A k j)⁻¹ * A k x
          rw [h k j hj, h k x hx]
        · rw [if_neg e, if_neg e, if_neg e, h _ x hx]
      simp only
      unfold elimTo
      rw [hp r x hx, hp r j hj, hp _ x hx]
    · simp only
      rw [h k j hj]
theorem grun_agree {n c : Nat} {A B : Mt} (h : Agree c A B) : ∀ j, j ≤ c → Agree c (grun n A j).1 (grun n B j).1 ∧ (grun n B j).2 = (grun n A j).2 := by
  intro j
  induction j with
  | zero => intro _; exact ⟨h, rfl⟩
  | succ j ih =>
    intro hj
    obtain ⟨h1, h2⟩ := ih (by omega)
    have hl := (grun_RR n A j).le
    show Agree c (gstep n j (grun n A j)).1 (gstep n j (grun n B j)).1 ∧ (gstep n j (grun n B j)).2 = (gstep n j (grun n A j)).2
    generalize grun n A j = s at *
    generalize grun n B j = s' at *
    obtain ⟨A', p, d⟩ := s
    obtain ⟨B', p', d'⟩ := s'
    simp only [Prod.mk.injEq] at h2
    obtain ⟨rfl, rfl⟩ := h2
    exact gstep_agree h1 (by omega) hl
def bes (n : Nat) (A : Mt) : Mt := fun i c => if c < n then A i c else idm i (c - n)
theorem bes_agree (n : Nat) (A : Mt) : Agree n A (bes n A) := fun r x hx => by unfold bes; rw [if_pos hx]
def invM (n : Nat) (A : Mt) : Mt := fun i c => (grun n (bes n A) n).1 i (n + c)
theorem inv_full {n : Nat} {A : Mt} (hf : (grun n A n).2.1.length = n) : ∀ i c, i < n → c < n → (grun n (bes n A) n).1 i c = if i = c then 1 else 0 := by
  have h := (grun_agree (n := n) (bes_agree n A) n (Nat.le_refl _)).2
  refine full_id (grun_RR n (bes n A) n) ?_
  rw [h]; exact hf
theorem inv_left {n : Nat} {A : Mt} (hf : (grun n A n).2.1.length = n) : ∀ i c, i < n → c < n → mm n (invM n A) A i c = idm i c := by
  have hI := inv_full hf
  intro i c hi hc
  have S : Sub (fun f => f c = sm n fun k => f (n + k) * A k c) := ⟨fun f g k h1 h2 => by
      rw [sm_congr (g := fun x => f (n + x) * A x c + k * (g (n + x) * A x c)) fun x _ => by grind, sm_add, sm_mul, ← h1, ← h2], fun f k h => by
      rw [sm_congr (g := fun x => k * (f (n + x) * A x c)) fun x _ => by grind, sm_mul, ← h]⟩
  have h0 : ∀ i, i < n → bes n A i c = sm n fun k => bes n A i (n + k) * A k c := fun i hi => by
    rw [sm_one hi fun k hk hne => by
      unfold bes idm
      rw [if_neg (by omega), if_neg (by omega)]; grind]
    unfold bes idm
    rw [if_pos hc, if_neg (by omega), if_pos (by omega)]; grind
  have h1 := ((grun_Rop n (bes n A) n).sub S).1 h0 i hi
  rw [hI i c hi hc] at h1
  exact h1.symm
theorem gdet_zero {n : Nat} {A : Mt} : gdet n A = 0 ↔ (grun n A n).2.1.length < n := by
  unfold gdet
  constructor
  · intro h
    by_cases hl : (grun n A n).2.1.length < n
    · exact hl
    · rw [if_neg hl] at h
      have hl2 : (grun n A n).2.1.length = n := by have := (grun_RR n A n).le; omega
      have h1 := det_mm (n := n) (A := invM n A) (B := A)
      have h2 : det n (mm n (invM n A) A) = 1 := det_id n fun i c hi hc => inv_left hl2 i c hi hc
      have h3 : det n A = 0 := by rw [det_gdet]; unfold gdet; rw [if_neg hl]; exact h
      rw [h2, h3] at h1
      have h4 : (1 : Rat) = 0 := by rw [h1]; grind
      exact absurd h4 (by decide)
  · intro h; rw [if_pos h]
end Go.S

end
section
set_option linter.unusedVariables false
set_option linter.unusedSimpArgs false
set_option maxRecDepth 100000
namespace Go.S
open Go Go.AM Go.RowKit Go.K
theorem s_Grow {n : Nat} (hn : 0 < n) (hn2 : n ≤ 1000000) (h : Heap) : CL F 122 [.nil, eI n] h = some (.ref h.length 0 3 0 0, h ++ [some ⟨0, 3, List.replicate n zQ⟩]) := by
  refine CL_X (F := F) (f := 122) rfl rfl ?_
  have h1 : ¬ ((n : Int) < 0) := by omega
  have h2 : ((0 : Int) < (n : Int)) := by omega
  have h3 : (n : Int) ≤ 2513169434916 := by omega
  have h4 : n ≤ 2513169434916 := by omega
  have h5 : (List.replicate n zQ).isEmpty = false := by cases n with | zero => omega | succ n => rfl
  have h6 : okS 3 (List.replicate n zQ) = true := by
    unfold okS
    rw [List.all_eq_true]
    intro x hx
    rw [List.eq_of_mem_replicate hx]; rfl
  have h7 : (List.replicate n zQ).length = n := by simp
  have w1 : wrap64 (-0) = 0 := by rw [Int.neg_zero, w64 (by omega) (by omega)]
  have w2 : wrap64 ((n : Int) - 0) = n := by rw [Int.sub_zero, w64 (by omega) (by omega)]
  refine go3 ?_
  trivial
theorem s_Grow0 (h : Heap) : CL F 122 [.nil, eI 0] h = some (.nil, h) := by
  refine CL_X (F := F) (f := 122) rfl rfl ?_
  have w1 : wrap64 (-0) = 0 := by rw [Int.neg_zero, w64 (by omega) (by omega)]
  have w2 : wrap64 (0 - 0) = 0 := by rw [show (0 : Int) - 0 = 0 from rfl, w64 (by omega) (by omega)]
  refine go3 ?_
  trivial
theorem s_Concat0 : CP (CL F) 82 [.lst [.lst [], .lst []]] = some (.lst []) := by
  refine CP_X (F := F) (f := 82) rfl rfl ?_
  have gr := s_Grow0 []
  have w0 : wrap64 (0 + 0) = 0 := by rw [show (0 : Int) + 0 = 0 from rfl, w64 (by omega) (by omega)]
  have w1 : wrap64 (0 + 1) = 1 := by rw [show (0 : Int) + 1 = 1 from rfl, w64 (by omega) (by omega)]
  have w2 : wrap64 (1 + 1) = 2 := by rw [show (1 : Int) + 1 = 2 from rfl, w64 (by omega) (by omega)]
  refine go3 ?_
  refine X_round ?_
  refine go3 ?_
  refine X_round ?_
  refine go3 ?_
  refine X_round ?_
  refine go3 ?_
  refine X_round ?_
  refine go3 ?_
  refine X_round ?_
  refine go3 ?_
  refine X_round ?_
  refine go3 ?_
  trivial
theorem s_Concat {a b : List Rat} (ha : a.length ≤ 1000) (hb : b.length ≤ 1000) : CP (CL F) 82 [.lst (em eR [a, b])] = some (eR (a ++ b)) := by
  have g0 : (em eR [a, b])[0]? = some (eR a) := rfl
  have g1 : (em eR [a, b])[1]? = some (eR b) := rfl
  have hl : (em eR [a, b]).length = 2 := rfl
  have c1 : ¬ ((a.length : Int) < 0) := by omega
  have c2 : ¬ (((a.length + b.length : Nat) : Int) < 0) := by omega
  have l1 : a.length ≤ 2513169434916 := by omega
  have l2 : a.length + b.length ≤ 2513169434916 := by omega
  have l3 : b.length ≤ 2513169434916 := by omega
  have ht : List.take (a.length + b.length) (a ++ b) = a ++ b := take_len_g _ (by simp)
  have ht1 : List.take a.length a = a := List.take_length
  have w1 : wrap64 (0 + 1) = 1 := by rw [show (0 : Int) + 1 = 1 from rfl, w64 (by omega) (by omega)]
  have w2 : wrap64 (1 + 1) = 2 := by rw [show (1 : Int) + 1 = 2 from rfl, w64 (by omega) (by omega)]
  have w3 : wrap64 (0 + (a.length : Int)) = a.length := by rw [Int.zero_add, w64 (by omega) (by omega)]
  have w4 : wrap64 ((a.length : Int) + (b.length : Int)) = ((a.length + b.length : Nat) : Int) := by rw [w64 (by omega) (by omega)]; omega
  rcases Nat.eq_zero_or_pos (a.length + b.length) with e | e
  · have ea : a = [] := List.eq_nil_of_length_eq_zero (by clear w1 w2 w3 w4; omega)
    have eb : b = [] := List.eq_nil_of_length_eq_zero (by clear w1 w2 w3 w4; omega)
    subst ea
    subst eb
    exact s_Concat0
  · refine CP_X (F := F) (f := 82) rfl rfl ?_
    have gr := s_Grow e (by clear w1 w2 w3 w4; omega) []
    have hne : a = [] → (em eQ b).isEmpty = false := fun h => by
      subst h
      cases b with
      | nil => simp at e
      | cons x b => rfl
    have z0 : ∀ xs : List AV, sub xs 0 0 = [] := fun xs => by simp [sub]
    have z1 := sub_full (f := eQ) a
    clear e
    refine go3 ?_
    refine X_round ?_
    refine go3 ?_
    refine X_round ?_
    refine go3 ?_
    refine X_round ?_
    refine go3 ?_
    refine X_round ?_
    refine go3 ?_
    refine X_round ?_
    refine go3 ?_
    refine X_round ?_
    refine go3 ?_
    trivial
end Go.S

end
section
set_option linter.unusedVariables false
set_option linter.unusedSimpArgs false
set_option maxRecDepth 100000
namespace Go.S
open Go Go.AM Go.RowKit Go.K
def PVI (g0 g : Heap) (piv : List Nat) (pr : AV) : Prop := (piv = [] ∧ pr = .nil) ∨ ∃ vp g1 g2, g = g1 ++ some ⟨vp, 1, ui (ivl piv)⟩ :: g2 ∧ pr = .ref (g0.length + (g1.length + 1) + 1) vp 1 0 piv.length
theorem PVI.len {g0 g : Heap} {piv : List Nat} {pr : AV} (h : PVI g0 g piv pr) : lenA false pr = some (eI piv.length) := by
  rcases h with ⟨rfl, rfl⟩ | ⟨vp, g1, g2, _, rfl⟩ <;> rfl
end Go.S

end
section
set_option linter.unusedVariables false
set_option linter.unusedSimpArgs false
set_option maxRecDepth 100000
namespace Go.S
open Go Go.AM Go.RowKit Go.K
theorem Sz.same {M : Nat} {t : List (List Rat)} (h : Sz M t) {c : Nat} (hr : ∀ r ∈ t, r.length = c) (hc : c ≤ 1000000) (hl : t.length ≤ 1000000) (hM : M < 100000000) : CP (CL F) 21 [eT t, eT t] = some (.bool true) := by
  have := s_mSame (a := t) (b := t) hl fun r h' => ⟨by rw [hr r h']; exact hc, fun q hq => Nat.lt_of_le_of_lt (h r h' q hq) hM⟩
  rwa [decide_eq_true rfl] at this
theorem Sz.idm (n : Nat) : Sz 1 (tab n n idm) := fun r hr q hq => by
  obtain ⟨i, hi, j, hj, rfl⟩ := mem_tab2 hr hq
  unfold Go.S.idm
  split
  · exact Lq_one
  · exact Lq_zero
set_option maxHeartbeats 4000000
end Go.S

end
section
set_option linter.unusedVariables false
set_option linter.unusedSimpArgs false
set_option maxRecDepth 100000
namespace Go.S
open Go Go.AM Go.RowKit Go.K
theorem Sz.ent {n c M : Nat} {A : Mt} (h : Sz M (tab n c A)) : ∀ r, r < n → ∀ y, y < c → Lq (A r y) ≤ M := fun r hr y hy => h _ (mem_tab.2 ⟨r, hr, rfl⟩) _ (mem_rowf.2 ⟨y, hy, rfl⟩)
set_option maxHeartbeats 4000000
end Go.S

end
section
set_option linter.unusedVariables false
set_option linter.unusedSimpArgs false
set_option maxRecDepth 100000
namespace Go.S
open Go Go.AM Go.RowKit Go.K
theorem ui_getN (l : List Int) (i : Nat) (h : i < l.length) : (ui l)[i]? = some (.int .i64 (l.getD i default)) := by
  simp [ui, List.getD, List.getElem?_eq_getElem h]
theorem s_Index (l : List Int) (x : Int) (hl : l.length ≤ 1000000) : ∃ z : Int, CP (CL F) 118 [.lst (ui l), .int .i64 x] = some (.int .i64 z) ∧ decide (0 ≤ z) = decide (x ∈ l) := by
  suffices H : CP (CL F) 118 [.lst (ui l), .int .i64 x] = some (.int .i64 (if l.findIdx (fun y => decide (x = y)) < l.length then (l.findIdx (fun y => decide (x = y)) : Int) else -1)) by
    refine ⟨_, H, ?_⟩
    have e : x ∈ l ↔ l.findIdx (fun y => decide (x = y)) < l.length := by
      rw [List.findIdx_lt_length]
      exact ⟨fun h => ⟨x, h, by simp⟩, fun ⟨y, hy, h⟩ => by simp at h; rw [h]; exact hy⟩
    by_cases h : l.findIdx (fun y => decide (x = y)) < l.length
    · rw [if_pos h, decide_eq_true (e.2 h)]; exact decide_eq_true (by omega)
    · rw [if_neg h, decide_eq_false (fun n => h (e.1 n))]; rfl
  refine CP_X (F := F) (f := 118) rfl rfl ?_
  refine go3 ?_
  refine X_upto l.length (fun i s => ∃ j5 j9 j16, (∀ j, j < i → x ≠ l.getD j default) ∧ s = ⟨[(0, .lst (ui l)), (1, .int .i64 x), (4, eI 0), (5, j5), (7, eI l.length), (8, eI i), (9, j9), (16, j16)], []⟩) ?_ 0 (Nat.zero_le _) _ ⟨_, _, _, fun j hj => by omega, rfl⟩
  rintro i s hi ⟨j5, j9, j16, hall, rfl⟩ rec
  by_cases hlt : i < l.length
  · have hlt2 := lt_c hlt
    have g := ui_getN l i hlt
    by_cases hx : x = l.getD i default
    · rw [findIdx_spec (p := fun y => decide (x = y)) hlt (decide_eq_true hx) fun j hj => decide_eq_false (hall j hj), if_pos hlt]
      generalize l.getD i default = y at *
      clear hall rec hi
      refine go3 ?_
      trivial
    · have hnext : ∀ j, j < i + 1 → x ≠ l.getD j default := fun j hj => by
        rcases Nat.lt_or_ge j i with h | h
        · exact hall j h
        · have : j = i := by omega
          subst this; exact hx
      have hi6 : i < 9223372036854775807 := by omega
      have hw := i64_nat hi6
      clear hall
      generalize hy : l.getD i default = y at *
      refine go3 ?_
      exact rec _ hlt ⟨_, _, _, hnext, rfl⟩
  · have hl3 : ¬ ((i : Int) < (l.length : Int)) := by omega
    have he := findIdx_none (l := l) (p := fun y => decide (x = y)) fun j hj => decide_eq_false (hall j (by omega))
    rw [if_neg he]
    clear hall rec he
    refine go3 ?_
    trivial
theorem s_Contains (l : List Int) (x : Int) (hl : l.length ≤ 1000000) : CP (CL F) 73 [.lst (ui l), .int .i64 x] = some (.bool (decide (x ∈ l))) := by
  refine CP_X (F := F) (f := 73) rfl rfl ?_
  obtain ⟨z, h, e⟩ := s_Index l x hl
  rw [← e]
  clear e
  refine go3 ?_
  trivial
end Go.S

end
section
set_option linter.unusedVariables false
set_option linter.unusedSimpArgs false
namespace Go.S
theorem det_last {n : Nat} : ∀ {A : Mt}, (∀ c, c < n → A n c = 0) → det (n + 1) A = A n n * det n A := by
  induction n with
  | zero =>
    intro A _
    show 0 + psg 0 * A 0 0 * 1 = A 0 0 * 1
    rw [show psg 0 = 1 from rfl]; grind
  | succ n ih =>
    intro A h
    rw [det_succ (n + 1) A, det_succ n A, ← sm_mul]
    show sm (n + 1) _ + psg (n + 1) * A 0 (n + 1) * det (n + 1) (cut A (n + 1)) = _
    have z : det (n + 1) (cut A (n + 1)) = 0 := det_row0 (r := n) (by omega) fun c hc => by
      show A (n + 1) (sk (n + 1) c) = 0
      rw [show sk (n + 1) c = c from by unfold sk; rw [if_pos (by omega)]]
      exact h c (by omega)
    have e : sm (n + 1) (fun j => psg j * A 0 j * det (n + 1) (cut A j)) = sm (n + 1) fun j => A (n + 1) (n + 1) * (psg j * A 0 j * det n (cut A j)) := sm_congr fun j hj => by
      have hi := ih (A := cut A j) fun c hc => by
        show A (n + 1) (sk j c) = 0
        exact h _ (by unfold sk; split <;> omega)
      have : cut A j n n = A (n + 1) (n + 1) := by
        show A (n + 1) (sk j n) = _
        rw [show sk j n = n + 1 from by unfold sk; rw [if_neg (by omega)]]
      rw [hi, this]; grind
    rw [e, z]; grind
theorem det_lastc {n : Nat} : ∀ {A : Mt}, (∀ r, r < n → A r n = 0) → det (n + 1) A = A n n * det n A := by
  induction n with
  | zero =>
    intro A _
    show 0 + psg 0 * A 0 0 * 1 = A 0 0 * 1
    rw [show psg 0 = 1 from rfl]; grind
  | succ n ih =>
    intro A h
    rw [det_succ (n + 1) A, det_succ n A, ← sm_mul]
    show sm (n + 1) _ + psg (n + 1) * A 0 (n + 1) * det (n + 1) (cut A (n + 1)) = _
    have e : sm (n + 1) (fun j => psg j * A 0 j * det (n + 1) (cut A j)) = sm (n + 1) fun j => A (n + 1) (n + 1) * (psg j * A 0 j * det n (cut A j)) := sm_congr fun j hj => by
      have sn : sk j n = n + 1 := by unfold sk; rw [if_neg (by omega)]
      have hi := ih (A := cut A j) fun r hr => by
        show A (r + 1) (sk j n) = 0
        rw [sn]; exact h _ (by omega)
      have : cut A j n n = A (n + 1) (n + 1) := by
        show A (n + 1) (sk j n) = _
        rw [sn]
      rw [hi, this]; grind
    rw [e, h 0 (by omega)]; grind
theorem det_zeros {n : Nat} : ∀ {A : Mt} {k : Nat}, k < n → (∀ i c, k ≤ i → i < n → c ≤ k → A i c = 0) → det n A = 0 := by
  induction n with
  | zero => intro A k h; omega
  | succ n ih =>
    intro A k hk h
    rw [det_succ]
    refine sm_zero' fun j hj => ?_
    cases k with
    | zero =>
      cases j with
      | zero => rw [h 0 0 (by omega) (by omega) (by omega)]; grind
      | succ j =>
        rw [ih (A := cut A (j + 1)) (k := 0) (by omega) fun i c _ hi hc => ?_]
        · grind
        · obtain rfl : c = 0 := by omega
          show A (i + 1) (sk (j + 1) 0) = 0
          exact h (i + 1) 0 (by omega) (by omega) (by omega)
    | succ k =>
      rw [ih (A := cut A j) (k := k) (by omega) fun i c hi hi2 hc => ?_]
      · grind
      · show A (i + 1) (sk j c) = 0
        exact h (i + 1) _ (by omega) (by omega) (by unfold sk; split <;> omega)
def rpl (i j : Nat) : Nat → Nat := fun c => if c = i then j else c
theorem det_idcol {k i j : Nat} {H : Mt} (hi : i < k) (h : ∀ r c, r < k → c < k → H r c = if r = c then 1 else 0) : det k (fun r c => H r (rpl i j c)) = H i j := by
  have e1 := det_scale (n := k) (A := setr (fun r c => H r (rpl i j c)) i fun c => if c = i then 1 else 0) (r := i) (H i j) hi
  have e2 : det k (setr (setr (fun r c => H r (rpl i j c)) i fun c => if c = i then 1 else 0) i fun c => H i j * setr (fun r c => H r (rpl i j c)) i (fun c => if c = i then 1 else 0) i c) = det k (fun r c => H r (rpl i j c)) := by
    refine det_congr fun r c hr hc => ?_
    by_cases hri : r = i
    · subst hri
      simp only [setr, if_true, rpl]
      by_cases hc2 : c = r
      · simp only [hc2, if_true]; grind
      · simp only [hc2, if_false]; rw [h r c hr hc, if_neg (Ne.symm hc2)]; grind
    · simp only [setr, hri, if_false]
  rw [e2] at e1
  rw [e1]
  generalize hB : setr (fun r c => H r (rpl i j c)) i (fun c => if c = i then 1 else 0) = B
  have e3 := (Rop.refl (n := k) B).elim (j := i) hi k (Nat.le_refl k)
  rw [e3.det1, det_id k fun r c hr hc => ?_]
  · grind
  · subst hB
    by_cases hri : r = i
    · subst hri
      simp only [elimTo, setr, if_true, hr, ne_eq, not_true_eq_false, and_false, if_false]
      by_cases hc2 : c = r
      · rw [if_pos hc2, if_pos hc2.symm]
      · rw [if_neg hc2, if_neg (Ne.symm hc2)]
    · simp only [elimTo, setr, hr, hri, ne_eq, not_false_eq_true, and_self, if_true, if_false, rpl]
      by_cases hc2 : c = i
      · subst hc2
        simp only [if_true, if_neg hri]
        grind
      · simp only [hc2, if_false]
        rw [h r c hr hc]
        grind
structure BI (n k : Nat) (A M : Mt) (pv : Rat) : Prop where
  nz : pv ≠ 0
  d : det k A = pv
  id : ∀ i c, i < n → c < k → M i c = if i = c then pv else 0
  c : ∀ l j, l < n → A l j = sm k (fun i => A l i * (M i j / pv)) + (if k ≤ l then M l j / pv else 0)
theorem BI.init (n : Nat) (A : Mt) : BI n 0 A A 1 := ⟨by decide, rfl, fun i c _ h => by omega, fun l j _ => by
  rw [if_pos (Nat.zero_le _)]
  show A l j = 0 + A l j / 1
  grind⟩
theorem BI.hid {n k : Nat} {A M : Mt} {pv : Rat} (H : BI n k A M pv) {i c : Nat} (hi : i < n) (hc : c < k) : M i c / pv = if i = c then 1 else 0 := by
  have h1 := H.nz
  rw [H.id i c hi hc]
  split <;> grind
theorem BI.low {n k : Nat} {A M : Mt} {pv : Rat} (H : BI n k A M pv) (hk : k ≤ n) {i : Nat} (hi : i < n) (hik : k ≤ i) (j : Nat) :
    det (k + 1) (fun r c => A (if r < k then r else i) (if c < k then c else j)) = M i j := by
  have e : det (k + 1) (fun r c => A (if r < k then r else i) (if c < k then c else j)) = det (k + 1) (mm (k + 1) (fun r m => if m < k then A (if r < k then r else i) m else if r = k then 1 else 0) fun m c => M (if m < k then m else i) (if c < k then c else j) / pv) := by
    refine det_congr fun r c hr hc => ?_
    have hl : (if r < k then r else i) < n := by split <;> omega
    rw [H.c _ _ hl]
    show _ = sm k (fun m => (if m < k then A (if r < k then r else i) m else if r = k then 1 else 0) * (M (if m < k then m else i) (if c < k then c else j) / pv)) + (if k < k then A (if r < k then r else i) k else if r = k then 1 else 0) * (M (if k < k then k else i) (if c < k then c else j) / pv)
    congr 1
    · refine sm_congr fun m hm => ?_
      rw [if_pos hm, if_pos hm]
    · rw [if_neg (Nat.lt_irrefl k), if_neg (Nat.lt_irrefl k)]
      by_cases h : r < k
      · rw [if_pos h, if_neg (by omega : ¬ k ≤ r), if_neg (by omega : ¬ r = k)]; grind
      · rw [if_neg h, if_pos hik, if_pos (by omega : r = k)]; grind
  rw [e, det_mm, ← det_gdet, det_lastc fun r hr => by rw [if_neg (Nat.lt_irrefl k), if_neg (by omega)]]
  rw [if_neg (Nat.lt_irrefl k), if_pos rfl, det_last fun c hc => by
    show M (if k < k then k else i) (if c < k then c else j) / pv = 0
    rw [if_neg (Nat.lt_irrefl k), if_pos hc, H.hid hi hc, if_neg (by omega)]]
  have d1 : det k (fun r m => if m < k then A (if r < k then r else i) m else if r = k then 1 else 0) = pv := by
    rw [← H.d]
    exact det_congr fun r c hr hc => by rw [if_pos hc, if_pos hr]
  have d2 : det k (fun m c => M (if m < k then m else i) (if c < k then c else j) / pv) = 1 := det_id k fun r c hr hc => by
    rw [if_pos hr, if_pos hc, H.hid (by omega) hc]
  rw [if_neg (Nat.lt_irrefl k), if_neg (Nat.lt_irrefl k), d1, d2]
  have := H.nz
  grind
theorem BI.high {n k : Nat} {A M : Mt} {pv : Rat} (H : BI n k A M pv) (hk : k ≤ n) {i : Nat} (hi : i < k) (j : Nat) :
    det k (fun r c => A r (rpl i j c)) = M i j := by
  have e : det k (fun r c => A r (rpl i j c)) = det k (mm k A fun m c => M m (rpl i j c) / pv) := by
    refine det_congr fun r c hr hc => ?_
    rw [H.c _ _ (by omega), if_neg (by omega)]
    unfold mm
    grind
  rw [e, det_mm, ← det_gdet, det_idcol (H := fun m c => M m c / pv) hi fun r c hr hc => H.hid (by omega) hc, H.d]
  have := H.nz
  grind
def bstp (k : Nat) (M : Mt) (pv : Rat) : Mt := fun i j => if i = k then M k j else (M k k * M i j - M i k * M k j) / pv
theorem BI.step {n k : Nat} {A M : Mt} {pv : Rat} (H : BI n k A M pv) (hk : k < n) (hp : M k k ≠ 0) : BI n (k + 1) A (bstp k M pv) (M k k) := by
  have hv := H.nz
  refine ⟨hp, ?_, fun i c hi hc => ?_, fun l j hl => ?_⟩
  · rw [← H.low (by omega) hk (Nat.le_refl k) k]
    refine det_congr fun r c hr hc => ?_
    have e1 : (if r < k then r else k) = r := by split <;> omega
    have e2 : (if c < k then c else k) = c := by split <;> omega
    rw [e1, e2]
  · unfold bstp
    by_cases hik : i = k
    · subst hik
      rw [if_pos rfl]
      by_cases hc2 : i = c
      · subst hc2; rw [if_pos rfl]
      · rw [if_neg hc2, H.id i c hi (by omega), if_neg hc2]
    · rw [if_neg hik]
      by_cases hc2 : c = k
      · subst hc2; rw [if_neg hik]; grind
      · rw [H.id i c hi (by omega), H.id k c hk (by omega), if_neg (by omega : ¬ k = c)]
        split <;> grind
  · have a1 := H.c l j hl
    have a2 := H.c l k hl
    have e1 : sm k (fun i => A l i * (bstp k M pv i j / M k k)) = sm k (fun i => A l i * (M i j / pv)) + -(M k j / M k k) * sm k (fun i => A l i * (M i k / pv)) := by
      rw [← sm_mul, ← sm_add]
      refine sm_congr fun i hi => ?_
      unfold bstp
      rw [if_neg (by omega)]
      grind
    have e2 : bstp k M pv k j = M k j := by unfold bstp; rw [if_pos rfl]
    show A l j = sm k _ + A l k * (bstp k M pv k j / M k k) + _
    rw [e1, e2]
    generalize sm k (fun i => A l i * (M i j / pv)) = S1 at *
    generalize sm k (fun i => A l i * (M i k / pv)) = S2 at *
    rcases Nat.lt_trichotomy l k with h | h | h
    · rw [if_neg (by omega)] at a1 a2
      rw [if_neg (by omega), a1, a2]
      grind
    · subst h
      rw [if_pos (Nat.le_refl _)] at a1 a2
      rw [if_neg (by omega), a1, a2]
      grind
    · rw [if_pos (by omega)] at a1 a2
      rw [if_pos (by omega), a1, a2]
      unfold bstp
      rw [if_neg (by omega)]
      grind
theorem BI.swp {n k : Nat} {A M : Mt} {pv : Rat} (H : BI n k A M pv) {r s : Nat} (hr : k ≤ r) (hr2 : r < n) (hs : k ≤ s) (hs2 : s < n) : BI n k (swp A r s) (swp M r s) pv := by
  have hk : ∀ B : Mt, ∀ i, i < k → Go.S.swp B r s i = B i := fun B i hi => by
    unfold Go.S.swp
    rw [if_neg (by omega), if_neg (by omega)]
  refine ⟨H.nz, ?_, fun i c hi hc => ?_, fun l j hl => ?_⟩
  · rw [← H.d]
    exact det_congr fun i c hi hc => by rw [hk A i hi]
  · by_cases hik : i < k
    · rw [hk M i hik, H.id i c hi hc]
    · unfold Go.S.swp
      rw [H.id _ c (by split <;> (try split) <;> omega) hc, if_neg (by split <;> (try split) <;> omega), if_neg (by omega)]
  · rw [sm_congr (g := fun i => Go.S.swp A r s l i * (M i j / pv)) fun i hi => by rw [hk M i hi]]
    unfold Go.S.swp
    rw [H.c _ j (by split <;> (try split) <;> omega)]
    congr 1
    by_cases hik : k ≤ l
    · rw [if_pos hik, if_pos (by split <;> (try split) <;> omega)]
    · rw [if_neg hik, if_neg (by split <;> (try split) <;> omega)]
theorem BI.none {n k : Nat} {A M : Mt} {pv : Rat} (H : BI n k A M pv) (hk : k < n) (h : ∀ i, k ≤ i → i < n → M i k = 0) : det n A = 0 := by
  have e : det n A = det n (mm n (fun l i => if i < k then A l i else if i = l then 1 else 0) fun i j => M i j / pv) := by
    refine det_congr fun l j hl hj => ?_
    rw [H.c l j hl]
    unfold mm
    have key : ∀ d, k + d ≤ n → sm (k + d) (fun i => (if i < k then A l i else if i = l then 1 else 0) * (M i j / pv)) = sm k (fun i => A l i * (M i j / pv)) + if k ≤ l ∧ l < k + d then M l j / pv else 0 := by
      intro d
      induction d with
      | zero =>
        intro _
        rw [if_neg (by omega), Nat.add_zero, sm_congr (g := fun i => A l i * (M i j / pv)) fun i hi => by rw [if_pos hi]]
        grind
      | succ d ih =>
        intro hd
        show sm (k + d) _ + (if k + d < k then A l (k + d) else if k + d = l then 1 else 0) * (M (k + d) j / pv) = _
        rw [ih (by omega), if_neg (by omega : ¬ k + d < k)]
        by_cases h1 : k + d = l
        · rw [if_pos h1, if_neg (by omega), if_pos (by omega), h1]; grind
        · rw [if_neg h1]
          by_cases h2 : k ≤ l ∧ l < k + d
          · rw [if_pos h2, if_pos (by omega)]; grind
          · rw [if_neg h2, if_neg (by omega)]; grind
    have := key (n - k) (by omega)
    rw [show k + (n - k) = n by omega] at this
    rw [this]
    congr 1
    by_cases h1 : k ≤ l
    · rw [if_pos h1, if_pos ⟨h1, hl⟩]
    · rw [if_neg h1, if_neg (by omega)]
  rw [e, det_mm, det_zeros (k := k) hk fun i c hi hi2 hc => by
    by_cases h1 : c = k
    · rw [h1, h i hi hi2]; grind
    · rw [H.hid hi2 (by omega), if_neg (by omega)]]
  grind
def isI (x : Rat) : Prop := ∃ z : Int, x = z
theorem BI.int {n k : Nat} {A M : Mt} {pv : Rat} (H : BI n k A M pv) (hk : k ≤ n) (h : ∀ i, i < n → ∀ j, isI (A i j)) {i : Nat} (hi : i < n) (j : Nat) : isI (M i j) := by
  by_cases hik : k ≤ i
  · rw [← H.low hk hi hik j]
    exact det_int _ fun r c hr hc => h _ (by split <;> omega) _
  · rw [← H.high hk (by omega) j]
    exact det_int _ fun r c hr hc => h _ (by omega) _
theorem BI.pint {n k : Nat} {A M : Mt} {pv : Rat} (H : BI n k A M pv) (hk : k ≤ n) (h : ∀ i, i < n → ∀ j, isI (A i j)) : isI pv := by
  rw [← H.d]
  exact det_int _ fun r c hr hc => h _ (by omega) _
structure BS where
  M : Mt
  neg : Bool
  pv : Rat
def bnext (n k : Nat) (s : BS) : Option BS :=
  if fnd n s.M k k = n then none else some ⟨bstp k (swp s.M k (fnd n s.M k k)) s.pv, if k = fnd n s.M k k then s.neg else !s.neg, s.M (fnd n s.M k k) k⟩
def brun (n : Nat) (A : Mt) : Nat → Option BS
  | 0 => some ⟨A, false, 1⟩
  | k + 1 => (brun n A k).bind (bnext n k)
def sgb (b : Bool) : Rat := if b then -1 else 1
structure BP (n : Nat) (A B : Mt) (neg : Bool) : Prop where
  all : ∀ P : (Nat → Rat) → Prop, (∀ i, i < n → P (A i)) ↔ (∀ i, i < n → P (B i))
  det : ∀ γ : Nat → Nat, Go.S.det n (fun i c => B i (γ c)) = sgb neg * Go.S.det n (fun i c => A i (γ c))
theorem BP.refl (n : Nat) (A : Mt) : BP n A A false := ⟨fun _ => Iff.rfl, fun γ => by unfold sgb; rw [if_neg (by decide)]; grind⟩
theorem BP.swp {n : Nat} {A B : Mt} {neg : Bool} (H : BP n A B neg) {r s : Nat} (hr : r < n) (hs : s < n) (h : r ≠ s) : BP n A (swp B r s) (!neg) := by
  refine ⟨fun P => (H.all P).trans ⟨fun h2 i hi => ?_, fun h2 i hi => ?_⟩, fun γ => ?_⟩
  · unfold Go.S.swp
    exact h2 _ (by split <;> (try split) <;> omega)
  · have h3 := h2 (if i = r then s else if i = s then r else i) (by split <;> (try split) <;> omega)
    unfold Go.S.swp at h3
    by_cases h4 : i = r
    · subst h4; simp only [if_true, Ne.symm h, if_false] at h3; exact h3
    · by_cases h5 : i = s
      · subst h5; simp only [Ne.symm h, if_true, if_false] at h3; exact h3
      · simp only [h4, h5, if_false] at h3; exact h3
  · have e := det_swp (A := fun i c => B i (γ c)) h hr hs
    have e2 : Go.S.swp (fun i c => B i (γ c)) r s = fun i c => Go.S.swp B r s i (γ c) := rfl
    rw [e2] at e
    rw [e, H.det γ]
    unfold sgb
    cases neg <;> simp <;> grind
theorem brun_BI {n : Nat} {A : Mt} : ∀ {k : Nat} {s : BS}, k ≤ n → brun n A k = some s → ∃ B, BI n k B s.M s.pv ∧ BP n A B s.neg := by
  intro k
  induction k with
  | zero =>
    intro s _ h
    cases h
    exact ⟨A, BI.init n A, BP.refl n A⟩
  | succ k ih =>
    intro s hk h
    unfold brun at h
    cases hb : brun n A k with
    | none => rw [hb] at h; cases h
    | some s0 =>
      rw [hb] at h
      obtain ⟨B, h1, h2⟩ := ih (by omega) hb
      obtain ⟨k1, k2, k3, k4⟩ := fnd_spec (n := n) (A := s0.M) (j := k) (a := k) (by omega)
      change bnext n k s0 = some s at h
      unfold bnext at h
      generalize fnd n s0.M k k = r at *
      by_cases hr : r = n
      · rw [if_pos hr] at h; cases h
      · rw [if_neg hr] at h
        cases h
        have hp := k4 (by omega)
        have b1 := h1.swp (r := k) (s := r) (Nat.le_refl k) (by omega) k1 (by omega)
        have e : swp s0.M k r k k = s0.M r k := by unfold swp; rw [if_pos rfl]
        have b2 := b1.step (by omega) (by rw [e]; exact hp)
        rw [e] at b2
        refine ⟨_, b2, ?_⟩
        by_cases hkr : k = r
        · rw [if_pos hkr, ← hkr, swp_self]; exact h2
        · rw [if_neg hkr]; exact h2.swp (by omega) (by omega) hkr
theorem sgb_sq (b : Bool) : sgb b * sgb b = 1 := by unfold sgb; cases b <;> simp <;> grind
theorem brun_none {n : Nat} {A : Mt} : ∀ {k : Nat}, k ≤ n → brun n A k = none → det n A = 0 := by
  intro k
  induction k with
  | zero => intro _ h; cases h
  | succ k ih =>
    intro hk h
    unfold brun at h
    cases hb : brun n A k with
    | none => exact ih (by omega) hb
    | some s0 =>
      rw [hb] at h
      obtain ⟨B, h1, h2⟩ := brun_BI (by omega) hb
      obtain ⟨k1, k2, k3, k4⟩ := fnd_spec (n := n) (A := s0.M) (j := k) (a := k) (by omega)
      change bnext n k s0 = none at h
      unfold bnext at h
      generalize fnd n s0.M k k = r at *
      by_cases hr : r = n
      · have z := h1.none (by omega) fun i hi hi2 => k3 i hi (by omega)
        have d := h2.det fun c => c
        have s := sgb_sq s0.neg
        have e : det n A = sgb s0.neg * (sgb s0.neg * det n A) := by grind
        rw [e]
        rw [z] at d
        rw [← d]
        grind
      · rw [if_neg hr] at h; cases h
theorem brun_det {n : Nat} {A : Mt} {s : BS} (h : brun n A n = some s) : det n A = sgb s.neg * s.pv := by
  obtain ⟨B, h1, h2⟩ := brun_BI (Nat.le_refl n) h
  have d := h2.det fun c => c
  have q := sgb_sq s.neg
  have := h1.d
  grind
theorem brun_nz {n : Nat} {A : Mt} {s : BS} (h : brun n A n = some s) : det n A ≠ 0 := by
  obtain ⟨B, h1, h2⟩ := brun_BI (Nat.le_refl n) h
  rw [brun_det h]
  have := h1.nz
  have q := sgb_sq s.neg
  intro e
  apply this
  have : s.pv = sgb s.neg * (sgb s.neg * s.pv) := by grind
  rw [this, e]; grind
theorem brun_solves {n : Nat} {A : Mt} {s : BS} (h : brun n A n = some s) {l : Nat} (hl : l < n) (j : Nat) : sm n (fun i => A l i * (sgb s.neg * s.M i j)) = A l j * (sgb s.neg * s.pv) := by
  obtain ⟨B, h1, h2⟩ := brun_BI (Nat.le_refl n) h
  refine (h2.all fun f => sm n (fun i => f i * (sgb s.neg * s.M i j)) = f j * (sgb s.neg * s.pv)).2 (fun l hl => ?_) l hl
  have e := h1.c l j hl
  rw [if_neg (by omega)] at e
  have hv := h1.nz
  have e2 : sm n (fun i => B l i * (sgb s.neg * s.M i j)) = (sgb s.neg * s.pv) * sm n (fun i => B l i * (s.M i j / s.pv)) := by
    rw [← sm_mul]
    refine sm_congr fun i _ => ?_
    grind
  rw [e2]
  grind
theorem brun_int {n : Nat} {A : Mt} (hA : ∀ i, i < n → ∀ j, isI (A i j)) {k : Nat} {s : BS} (hk : k ≤ n) (h : brun n A k = some s) : (∀ i, i < n → ∀ j, isI (s.M i j)) ∧ isI s.pv ∧ s.pv ≠ 0 := by
  obtain ⟨B, h1, h2⟩ := brun_BI hk h
  have hB := (h2.all fun f => ∀ j, isI (f j)).1 hA
  exact ⟨fun i hi j => h1.int hk hB hi j, h1.pint hk hB, h1.nz⟩
end Go.S

end
section
set_option linter.unusedVariables false
set_option linter.unusedSimpArgs false
namespace Go.S
section
variable {α : Type} [Inhabited α]
def rwg (c : Nat) (f : Nat → α) : List α := (List.range c).map f
def tbg (n c : Nat) (A : Nat → Nat → α) : List (List α) := (List.range n).map fun i => rwg c (A i)
def setg (A : Nat → Nat → α) (r : Nat) (f : Nat → α) : Nat → Nat → α := fun i => if i = r then f else A i
theorem rwg_len (c : Nat) (f : Nat → α) : (rwg c f).length = c := by simp [rwg]
theorem rwg_get {c : Nat} {f : Nat → α} {j : Nat} (h : j < c) : (rwg c f).getD j default = f j := by simp [rwg, List.getD, h]
theorem rwg_getE {c : Nat} {f : Nat → α} {j : Nat} (h : j < c) : (rwg c f)[j]? = some (f j) := by simp [rwg, h]
theorem rwg_congr {c : Nat} {f g : Nat → α} (h : ∀ j, j < c → f j = g j) : rwg c f = rwg c g := List.map_congr_left fun j hj => h j (by simpa using hj)
theorem rwg_app (c d : Nat) (f g : Nat → α) : rwg c f ++ rwg d g = rwg (c + d) fun j => if j < c then f j else g (j - c) := by
  refine List.ext_getElem (by simp [rwg]) fun i h1 h2 => ?_
  by_cases h : i < c
  · rw [List.getElem_append_left (by simpa [rwg] using h)]; simp [rwg, h]
  · rw [List.getElem_append_right (by simpa [rwg] using h)]; simp [rwg, h]
theorem rwg_drop (c n : Nat) (f : Nat → α) : (rwg c f).drop n = rwg (c - n) fun j => f (n + j) := by
  refine List.ext_getElem (by simp [rwg]) fun i h1 h2 => ?_
  simp [rwg]
theorem rwg_take {c n : Nat} (h : n ≤ c) (f : Nat → α) : (rwg c f).take n = rwg n f := by
  refine List.ext_getElem (by simp [rwg, h]) fun i h1 h2 => ?_
  simp [rwg]
theorem rwg_snoc (c : Nat) (f : Nat → α) : rwg c f ++ [f c] = rwg (c + 1) f := by simp [rwg, List.range_succ]
theorem rwg_set {c j : Nat} {f : Nat → α} {x : α} (h : j < c) : (rwg c f).set j x = rwg c fun y => if y = j then x else f y := by
  refine List.ext_getElem (by simp [rwg]) fun k h1 h2 => ?_
  rw [List.getElem_set]
  by_cases e : j = k
  · subst e; simp [rwg]
  · simp [rwg, e, Ne.symm e]
theorem tbg_len (n c : Nat) (A : Nat → Nat → α) : (tbg n c A).length = n := by simp [tbg]
theorem tbg_get {n c : Nat} {A : Nat → Nat → α} {i : Nat} (h : i < n) : (tbg n c A).getD i default = rwg c (A i) := by simp [tbg, List.getD, h]
theorem mem_tbg {n c : Nat} {A : Nat → Nat → α} {r : List α} : r ∈ tbg n c A ↔ ∃ i, i < n ∧ rwg c (A i) = r := by simp [tbg]
theorem tbg_row {n c : Nat} {A : Nat → Nat → α} : ∀ r ∈ tbg n c A, r.length = c := fun r h => by obtain ⟨i, _, rfl⟩ := mem_tbg.1 h; exact rwg_len _ _
theorem tbg_snoc (n c : Nat) (A : Nat → Nat → α) : tbg n c A ++ [rwg c (A n)] = tbg (n + 1) c A := by simp [tbg, List.range_succ]
end
end Go.S

end
section
set_option linter.unusedVariables false
set_option linter.unusedSimpArgs false
namespace Go.S
open Go.K
theorem isI_num {x : Rat} (h : isI x) : ((x.num : Int) : Rat) = x := by
  obtain ⟨z, rfl⟩ := h
  rw [Rat.num_intCast]
abbrev Zt := Nat → Nat → Int
def zq (A : Zt) : Mt := fun i j => ((A i j : Int) : Rat)
def nz (M : Mt) : Zt := fun i j => (M i j).num
theorem zq_isI (A : Zt) (i j : Nat) : isI (zq A i j) := ⟨A i j, rfl⟩
theorem nz_zq (A : Zt) : nz (zq A) = A := by funext i j; exact Rat.num_intCast _
theorem zinj {a b : Int} (h : (a : Rat) = (b : Rat)) : a = b := Rat.intCast_inj.1 h
def zsm : Nat → (Nat → Int) → Int
  | 0, _ => 0
  | n + 1, f => zsm n f + f n
def cutz (A : Zt) (j : Nat) : Zt := fun i c => A (i + 1) (sk j c)
def zdet : Nat → Zt → Int
  | 0, _ => 1
  | n + 1, A => zsm (n + 1) fun j => if j % 2 = 1 then -(A 0 j * zdet n (cutz A j)) else A 0 j * zdet n (cutz A j)
theorem zsm_cast (n : Nat) (f : Nat → Int) : ((zsm n f : Int) : Rat) = sm n fun j => ((f j : Int) : Rat) := by
  induction n with
  | zero => rfl
  | succ n ih => simp only [zsm, sm]; rw [Rat.intCast_add, ih]
theorem zdet_succ (n : Nat) (A : Zt) : zdet (n + 1) A = zsm (n + 1) fun j => if j % 2 = 1 then -(A 0 j * zdet n (cutz A j)) else A 0 j * zdet n (cutz A j) := rfl
theorem zdet_cast (n : Nat) : ∀ A : Zt, ((zdet n A : Int) : Rat) = det n (zq A) := by
  induction n with
  | zero => intro A; rfl
  | succ n ih =>
    intro A
    rw [zdet_succ, zsm_cast, det_succ]
    refine sm_congr fun j _ => ?_
    have e := ih (cutz A j)
    have e2 : zq (cutz A j) = cut (zq A) j := rfl
    rw [e2] at e
    rw [← e]
    unfold psg
    split
    · next h => rw [if_neg (by omega), Rat.intCast_neg, Rat.intCast_mul]; show _ = -1 * (A 0 j : Rat) * _; grind
    · next h => rw [if_pos (by omega), Rat.intCast_mul]; show _ = 1 * (A 0 j : Rat) * _; grind
theorem zdet_congr {n : Nat} {A B : Zt} (h : ∀ i c, i < n → c < n → A i c = B i c) : zdet n A = zdet n B := by
  refine zinj ?_
  rw [zdet_cast, zdet_cast]
  exact det_congr fun i c hi hc => by unfold zq; rw [h i c hi hc]
def sgz (b : Bool) : Int := if b then -1 else 1
theorem sgz_cast (b : Bool) : ((sgz b : Int) : Rat) = sgb b := by cases b <;> rfl
structure ZS where
  Z : Zt
  neg : Bool
  pv : Int
def znum (s : BS) : ZS := ⟨nz s.M, s.neg, s.pv.num⟩
def zrun (n : Nat) (A : Zt) (k : Nat) : Option ZS := (brun n (zq A) k).map znum
def swz (A : Zt) (r s : Nat) : Zt := fun i => A (if i = r then s else if i = s then r else i)
theorem swz_self (A : Zt) (a : Nat) : swz A a a = A := by
  funext i
  unfold swz
  split
  · next h => rw [h]
  · rfl
theorem zrun_zero (n : Nat) (A : Zt) : zrun n A 0 = some ⟨A, false, 1⟩ := by
  show some (znum ⟨zq A, false, 1⟩) = _
  unfold znum
  simp only [nz_zq]
  rfl
structure ZN (n c k : Nat) (s : ZS) (r : Nat) (t : ZS) : Prop where
  kr : k ≤ r
  rn : r < n
  z : ∀ i, k ≤ i → i < r → s.Z i k = 0
  p : s.Z r k ≠ 0
  v : s.pv ≠ 0
  neg : t.neg = if k = r then s.neg else !s.neg
  pv : t.pv = s.Z r k
  at_ : ∀ j, t.Z k j = s.Z r j
  d : ∀ i, i < n → i ≠ k → ∀ j, s.pv * t.Z i j = s.Z r k * swz s.Z k r i j - swz s.Z k r i k * s.Z r j
theorem num_zero {x : Rat} : x.num = 0 ↔ x = 0 := Rat.num_eq_zero
theorem zrun_succ {n : Nat} {A : Zt} {k : Nat} {s : ZS} (hk : k < n) (h : zrun n A k = some s) :
    (∃ r t, zrun n A (k + 1) = some t ∧ ∀ c, ZN n c k s r t) ∨ (zrun n A (k + 1) = none ∧ ∀ i, k ≤ i → i < n → s.Z i k = 0) := by
  unfold zrun at h
  cases hb : brun n (zq A) k with
  | none => rw [hb] at h; cases h
  | some s0 =>
    rw [hb] at h
    cases h
    obtain ⟨k1, k2, k3, k4⟩ := fnd_spec (n := n) (A := s0.M) (j := k) (a := k) (by omega)
    have hn : brun n (zq A) (k + 1) = bnext n k s0 := by
      show (brun n (zq A) k).bind (bnext n k) = _
      rw [hb]; rfl
    obtain ⟨i1, i2, i3⟩ := brun_int (A := zq A) (fun i _ j => zq_isI A i j) (by omega) hb
    unfold zrun
    rw [hn]
    have hbn : bnext n k s0 = if fnd n s0.M k k = n then none else some ⟨bstp k (swp s0.M k (fnd n s0.M k k)) s0.pv, if k = fnd n s0.M k k then s0.neg else !s0.neg, s0.M (fnd n s0.M k k) k⟩ := rfl
    rw [hbn] at hn ⊢
    clear hbn
    generalize fnd n s0.M k k = r at *
    by_cases hr : r = n
    · rw [if_pos hr]
      refine .inr ⟨rfl, fun i h1 h2 => ?_⟩
      show (s0.M i k).num = 0
      rw [k3 i h1 (by omega)]; rfl
    · rw [if_neg hr] at hn ⊢
      refine .inl ⟨r, _, rfl, fun c => ⟨k1, by omega, fun i h1 h2 => ?_, ?_, ?_, rfl, rfl, fun j => ?_, fun i hi hik j => ?_⟩⟩
      · show (s0.M i k).num = 0
        rw [k3 i h1 h2]; rfl
      · exact fun e => k4 (by omega) (num_zero.1 e)
      · exact fun e => i3 (num_zero.1 e)
      · show (bstp k (swp s0.M k r) s0.pv k j).num = (s0.M r j).num
        unfold bstp swp
        rw [if_pos rfl, if_pos rfl]
      · obtain ⟨j1, j2, j3⟩ := brun_int (A := zq A) (fun i _ j => zq_isI A i j) (by omega) hn
        have iw : ∀ y, isI (swp s0.M k r i y) := fun y => i1 _ (by split <;> (try split) <;> omega) y
        refine zinj ?_
        show (((s0.pv.num * (bstp k (swp s0.M k r) s0.pv i j).num : Int)) : Rat) = ((((s0.M r k).num * (swp s0.M k r i j).num - (swp s0.M k r i k).num * (s0.M r j).num : Int)) : Rat)
        rw [Rat.intCast_mul, Rat.intCast_sub, Rat.intCast_mul, Rat.intCast_mul, isI_num i2, isI_num (j1 i hi j), isI_num (i1 r (by omega) k), isI_num (iw j), isI_num (iw k), isI_num (i1 r (by omega) j)]
        have e : ∀ y, swp s0.M k r k y = s0.M r y := fun y => by unfold swp; rw [if_pos rfl]
        have e2 : bstp k (swp s0.M k r) s0.pv i j = (swp s0.M k r k k * swp s0.M k r i j - swp s0.M k r i k * swp s0.M k r k j) / s0.pv := if_neg hik
        show s0.pv * bstp k (swp s0.M k r) s0.pv i j = _
        rw [e2, e, e]
        generalize swp s0.M k r i j = a
        generalize swp s0.M k r i k = b
        grind
theorem L_fac {a b c : Int} (ha : a ≠ 0) (h : a * b = c) : L b ≤ L c := by
  by_cases hb : b = 0
  · subst hb; rw [L_zero]; omega
  · refine L_dvd ⟨a, by rw [← h, Int.mul_comm]⟩ ?_
    rw [← h]
    exact Int.mul_ne_zero ha hb
theorem zrun_size {n c K : Nat} {A : Zt} (hc : n ≤ c) (hA : ∀ i, i < n → ∀ j, j < c → L (A i j) ≤ K) : ∀ {k : Nat} {s : ZS}, k ≤ n → zrun n A k = some s → (∀ i, i < n → ∀ j, j < c → L (s.Z i j) + 1 ≤ 2 ^ k * (K + 2)) ∧ L s.pv + 1 ≤ 2 ^ k * (K + 2) := by
  intro k
  induction k with
  | zero =>
    intro s _ h
    rw [zrun_zero] at h
    cases h
    refine ⟨fun i hi j hj => ?_, ?_⟩
    · have := hA i hi j hj; show L (A i j) + 1 ≤ 1 * _; omega
    · have := L_one; show L 1 + 1 ≤ 1 * _; omega
  | succ k ih =>
    intro t hk h
    have hs : ∃ s, zrun n A k = some s := by
      unfold zrun at h ⊢
      cases hb : brun n (zq A) k with
      | none =>
        rw [show brun n (zq A) (k + 1) = (brun n (zq A) k).bind (bnext n k) from rfl, hb] at h
        cases h
      | some s => exact ⟨_, rfl⟩
    obtain ⟨s, hs⟩ := hs
    obtain ⟨b1, b2⟩ := ih (by omega) hs
    rcases zrun_succ (by omega) hs with ⟨r, t', h1, h2⟩ | ⟨h1, _⟩
    · rw [h1] at h
      obtain rfl := Option.some.inj h
      have Z := h2 c
      rw [Nat.pow_succ, Nat.mul_assoc, Nat.mul_left_comm]
      generalize 2 ^ k * (K + 2) = Q at *
      have hr := Z.rn
      refine ⟨fun i hi j hj => ?_, ?_⟩
      · by_cases hik : i = k
        · subst hik
          rw [Z.at_]
          have := b1 r hr j hj
          omega
        · have e := L_fac Z.v (Z.d i hi hik j)
          have w : ∀ y, y < c → L (swz s.Z k r i y) + 1 ≤ Q := fun y hy => b1 _ (by split <;> (try split) <;> omega) y hy
          have l1 := L_sub (s.Z r k * swz s.Z k r i j) (swz s.Z k r i k * s.Z r j)
          have l2 := L_mul (s.Z r k) (swz s.Z k r i j)
          have l3 := L_mul (swz s.Z k r i k) (s.Z r j)
          have w1 := w j hj
          have w2 := w k (by omega)
          have w3 := b1 r hr k (by omega)
          have w4 := b1 r hr j hj
          omega
      · rw [Z.pv]
        have := b1 r hr k (by omega)
        omega
    · rw [h1] at h; cases h
theorem zrun_det {n : Nat} {A : Zt} {s : ZS} (h : zrun n A n = some s) : zdet n A = sgz s.neg * s.pv ∧ zdet n A ≠ 0 := by
  unfold zrun at h
  cases hb : brun n (zq A) n with
  | none => rw [hb] at h; cases h
  | some s0 =>
    rw [hb] at h
    cases h
    obtain ⟨i1, i2, i3⟩ := brun_int (A := zq A) (fun i _ j => zq_isI A i j) (Nat.le_refl n) hb
    have e : ((zdet n A : Int) : Rat) = det n (zq A) := zdet_cast n A
    constructor
    · refine zinj ?_
      rw [e, brun_det hb, Rat.intCast_mul, sgz_cast]
      show _ = _ * ((s0.pv.num : Int) : Rat)
      rw [isI_num i2]
      rfl
    · intro h0
      rw [h0] at e
      exact brun_nz hb e.symm
theorem zrun_none {n : Nat} {A : Zt} (h : zrun n A n = none) : zdet n A = 0 := by
  unfold zrun at h
  cases hb : brun n (zq A) n with
  | none =>
    refine zinj ?_
    rw [zdet_cast, brun_none (Nat.le_refl n) hb]
    rfl
  | some s => rw [hb] at h; cases h
theorem zrun_none_mono {n : Nat} {A : Zt} {k : Nat} (h : zrun n A k = none) : ∀ d, zrun n A (k + d) = none := by
  intro d
  induction d with
  | zero => exact h
  | succ d ih =>
    unfold zrun at ih ⊢
    rw [show brun n (zq A) (k + (d + 1)) = (brun n (zq A) (k + d)).bind (bnext n (k + d)) from rfl]
    cases hb : brun n (zq A) (k + d) with
    | none => rfl
    | some s => rw [hb] at ih; cases ih
theorem zrun_solves {n : Nat} {A : Zt} {s : ZS} (h : zrun n A n = some s) {l : Nat} (hl : l < n) (j : Nat) : zsm n (fun i => A l i * (sgz s.neg * s.Z i j)) = A l j * (sgz s.neg * s.pv) := by
  unfold zrun at h
  cases hb : brun n (zq A) n with
  | none => rw [hb] at h; cases h
  | some s0 =>
    rw [hb] at h
    cases h
    obtain ⟨i1, i2, i3⟩ := brun_int (A := zq A) (fun i _ j => zq_isI A i j) (Nat.le_refl n) hb
    refine zinj ?_
    rw [zsm_cast, Rat.intCast_mul, Rat.intCast_mul, sgz_cast]
    have e := brun_solves hb hl j
    show _ = ((A l j : Int) : Rat) * (sgb s0.neg * ((s0.pv.num : Int) : Rat))
    rw [isI_num i2]
    rw [sm_congr (g := fun i => zq A l i * (sgb s0.neg * s0.M i j)) fun i hi => ?_]
    · exact e
    · show (((A l i * (sgz s0.neg * (s0.M i j).num) : Int)) : Rat) = _
      rw [Rat.intCast_mul, Rat.intCast_mul, sgz_cast, isI_num (i1 i hi j)]
      rfl
end Go.S

end
section
set_option linter.unusedVariables false
set_option linter.unusedSimpArgs false
namespace Go.S
def bsd (n : Nat) (A B : Mt) : Mt := fun i j => if j < n then A i j else B i (j - n)
theorem det_rows {n : Nat} {A : Mt} {M : Nat → Rat} (hM : ∀ i, M i ≠ 0) : (det n (fun i j => A i j * M i) = 0 ↔ det n A = 0) := by
  have key : ∀ k, k ≤ n → (det n (fun i j => if i < k then A i j * M i else A i j) = 0 ↔ det n A = 0) := by
    intro k
    induction k with
    | zero => intro _; simp
    | succ k ih =>
      intro hk
      rw [← ih (by omega)]
      have e := det_scale (n := n) (A := fun i j => if i < k then A i j * M i else A i j) (r := k) (M k) (by omega)
      have e2 : det n (setr (fun i j => if i < k then A i j * M i else A i j) k fun c => M k * (fun i j => if i < k then A i j * M i else A i j) k c) = det n (fun i j => if i < k + 1 then A i j * M i else A i j) := by
        refine det_congr fun i c hi hc => ?_
        unfold setr
        by_cases h : i = k
        · subst h
          rw [if_pos rfl, if_pos (by omega)]
          show M i * (if i < i then A i c * M i else A i c) = _
          rw [if_neg (by omega)]
          grind
        · rw [if_neg h]
          show (if i < k then A i c * M i else A i c) = _
          by_cases h2 : i < k
          · rw [if_pos h2, if_pos (by omega)]
          · rw [if_neg h2, if_neg (by omega)]
      rw [e2] at e
      rw [e]
      have := hM k
      constructor
      · intro h; grind
      · intro h; rw [h]; grind
  rw [← key n (Nat.le_refl n)]
  rw [det_congr (A := fun i j => A i j * M i) (B := fun i j => if i < n then A i j * M i else A i j) fun i c hi hc => by rw [if_pos hi]]
end Go.S

end
section
set_option linter.unusedVariables false
set_option linter.unusedSimpArgs false
set_option maxRecDepth 100000
namespace Go.S
open Go Go.AM Go.RowKit Go.K
def shp16 (a b : List (List Rat)) (sq : Bool) : Bool := may a && may b && decide (b.length = a.length) && (!sq || decide (wide a = a.length))
theorem shp16_iff {a b : List (List Rat)} {sq : Bool} : shp16 a b sq = true ↔ may a = true ∧ may b = true ∧ b.length = a.length ∧ (sq = true → wide a = a.length) := by
  unfold shp16
  cases sq <;> simp [and_assoc]
set_option maxHeartbeats 2000000
theorem s_shaped16 {a b : List (List Rat)} (ha : a.length ≤ 1000000) (hb : b.length ≤ 1000000) (sq : Bool) : CP (CL F) 87 [eT a, eT b, .bool sq] = some (eI (if shp16 a b sq = true then 0 else 8)) := by
  refine CP_X (F := F) (f := 87) rfl rfl ?_
  have k0 := s_Size a
  have k1 := s_Check (t := a) ha
  have k2 := s_Check (t := b) hb
  have z8 : ¬ ((8 : Int) = 0) := by decide
  cases h1 : may a with
  | false =>
    rw [show shp16 a b sq = false from by unfold shp16; rw [h1]; rfl, if_neg (by decide)]
    rw [h1, if_neg (by decide)] at k1
    clear h1 k2
    refine go3 ?_
    trivial
  | true =>
    rw [h1, if_pos rfl] at k1
    cases h2 : may b with
    | false =>
      rw [show shp16 a b sq = false from by unfold shp16; rw [h1, h2]; rfl, if_neg (by decide)]
      rw [h2, if_neg (by decide)] at k2
      clear h1 h2
      refine go3 ?_
      trivial
    | true =>
      rw [h2, if_pos rfl] at k2
      by_cases h3 : b.length = a.length
      · have c0 := eq_true (show ((b.length : Int) = (a.length : Int)) by omega)
        cases sq with
        | false =>
          rw [shp16_iff.2 ⟨h1, h2, h3, fun h => by cases h⟩, if_pos rfl]
          clear h1 h2 h3
          refine go3 ?_
          trivial
        | true =>
          by_cases h4 : wide a = a.length
          · rw [shp16_iff.2 ⟨h1, h2, h3, fun _ => h4⟩, if_pos rfl]
            have c1 := eq_true (show ((wide a : Int) = (a.length : Int)) by omega)
            clear h1 h2 h3 h4
            refine go3 ?_
            trivial
          · have hf : shp16 a b true = false := by
              rw [← Bool.not_eq_true, shp16_iff]
              exact fun h => h4 (h.2.2.2 rfl)
            rw [hf, if_neg (by decide)]
            have c1 := eq_false (show ¬ ((wide a : Int) = (a.length : Int)) by omega)
            clear h1 h2 h3 h4 hf
            refine go3 ?_
            trivial
      · have hf : shp16 a b sq = false := by
          rw [← Bool.not_eq_true, shp16_iff]
          exact fun h => h3 h.2.2.1
        rw [hf, if_neg (by decide)]
        have c0 := eq_false (show ¬ ((b.length : Int) = (a.length : Int)) by omega)
        clear h1 h2 h3 hf
        refine go3 ?_
        trivial
def freeP (piv : List Nat) (c : Nat) : List Nat := (List.range c).filter fun j => decide (j ∉ piv)
theorem freeP_succ (piv : List Nat) (c : Nat) : freeP piv (c + 1) = if c ∈ piv then freeP piv c else freeP piv c ++ [c] := by
  unfold freeP
  rw [List.range_succ, List.filter_append]
  split
  · next h => simp [h]
  · next h => simp [h]
theorem besideR_tab {n c m : Nat} (A B : Mt) : besideR (tab n c A) (tab n m B) = tab n (c + m) (bsd c A B) := by
  unfold besideR
  refine List.ext_getElem (by simp [tab]) fun i h1 h2 => ?_
  simp only [List.getElem_zipWith, tab, List.getElem_map, List.getElem_range]
  exact rowf_app c m (A i) (B i)
theorem s_Why {n c m M : Nat} {A B : Mt} (hn : n ≤ 100) (hc : c ≤ 100) (hm : m ≤ 100) (h0 : n = 0 → c = 0 ∧ m = 0) (hM : M < 1000000) (hA : GB n c M A) (hB : GB n (c + m) M (bsd c A B)) :
    CP (CL F) 53 [eT (tab n c A), eT (tab n m B)] = some (.tup [.agg [eI (grun n A c).2.1.length, .lst (ui (ivl (freeP (grun n A c).2.1 c))), .bool (decide ((grun n A c).2.1.length < (grun n (bsd c A B) (c + m)).2.1.length))], eI 0]) := by
  have wt : ∀ (k : Nat) (E : Mt), (n = 0 → k = 0) → wide (tab n k E) = k := fun k E h => by
    rcases Nat.eq_zero_or_pos n with e | e
    · subst e; rw [h rfl]; rfl
    · exact tab_wide e
  have k1 := s_shaped16 (a := tab n c A) (b := tab n m B) (by rw [tab_len]; omega) (by rw [tab_len]; omega) false
  rw [shp16_iff.2 ⟨tab_may (by omega) (by omega), tab_may (by omega) (by omega), by rw [tab_len, tab_len], fun h => by cases h⟩, if_pos rfl] at k1
  have k2 := s_Reduce (by omega) (by omega) (fun h => (h0 h).1) hM hA
  have k3 := s_Beside (a := tab n c A) (b := tab n m B) (tab_may (by omega) (by omega)) (tab_may (by omega) (by omega)) (by rw [tab_len, tab_len]) (by rw [wt c A fun h => (h0 h).1, wt m B fun h => (h0 h).2]; omega)
  rw [besideR_tab] at k3
  have k4 := s_Rank (s_Reduce (by omega) (by omega) (fun h => by obtain ⟨a, b⟩ := h0 h; omega) hM hB)
  rw [ivl_len] at k4
  have k5 := s_Size (tab n c A)
  rw [wt c A fun h => (h0 h).1, tab_len] at k5
  have fp : ∀ (a b : List (List Rat)) (h : Heap), fzR (Go.AM.frz h 6) (some (some ⟨0, 1, [eT a, eT b]⟩)) 0 0 2 = some (.lst (em eT [a, b])) := fun a b h => em_fz6 (h := h) (v := 0) (off := 0) (len := 2) E_eT [a, b]
  have up : ∀ (a b : List (List Rat)) (h : Heap) (i : Nat), usR (used h 6) (some (some ⟨0, 1, [eT a, eT b]⟩)) i 0 0 2 = [i] := fun a b h i => em_us6 (h := h) (id := i) (v := 0) (off := 0) (len := 2) E_eT [a, b]
  have pl := ivl_len (grun n A c).2.1
  have ple := (grun_RR n A c).le
  generalize (grun n A c).2.1 = piv at *
  generalize (grun n (bsd c A B) (c + m)).2.1.length = r2 at *
  generalize tab n c (grun n A c).1 = SA at *
  generalize tab n (c + m) (bsd c A B) = TAB at *
  generalize tab n c A = TA at *
  generalize tab n m B = TB at *
  have ct := fun j : Nat => s_Contains (ivl piv) (j : Int) (by rw [pl]; omega)
  have mem : ∀ j : Nat, decide ((j : Int) ∈ ivl piv) = decide (j ∈ piv) := fun j => by
    unfold ivl
    rw [Bool.eq_iff_iff, decide_eq_true_eq, decide_eq_true_eq, List.mem_map]
    constructor
    · rintro ⟨x, hx, e⟩
      obtain rfl : x = j := by omega
      exact hx
    · exact fun h => ⟨j, h, rfl⟩
  simp only [mem] at ct
  clear mem wt hA hB h0 ple
  obtain ⟨cl, hcl⟩ : ∃ cl : Bool, cl = decide (piv.length < r2) := ⟨_, rfl⟩
  rw [← hcl]
  have d0 : decide ((piv.length : Int) < (r2 : Int)) = cl := by rw [hcl]; simp
  clear hcl
  refine CP_X (F := F) (f := 53) rfl rfl ?_
  refine go3 ?_
  clear k1 k2 k3 k4 k5 fp up d0
  refine X_up c (fun j s => ∃ j15 j67 j72 g fv, PV g (freeP piv j) fv ∧ s = ⟨[(0, eT TA), (1, eT TB), (4, .ptr 0 0 0 0), (5, eI 0), (6, eI 0), (8, .lst (ui (ivl piv))), (9, eI 0), (10, eT TAB), (11, eI r2), (12, .ptr 2 0 0 0), (14, eI c), (15, j15), (20, .bool false), (30, .bool false), (41, .bool false), (50, .bool false), (65, eI c), (66, eI j), (67, j67), (72, j72)], some ⟨0, 3, [.agg [.int .i64 0, .nil, .bool false]]⟩ :: none :: some ⟨0, 3, [.agg [eI piv.length, fv, .bool cl]]⟩ :: g⟩) ?_ ?_ 0 (Nat.zero_le _) _ ⟨_, _, _, [], _, .inl ⟨rfl, rfl⟩, rfl⟩
  · rintro j s hj ⟨j15, j67, j72, g, fv, hpv, rfl⟩ rec
    have hlt := lt_c hj
    have cj := ct j
    have hfs := freeP_succ piv j
    have hj6 : j < 9223372036854775807 := by omega
    have hflen : (freeP piv j).length ≤ j := by
      have := List.length_filter_le (fun j => decide (j ∉ piv)) (List.range j)
      rw [List.length_range] at this
      exact this
    by_cases hmem : j ∈ piv
    · rw [decide_eq_true hmem] at cj
      rw [if_pos hmem] at hfs
      rw [hfs] at rec
      have hw := i64_nat hj6
      clear ct hmem hflen
      refine go3 ?_
      exact rec _ ⟨_, _, _, _, _, hpv, rfl⟩
    · rw [decide_eq_false hmem] at cj
      rw [if_neg hmem] at hfs
      rw [hfs] at rec
      have z1 : (ui [(j : Int)]).isEmpty = false := rfl
      have z3 := ivl_snoc (freeP piv j) j
      have z2 := ivl_len (freeP piv j)
      have z4 : List.take (freeP piv j).length (ivl (freeP piv j)) = ivl (freeP piv j) := take_len_g _ z2.symm
      have z5 : (freeP piv j ++ [j]).length = (freeP piv j).length + 1 := by simp
      have hlim : (freeP piv j).length + 1 < 17592186044416 := by omega
      have hw := i64_nat hj6
      generalize freeP piv j = f at *
      rcases hpv with ⟨rfl, rfl⟩ | ⟨vp, g1, g2, rfl, rfl⟩
      · clear ct hmem hflen
        refine go3 ?_
        exact rec _ ⟨_, _, _, _, _, .inr ⟨0, g ++ [some ⟨0, 1, ui [(j : Int)]⟩], [], by simp [ivl], by simp⟩, rfl⟩
      · clear ct hmem hflen
        refine go3 ?_
        exact rec _ ⟨_, _, _, _, _, .inr ⟨vp + 1, g1, _, by rw [z3], by rw [z5]⟩, rfl⟩
  · rintro s ⟨j15, j67, j72, g, fv, hpv, rfl⟩
    have hlt : ¬ ((c : Int) < (c : Int)) := nlt_c
    have z2 := ivl_len (freeP piv c)
    have z4 : List.take (freeP piv c).length (ivl (freeP piv c)) = ivl (freeP piv c) := take_len_g _ z2.symm
    generalize freeP piv c = f at *
    rcases hpv with ⟨rfl, rfl⟩ | ⟨vp, g1, g2, rfl, rfl⟩
    · clear ct
      refine go3 ?_
      trivial
    · clear ct
      refine go3 ?_
      trivial
end Go.S

end
section
set_option linter.unusedVariables false
set_option linter.unusedSimpArgs false
set_option maxRecDepth 100000
namespace Go.S
open Go Go.AM Go.RowKit Go.K
abbrev eRZ (l : List Int) : AV := .lst (em eZ l)
abbrev eTZ (t : List (List Int)) : AV := .lst (em eRZ t)
theorem E_eRZ : Enc eRZ 1 := ⟨fun _ => rfl, fun _ => rfl⟩
abbrev zZ : AV := .agg [.bool false, .nil]
theorem z_clone {l : List Int} (hl : l.length ≤ 1000000) (h : Heap) (hn : l ≠ []) : CL F 155 [eRZ l] h = some (.ref h.length 0 2 0 l.length, h ++ [some ⟨0, 2, em eZ l⟩]) := by
  refine CL_X (F := F) (f := 155) rfl rfl ?_
  cases l with
  | nil => exact absurd rfl hn
  | cons x l =>
    have hl' : (em eZ (x :: l)).isEmpty = false := rfl
    have h2 : l.length < 4398046511104 := by simp at hl; omega
    have he : eqA 3 (eRZ (x :: l)) .nil = some false := rfl
    clear hl hn
    refine go3 ?_
    trivial
theorem z_clone' {l : List Int} (hl : l.length ≤ 1000000) (h : Heap) (hn : l ≠ []) : cloneA (CL F) 155 (eRZ l) h = some (.ref h.length 0 2 0 l.length, h ++ [some ⟨0, 2, em eZ l⟩]) := by
  rw [cloneA_ne, z_clone hl h hn]
  intro hx
  cases l with
  | nil => exact hn rfl
  | cons x l => simp [em] at hx
theorem z_Grow {n : Nat} (hn : 0 < n) (hn2 : n ≤ 1000000) (h : Heap) : CL F 154 [.nil, eI n] h = some (.ref h.length 0 2 0 0, h ++ [some ⟨0, 2, List.replicate n zZ⟩]) := by
  refine CL_X (F := F) (f := 154) rfl rfl ?_
  have h1 : ¬ ((n : Int) < 0) := by omega
  have h2 : ((0 : Int) < (n : Int)) := by omega
  have h3 : (n : Int) ≤ 4398046511104 := by omega
  have h4 : n ≤ 4398046511104 := by omega
  have h5 : (List.replicate n zZ).isEmpty = false := by cases n with | zero => omega | succ n => rfl
  have h6 : okS 2 (List.replicate n zZ) = true := by
    unfold okS
    rw [List.all_eq_true]
    intro x hx
    rw [List.eq_of_mem_replicate hx]; rfl
  have h7 : (List.replicate n zZ).length = n := by simp
  have w1 : wrap64 (-0) = 0 := by rw [Int.neg_zero, w64 (by omega) (by omega)]
  have w2 : wrap64 ((n : Int) - 0) = n := by rw [Int.sub_zero, w64 (by omega) (by omega)]
  refine go3 ?_
  trivial
theorem z_Grow0 (h : Heap) : CL F 154 [.nil, eI 0] h = some (.nil, h) := by
  refine CL_X (F := F) (f := 154) rfl rfl ?_
  have w1 : wrap64 (-0) = 0 := by rw [Int.neg_zero, w64 (by omega) (by omega)]
  have w2 : wrap64 (0 - 0) = 0 := by rw [show (0 : Int) - 0 = 0 from rfl, w64 (by omega) (by omega)]
  refine go3 ?_
  trivial
theorem z_Concat0 : CP (CL F) 131 [.lst [.lst [], .lst []]] = some (.lst []) := by
  refine CP_X (F := F) (f := 131) rfl rfl ?_
  have gr := z_Grow0 []
  have w0 : wrap64 (0 + 0) = 0 := by rw [show (0 : Int) + 0 = 0 from rfl, w64 (by omega) (by omega)]
  have w1 : wrap64 (0 + 1) = 1 := by rw [show (0 : Int) + 1 = 1 from rfl, w64 (by omega) (by omega)]
  have w2 : wrap64 (1 + 1) = 2 := by rw [show (1 : Int) + 1 = 2 from rfl, w64 (by omega) (by omega)]
  refine go3 ?_
  refine X_round ?_
  refine go3 ?_
  refine X_round ?_
  refine go3 ?_
  refine X_round ?_
  refine go3 ?_
  refine X_round ?_
  refine go3 ?_
  refine X_round ?_
  refine go3 ?_
  refine X_round ?_
  refine go3 ?_
  trivial
theorem z_Concat {a b : List Int} (ha : a.length ≤ 1000) (hb : b.length ≤ 1000) : CP (CL F) 131 [.lst (em eRZ [a, b])] = some (eRZ (a ++ b)) := by
  have g0 : (em eRZ [a, b])[0]? = some (eRZ a) := rfl
  have g1 : (em eRZ [a, b])[1]? = some (eRZ b) := rfl
  have hl : (em eRZ [a, b]).length = 2 := rfl
  have c1 : ¬ ((a.length : Int) < 0) := by omega
  have c2 : ¬ (((a.length + b.length : Nat) : Int) < 0) := by omega
  have l1 : a.length ≤ 4398046511104 := by omega
  have l2 : a.length + b.length ≤ 4398046511104 := by omega
  have l3 : b.length ≤ 4398046511104 := by omega
  have ht : List.take (a.length + b.length) (a ++ b) = a ++ b := take_len_g _ (by simp)
  have ht1 : List.take a.length a = a := List.take_length
  have w1 : wrap64 (0 + 1) = 1 := by rw [show (0 : Int) + 1 = 1 from rfl, w64 (by omega) (by omega)]
  have w2 : wrap64 (1 + 1) = 2 := by rw [show (1 : Int) + 1 = 2 from rfl, w64 (by omega) (by omega)]
  have w3 : wrap64 (0 + (a.length : Int)) = a.length := by rw [Int.zero_add, w64 (by omega) (by omega)]
  have w4 : wrap64 ((a.length : Int) + (b.length : Int)) = ((a.length + b.length : Nat) : Int) := by rw [w64 (by omega) (by omega)]; omega
  rcases Nat.eq_zero_or_pos (a.length + b.length) with e | e
  · have ea : a = [] := List.eq_nil_of_length_eq_zero (by clear w1 w2 w3 w4; omega)
    have eb : b = [] := List.eq_nil_of_length_eq_zero (by clear w1 w2 w3 w4; omega)
    subst ea
    subst eb
    exact z_Concat0
  · refine CP_X (F := F) (f := 131) rfl rfl ?_
    have gr := z_Grow e (by clear w1 w2 w3 w4; omega) []
    have hne : a = [] → (em eZ b).isEmpty = false := fun h => by
      subst h
      cases b with
      | nil => simp at e
      | cons x b => rfl
    have z0 : ∀ xs : List AV, sub xs 0 0 = [] := fun xs => by simp [sub]
    have z1 := sub_full (f := eZ) a
    clear e
    refine go3 ?_
    refine X_round ?_
    refine go3 ?_
    refine X_round ?_
    refine go3 ?_
    refine X_round ?_
    refine go3 ?_
    refine X_round ?_
    refine go3 ?_
    refine X_round ?_
    refine go3 ?_
    refine X_round ?_
    refine go3 ?_
    trivial
theorem z_IndexRow {t : List (List Int)} {g : Nat} {c : Int} {p : List Int → Bool} (hl : t.length ≤ 1000000) (hg : ∀ x ∈ t, CP (CL F) g [eRZ x, .fad (.int .i64 c)] = some (.bool (p x))) :
    CP (CL F) 167 [eTZ t, .fn g [] [.fad (.int .i64 c)]] = some (eI (if t.findIdx p < t.length then (t.findIdx p : Int) else -1)) := by
  refine CP_X (F := F) (f := 167) rfl rfl ?_
  have c1 : ∀ h, fz h (.fn g [] [.fad (.int .i64 c)]) = some (.fn g [] [.fad (.int .i64 c)]) := fun _ => rfl
  have c2 : ∀ h, used h deep (.fn g [] [.fad (.int .i64 c)]) = [] := fun _ => rfl
  have c3 : ∀ h, fz h (.fad (.int .i64 c)) = some (.fad (.int .i64 c)) := fun _ => rfl
  have c4 : ∀ h, used h deep (.fad (.int .i64 c)) = [] := fun _ => rfl
  refine go3 ?_
  refine X_upto t.length (fun i s => ∃ j4 j5 j9 j16 g', (∀ j, j < i → p (t.getD j default) = false) ∧ s = ⟨[(0, eTZ t), (1, .fn g [] [.fad (.int .i64 c)]), (4, j4), (5, j5), (7, eI t.length), (8, eI i), (9, j9), (16, j16)], g'⟩) ?_ 0 (Nat.zero_le _) _ ⟨_, _, _, _, _, fun j hj => by omega, rfl⟩
  rintro i s hi ⟨j4, j5, j9, j16, g', hall, rfl⟩ rec
  by_cases hlt : i < t.length
  · have hlt2 := lt_c hlt
    have g1 := em_getN (f := eRZ) t i hlt
    have hc := hg _ (getD_mem (l := t) (i := i) hlt)
    cases hp : p (t.getD i default) with
    | true =>
      rw [findIdx_spec hlt hp hall, if_pos hlt]
      rw [hp] at hc
      clear hall hg rec hi hp
      refine go3 ?_
      trivial
    | false =>
      rw [hp] at hc
      have hnext : ∀ j, j < i + 1 → p (t.getD j default) = false := fun j hj => by
        rcases Nat.lt_or_ge j i with h | h
        · exact hall j h
        · have : j = i := by omega
          subst this; exact hp
      have hw := i64_nat (n := i) (by omega)
      clear hall hg hp
      refine go3 ?_
      exact rec _ hlt ⟨_, _, _, _, _, hnext, rfl⟩
  · have hl3 : ¬ ((i : Int) < (t.length : Int)) := by omega
    have he := findIdx_none (l := t) (p := p) fun j hj => hall j (by omega)
    rw [if_neg he]
    clear hall hg rec he
    refine go3 ?_
    trivial
theorem z_ContainsRow {t : List (List Int)} {g : Nat} {c : Int} {p : List Int → Bool} (hl : t.length ≤ 1000000) (hg : ∀ x ∈ t, CP (CL F) g [eRZ x, .fad (.int .i64 c)] = some (.bool (p x))) :
    CP (CL F) 152 [eTZ t, .fn g [] [.fad (.int .i64 c)]] = some (.bool (t.any p)) := by
  refine CP_X (F := F) (f := 152) rfl rfl ?_
  have c1 : ∀ h, fz h (.fn g [] [.fad (.int .i64 c)]) = some (.fn g [] [.fad (.int .i64 c)]) := fun _ => rfl
  have c2 : ∀ h, used h deep (.fn g [] [.fad (.int .i64 c)]) = [] := fun _ => rfl
  have h1 := z_IndexRow hl hg
  clear hg
  by_cases h : t.findIdx p < t.length
  · have ha : t.any p = true := by
      rw [List.any_eq_true]
      rw [List.findIdx_lt_length] at h
      exact h
    rw [if_pos h] at h1
    rw [ha]
    have h2 : (0 : Int) ≤ (t.findIdx p : Int) := by omega
    clear ha h
    refine go3 ?_
    trivial
  · have ha : t.any p = false := by
      rw [← Bool.not_eq_true, List.any_eq_true, ← List.findIdx_lt_length]
      exact h
    rw [if_neg h] at h1
    rw [ha]
    clear ha h
    refine go3 ?_
    trivial
end Go.S

end
section
set_option linter.unusedVariables false
set_option linter.unusedSimpArgs false
set_option maxRecDepth 100000
namespace Go.S
open Go Go.AM Go.RowKit Go.K
theorem s_whole_Sub {x y : Int} (h1 : L x < 500000000) (h2 : L y < 500000000) : CP (CL F) 168 [eZ x, eZ y] = some (eZ (x - y)) := by
  refine CP_X (F := F) (f := 168) rfl rfl ?_
  have k1 := s_whole_Neg (z := y) (by omega)
  have k2 := s_whole_Add (x := x) (y := -y) (by omega) (by rw [L_neg]; omega)
  rw [← Int.sub_eq_add_neg] at k2
  clear h1 h2
  refine go3 ?_
  trivial
theorem s_divide_Exact {x y q : Int} (hx : 0 ≤ x) (hy : 0 < y) (hq : y * q = x) (h1 : L x < 1000000000) (h2 : L y < 1000000000) : CP (CL F) 95 [eN x, eN y] = some (.tup [eN q, eI 0]) := by
  refine ev_cp (exact_ev (x := x) (y := y) hx (by omega) (by rw [L_nat hx]; exact h1) (by rw [L_nat (x := y) (by omega)]; exact h2)) fun _ h => ?_
  have e := e_divide_Exact h
  have hr : exactR x y = (dg B q, 0) := by
    have a1 : x / y = q := by rw [← hq]; exact Int.mul_ediv_cancel_left q (by omega)
    have a2 : x % y = 0 := by rw [← hq]; exact Int.mul_emod_right y q
    unfold exactR
    rw [if_neg (by omega), if_pos a2, a1]
  rw [hr] at e
  exact e
theorem L_ab (x : Int) : L (ab x) = L x := by unfold L; rw [ab_of_nonneg (ab_nonneg x)]
theorem s_whole_Exact {x y q : Int} (hy : y ≠ 0) (hq : y * q = x) (h1 : L x < 1000000000) (h2 : L y < 1000000000) : CP (CL F) 169 [eZ x, eZ y] = some (.tup [eZ q, eI 0]) := by
  refine CP_X (F := F) (f := 169) rfl rfl ?_
  have hq2 : ab y * ab q = ab x := by rw [← ab_mul, hq]
  have k1 := s_divide_Exact (x := ab x) (y := ab y) (q := ab q) (ab_nonneg x) (by unfold ab; omega) hq2 (by rw [L_ab]; exact h1) (by rw [L_ab]; exact h2)
  have hl : L q ≤ L x := L_fac hy hq
  have hs : sg (decide (x < 0) != decide (y < 0)) (ab q) = q := by
    subst hq
    rcases Int.lt_trichotomy q 0 with h | h | h
    · rcases Int.lt_or_gt_of_ne hy with g | g
      · have a := Int.mul_pos_of_neg_of_neg g h
        rw [decide_eq_false (by omega), decide_eq_true g]; show -ab q = q; unfold ab; omega
      · have a := Int.mul_neg_of_pos_of_neg g h
        rw [decide_eq_true a, decide_eq_false (by omega)]; show -ab q = q; unfold ab; omega
    · subst h; unfold sg; split <;> rfl
    · rcases Int.lt_or_gt_of_ne hy with g | g
      · have a := Int.mul_neg_of_neg_of_pos g h
        rw [decide_eq_true a, decide_eq_true g]; show ab q = q; unfold ab; omega
      · have a := Int.mul_pos g h
        rw [decide_eq_false (by omega), decide_eq_false (by omega)]; show ab q = q; unfold ab; omega
  have k2 := s_whole_Made (decide (x < 0) != decide (y < 0)) (n := ab q) (ab_nonneg q) (by rw [L_ab]; omega)
  rw [hs] at k2
  clear hy hq h1 h2 hq2 hl hs
  refine go3 ?_
  trivial
abbrev aB (tb : AV) (pv : Int) (neg : Bool) : AV := .agg [tb, .bool (decide (pv < 0)), eN (ab pv), .bool neg]
structure WB (n c : Nat) (Z : Zt) (neg : Bool) (pv : Int) (G : Heap) (key : Nat → Nat) (vt b : Nat) : Prop where
  work : G[0]? = some (some ⟨0, 4, [aB (.ref (b + 3) vt 1 0 n) pv neg]⟩)
  tab : G[3]? = some (some ⟨vt, 1, rwg n fun i => .ref (b + key i) 0 2 0 c⟩)
  row : ∀ i, i < n → G[key i]? = some (some ⟨0, 2, em eZ (rwg c (Z i))⟩)
  ne : ∀ i, i < n → key i ≠ 0 ∧ key i ≠ 3
  inj : ∀ i j, i < n → j < n → key i = key j → i = j
theorem app_get {G : Heap} {i : Nat} {x : Option Blk} (h : G[i]? = some x) (l : Heap) : (G ++ l)[i]? = some x := by
  rw [List.getElem?_append_left (List.getElem?_eq_some_iff.1 h).1]; exact h
theorem app_set {G : Heap} {i : Nat} {x : Option Blk} (h : G[i]? = some x) (l : Heap) (y : Option Blk) : (G ++ l).set i y = G.set i y ++ l := List.set_append_left _ _ (List.getElem?_eq_some_iff.1 h).1
theorem WB.grow {n c : Nat} {Z : Zt} {neg : Bool} {pv : Int} {G : Heap} {key : Nat → Nat} {vt b : Nat} (H : WB n c Z neg pv G key vt b) (l : Heap) : WB n c Z neg pv (G ++ l) key vt b :=
  ⟨app_get H.work l, app_get H.tab l, fun i hi => app_get (H.row i hi) l, H.ne, H.inj⟩
theorem WB.putrow {n c : Nat} {Z : Zt} {neg : Bool} {pv : Int} {G : Heap} {key : Nat → Nat} {vt b : Nat} (H : WB n c Z neg pv G key vt b) {i : Nat} (hi : i < n) (f : Nat → Int) : WB n c (setg Z i f) neg pv (G.set (key i) (some ⟨0, 2, em eZ (rwg c f)⟩)) key vt b := by
  have ne := H.ne i hi
  have lt := (List.getElem?_eq_some_iff.1 (H.row i hi)).1
  refine ⟨?_, ?_, fun j hj => ?_, H.ne, H.inj⟩
  · rw [List.getElem?_set_ne ne.1]; exact H.work
  · rw [List.getElem?_set_ne ne.2]; exact H.tab
  · unfold setg
    by_cases e : j = i
    · subst e
      rw [if_pos rfl, List.getElem?_set_self lt]
    · rw [if_neg e, List.getElem?_set_ne fun h => e (H.inj i j hi hj h).symm]
      exact H.row j hj
theorem WB.congr {n c : Nat} {Z Z' : Zt} {neg : Bool} {pv : Int} {G : Heap} {key : Nat → Nat} {vt b : Nat} (H : WB n c Z neg pv G key vt b) (h : ∀ i, i < n → ∀ j, j < c → Z' i j = Z i j) : WB n c Z' neg pv G key vt b :=
  ⟨H.work, H.tab, fun i hi => by rw [rwg_congr (h i hi)]; exact H.row i hi, H.ne, H.inj⟩
theorem s_row {n c : Nat} {Z : Zt} {neg : Bool} {pv : Int} {h0 G : Heap} {key : Nat → Nat} {vt : Nat} (H : WB n c Z neg pv G key vt h0.length) {i k : Nat} (hi : i < n) (hk : k < n) (hik : i ≠ k) (hkc : k < c) (hn : n ≤ 1000000) (hc : c ≤ 1000000) {Q : Nat} (hQ : Q < 100000000)
    (hZi : ∀ j, j < c → L (Z i j) ≤ Q) (hZk : ∀ j, j < c → L (Z k j) ≤ Q) (hpv : pv ≠ 0) (hpl : L pv ≤ Q) {R : Nat → Int} (hR : ∀ j, j < c → pv * R j = Z k k * Z i j - Z i k * Z k j) :
    ∃ x, CL F 157 [.ptr h0.length 0 0 0, eI i, eI k] (h0 ++ G) = some x ∧ ∃ G', x = (.tup [], h0 ++ G') ∧ WB n c (setg Z i R) neg pv G' key vt h0.length := by
  refine CL_XE (F := F) (f := 157) rfl rfl ?_
  have w1 := H.work
  have w2 := H.tab
  have ri := H.row i hi
  have rk := H.row k hk
  have t1 := rwg_getE (f := fun i => AV.ref (h0.length + key i) 0 2 0 c) hi
  have t2 := rwg_getE (f := fun i => AV.ref (h0.length + key i) 0 2 0 c) hk
  have q1 := em_getN (f := eZ) (rwg c (Z i)) k (by rw [rwg_len]; exact hkc)
  have q2 := em_getN (f := eZ) (rwg c (Z k)) k (by rw [rwg_len]; exact hkc)
  rw [rwg_get hkc] at q1 q2
  have c1 := lt_c hi
  have c2 := lt_c hk
  have c3 := lt_c hkc
  have a1 := app_get w1
  have a2 := app_get w2
  have ai := app_get ri
  have ak := app_get rk
  refine go3 ?_
  clear w1 w2 ri rk q1 q2 c1 c3 a1 a2 ai ak
  refine X_up c (fun j s => ∃ j8 j9 j39 G1 g', WB n c (setg Z i fun y => if y < j then R y else Z i y) neg pv G1 key vt h0.length ∧ G.length = G1.length ∧ s = ⟨[(0, .ptr h0.length 0 0 0), (1, eI i), (2, eI k), (6, .ptr (h0.length + G.length) 0 0 0), (7, .ptr (h0.length + (G.length + 1)) 0 0 0), (8, j8), (9, j9), (37, eI c), (38, eI j), (39, j39)], h0 ++ (G1 ++ (some ⟨0, 2, [eZ (Z k k)]⟩ :: some ⟨0, 2, [eZ (Z i k)]⟩ :: g'))⟩) ?_ ?_ 0 (Nat.zero_le _) _ ⟨_, _, _, G, [], by
      have e : (setg Z i fun y => if y < 0 then R y else Z i y) = Z := by
        funext a b
        unfold setg
        split
        · next h => subst h; exact if_neg (Nat.not_lt_zero b)
        · rfl
      rw [e]; exact H, rfl, rfl⟩
  · rintro j s hj ⟨j8, j9, j39, G1, g', H1, hG, rfl⟩ rec
    have s1 : (rwg c fun y => if y < j then R y else Z i y).set j (R j) = rwg c fun y => if y < j + 1 then R y else Z i y := by
      rw [rwg_set hj]
      refine rwg_congr fun y hy => ?_
      by_cases e : y = j
      · rw [if_pos e, if_pos (by omega), e]
      · rw [if_neg e]
        by_cases e2 : y < j
        · rw [if_pos e2, if_pos (by omega)]
        · rw [if_neg e2, if_neg (by omega)]
    have w1 := H1.work
    have w2 := H1.tab
    have ri := H1.row i hi
    have rk := H1.row k hk
    have H2 := H1.putrow hi fun y => if y < j + 1 then R y else Z i y
    have hs2 : setg (setg Z i fun y => if y < j then R y else Z i y) i (fun y => if y < j + 1 then R y else Z i y) = setg Z i fun y => if y < j + 1 then R y else Z i y := by
      funext a
      unfold setg
      split <;> rfl
    rw [hs2] at H2
    have e1 : setg Z i (fun y => if y < j then R y else Z i y) i = fun y => if y < j then R y else Z i y := if_pos rfl
    have e2 : setg Z i (fun y => if y < j then R y else Z i y) k = Z k := if_neg (Ne.symm hik)
    rw [e1] at ri
    rw [e2] at rk
    have q1 := em_getN (f := eZ) (rwg c fun y => if y < j then R y else Z i y) j (by rw [rwg_len]; exact hj)
    have q2 := em_getN (f := eZ) (rwg c (Z k)) j (by rw [rwg_len]; exact hj)
    rw [rwg_get hj] at q1 q2
    rw [if_neg (Nat.lt_irrefl j)] at q1
    have c1 := lt_c hi
    have c2 := lt_c hk
    have c3 := lt_c hj
    have a1 := app_get w1
    have a2 := app_get w2
    have ai := app_get ri
    have ak := app_get rk
    have asx := app_set ri
    have rl1 := rwg_len c fun y => if y < j then R y else Z i y
    have rl2 := rwg_len c (Z k)
    have b1 := hZi j hj
    have b2 := hZk j hj
    have b3 := hZi k hkc
    have b4 := hZk k hkc
    have m1 := s_whole_Mul (x := Z k k) (y := Z i j) (by omega) (by omega)
    have m2 := s_whole_Mul (x := Z i k) (y := Z k j) (by omega) (by omega)
    have l1 := L_mul (Z k k) (Z i j)
    have l2 := L_mul (Z i k) (Z k j)
    have l3 := L_sub (Z k k * Z i j) (Z i k * Z k j)
    have m3 := s_whole_Sub (x := Z k k * Z i j) (y := Z i k * Z k j) (by omega) (by omega)
    have m4 := s_whole_Exact hpv (hR j hj) (by omega) (by omega)
    have hj6 : j < 9223372036854775807 := by omega
    rw [hG] at rec ⊢
    have hgl : (G1.set (key i) (some ⟨0, 2, em eZ (rwg c fun y => if y < j + 1 then R y else Z i y)⟩)).length = G1.length := List.length_set
    generalize (rwg c fun y => if y < j then R y else Z i y) = Ri at *
    generalize (rwg c fun y => if y < j + 1 then R y else Z i y) = Ri' at *
    generalize rwg c (Z k) = Rk at *
    generalize R j = v at *
    generalize Z k j = z4 at *
    generalize Z i j = z3 at *
    generalize Z k k = z1 at *
    generalize Z i k = z2 at *
    have hw := i64_nat hj6
    clear hZi hZk hR b1 b2 b3 b4 l1 l2 l3 hpv hpl hs2 e1 e2 H H1 hik hG
    refine go3 ?_
    exact rec _ ⟨_, _, _, _, _, H2, hgl.symm, rfl⟩
  · rintro s ⟨j8, j9, j39, G1, g', H1, hG, rfl⟩
    have hlt : ¬ ((c : Int) < (c : Int)) := nlt_c
    have H2 := (H1.congr (Z' := setg Z i R) fun a ha y hy => by
      unfold setg
      split
      · exact (if_pos hy).symm
      · rfl).grow (some ⟨0, 2, [eZ (Z k k)]⟩ :: some ⟨0, 2, [eZ (Z i k)]⟩ :: g')
    clear hZi hZk hR H H1
    refine go3 ?_
    exact ⟨_, rfl, _, rfl, H2⟩
end Go.S

end
section
set_option linter.unusedVariables false
set_option linter.unusedSimpArgs false
set_option maxRecDepth 100000
namespace Go.S
open Go Go.AM Go.RowKit Go.K
def key0 (i : Nat) : Nat := if i = 0 then 1 else 2 * i + 2
theorem WB.snoc {i c : Nat} {Z : Zt} {neg : Bool} {pv : Int} {G : Heap} {v b : Nat} (H : WB i c Z neg pv G key0 v b) (hl : G.length = 2 * i + 2) (hi : 0 < i) (y : Option Blk) :
    WB (i + 1) c Z neg pv ((G.set 3 (some ⟨v + 1, 1, rwg (i + 1) fun i => .ref (b + key0 i) 0 2 0 c⟩)).set 0 (some ⟨0, 4, [aB (.ref (b + 3) (v + 1) 1 0 (i + 1)) pv neg]⟩) ++ [some ⟨0, 2, em eZ (rwg c (Z i))⟩, y]) key0 (v + 1) b := by
  have l0 : 0 < G.length := by omega
  have ne : ∀ j, j < i + 1 → key0 j ≠ 0 ∧ key0 j ≠ 3 := fun j hj => by unfold key0; split <;> omega
  refine ⟨app_get ?_ _, app_get ?_ _, fun j hj => ?_, ne, fun a b ha hb h => ?_⟩
  · rw [List.getElem?_set_self (by rw [List.length_set]; exact l0)]
  · rw [List.getElem?_set_ne (by omega), List.getElem?_set_self (by omega)]
  · by_cases e : j = i
    · subst e
      have : key0 j = ((G.set 3 (some ⟨v + 1, 1, rwg (j + 1) fun i => .ref (b + key0 i) 0 2 0 c⟩)).set 0 (some ⟨0, 4, [aB (.ref (b + 3) (v + 1) 1 0 (j + 1)) pv neg]⟩)).length := by
        rw [List.length_set, List.length_set, hl]
        unfold key0
        rw [if_neg (by omega)]
      rw [this, get_app0]
      rfl
    · refine app_get ?_ _
      have := ne j hj
      rw [List.getElem?_set_ne (Ne.symm this.1), List.getElem?_set_ne (Ne.symm this.2)]
      exact H.row j (by omega)
  · unfold key0 at h
    split at h <;> split at h <;> omega
theorem WB.one (c : Nat) (Z : Zt) (b : Nat) : WB 1 c Z false 1 [some ⟨0, 4, [.agg [.ref (b + 3) 0 1 0 1, .bool false, eN (ab 1), .bool false]]⟩, some ⟨0, 2, em eZ (rwg c (Z 0))⟩, some ⟨0, 1, [.ref (b + 1) 0 2 0 c]⟩, some ⟨0, 1, [.ref (b + 1) 0 2 0 c]⟩] key0 0 b :=
  ⟨rfl, rfl, fun i hi => by
    obtain rfl : i = 0 := by omega
    rfl, fun i hi => by
    obtain rfl : i = 0 := by omega
    exact ⟨by decide, by decide⟩, fun i j hi hj _ => by omega⟩
theorem s_zbegin {n c : Nat} {Z : Zt} (hn : 0 < n) (hn2 : n ≤ 1000) (hc0 : 0 < c) (hc : c ≤ 1000) (h0 : Heap) :
    ∃ x, CL F 132 [eTZ (tbg n c Z)] h0 = some x ∧ ∃ G key vt, x = (.ptr h0.length 0 0 0, h0 ++ G) ∧ WB n c Z false 1 G key vt h0.length := by
  refine CL_XE (F := F) (f := 132) rfl rfl ?_
  have h3 := s_whole_Of (a := 1) (by decide) (by decide)
  have hlt0 : ((0 : Int) < (n : Int)) := by omega
  have gi : ∀ i, i < n → (em eRZ (tbg n c Z))[i]? = some (eRZ (rwg c (Z i))) := fun i hi => by
    have := em_getN (f := eRZ) (tbg n c Z) i (by rw [tbg_len]; exact hi)
    rwa [tbg_get hi] at this
  have ki : ∀ i h, cloneA (CL F) 155 (eRZ (rwg c (Z i))) h = some (.ref h.length 0 2 0 c, h ++ [some ⟨0, 2, em eZ (rwg c (Z i))⟩]) := fun i h => by
    have := z_clone' (l := rwg c (Z i)) (by rw [rwg_len]; omega) h (fun e => by have := rwg_len c (Z i); rw [e] at this; simp at this; omega)
    rwa [rwg_len] at this
  have g0 := gi 0 hn
  have k0 := fun h => ki 0 h
  have tl := tbg_len n c Z
  have hw1 : wrap64 (0 + 1) = 1 := by rw [show (0 : Int) + 1 = 1 from rfl, w64 (by omega) (by omega)]
  have e0 : (1 : Int) < 0 ↔ False := by simp
  generalize tbg n c Z = t at *
  refine go3 ?_
  refine X_round ?_
  refine go3 ?_
  refine X_up n (fun i s => 1 ≤ i ∧ ∃ j5 j12 v G, WB i c Z false 1 G key0 v h0.length ∧ G.length = 2 * i + 2 ∧ s = ⟨[(0, eTZ t), (2, .nilp), (3, .ptr h0.length 0 0 0), (5, j5), (9, eTZ t), (10, eI n), (11, eI i), (12, j12)], h0 ++ G⟩) ?_ ?_ 1 hn _ ⟨Nat.le_refl 1, _, _, _, _, WB.one c Z h0.length, rfl, rfl⟩
  · rintro i s hi ⟨hi1, j5, j12, v, G, H, hG, rfl⟩ rec
    have hlt := lt_c hi
    have g1 := gi i hi
    have k1 := fun h => ki i h
    have w1 := H.work
    have w2 := H.tab
    have a1 := app_get w1
    have a2 := app_get w2
    have as2 := app_set w2
    have l0 : 0 < G.length := by omega
    have b1 : ∀ y l, (G.set 3 y ++ l)[0]? = some (some ⟨0, 4, [aB (.ref (h0.length + 3) v 1 0 i) 1 false]⟩) := fun y l => app_get (by rw [List.getElem?_set_ne (by omega)]; exact w1) l
    have b2 : ∀ y z l, (G.set 3 y ++ l).set 0 z = (G.set 3 y).set 0 z ++ l := fun y z l => app_set (by rw [List.getElem?_set_ne (by omega)]; exact w1) l z
    have sn : rwg i (fun i => AV.ref (h0.length + key0 i) 0 2 0 c) ++ [.ref (h0.length + G.length) 0 2 0 c] = rwg (i + 1) fun i => .ref (h0.length + key0 i) 0 2 0 c := by
      rw [← rwg_snoc, hG]
      have : key0 i = 2 * i + 2 := by unfold key0; rw [if_neg (by omega)]
      rw [this]
    have sb : sub (rwg i fun i => AV.ref (h0.length + key0 i) 0 2 0 c) 0 i = rwg i fun i => .ref (h0.length + key0 i) 0 2 0 c := by
      unfold sub
      rw [List.drop_zero]
      exact List.take_of_length_le (by rw [rwg_len]; omega)
    have H2 := H.snoc hG (by omega) (some ⟨0, 1, [.ref (h0.length + G.length) 0 2 0 c]⟩)
    have hlim : i < 5864062014805 := by omega
    have hi6 : i < 9223372036854775807 := by omega
    have hG2 : ∀ y z l, (((G.set 3 y).set 0 z) ++ l).length = G.length + l.length := fun y z l => by simp
    clear gi ki k0 g0 H hi1
    generalize (rwg i fun i => AV.ref (h0.length + key0 i) 0 2 0 c) = T at *
    generalize (rwg (i + 1) fun i => AV.ref (h0.length + key0 i) 0 2 0 c) = T' at *
    generalize rwg c (Z i) = Ri at *
    have hw := i64_nat hi6
    replace hG := eq_true hG
    refine go3 ?_
    exact rec _ ⟨by omega, _, _, _, _, H2, by rw [hG2, of_eq_true hG]; simp; omega, rfl⟩
  · rintro s ⟨hi1, j5, j12, v, G, H, hG, rfl⟩
    have hlt : ¬ ((n : Int) < (n : Int)) := nlt_c
    clear gi ki k0 g0 hG
    refine go3 ?_
    exact ⟨_, rfl, _, _, _, rfl, H⟩
theorem WB.swap {n c : Nat} {Z : Zt} {neg : Bool} {pv : Int} {G : Heap} {key : Nat → Nat} {v b : Nat} (H : WB n c Z neg pv G key v b) {k r : Nat} (hk : k < n) (hr : r < n) (neg' : Bool) :
    WB n c (swz Z k r) neg' pv ((G.set 3 (some ⟨v, 1, ((rwg n fun i => .ref (b + key i) 0 2 0 c).set r (.ref (b + key k) 0 2 0 c)).set k (.ref (b + key r) 0 2 0 c)⟩)).set 0 (some ⟨0, 4, [aB (.ref (b + 3) v 1 0 n) pv neg']⟩)) (fun j => key (if j = k then r else if j = r then k else j)) v b := by
  have l0 := (List.getElem?_eq_some_iff.1 H.work).1
  have l3 := (List.getElem?_eq_some_iff.1 H.tab).1
  have sl : ∀ j, j < n → (if j = k then r else if j = r then k else j) < n := fun j hj => by split <;> (try split) <;> omega
  refine ⟨?_, ?_, fun j hj => ?_, fun j hj => H.ne _ (sl j hj), fun i j hi hj h => ?_⟩
  · rw [List.getElem?_set_self (by rw [List.length_set]; exact l0)]
  · rw [List.getElem?_set_ne (by omega), List.getElem?_set_self l3, rwg_set hr, rwg_set hk]
    congr 4
    funext j
    by_cases e1 : j = k
    · rw [if_pos e1, if_pos e1]
    · rw [if_neg e1, if_neg e1]
      by_cases e2 : j = r
      · rw [if_pos e2, if_pos e2]
      · rw [if_neg e2, if_neg e2]
  · have ne := H.ne _ (sl j hj)
    rw [List.getElem?_set_ne (Ne.symm ne.1), List.getElem?_set_ne (Ne.symm ne.2)]
    exact H.row _ (sl j hj)
  · have := H.inj _ _ (sl i hi) (sl j hj) h
    split at this <;> split at this <;> (try split at this) <;> (try split at this) <;> omega
theorem sgn_zero {z : Int} : sgn z = 0 ↔ z = 0 := by unfold sgn; split <;> (try split) <;> omega
theorem s_pivot {n c : Nat} {Z : Zt} {neg : Bool} {pv : Int} {h0 G : Heap} {key : Nat → Nat} {vt : Nat} (H : WB n c Z neg pv G key vt h0.length) {k r : Nat} (hk : k < n) (hkc : k < c) (hn : n ≤ 1000000) (kr : k ≤ r) (rn : r < n)
    (hz : ∀ i, k ≤ i → i < r → Z i k = 0) (hp : Z r k ≠ 0) :
    ∃ x, CL F 156 [.ptr h0.length 0 0 0, eI k] (h0 ++ G) = some x ∧ ∃ G' key', x = (.bool true, h0 ++ G') ∧ WB n c (swz Z k r) (if k = r then neg else !neg) pv G' key' vt h0.length := by
  refine CL_XE (F := F) (f := 156) rfl rfl ?_
  have w1 := H.work
  have w2 := H.tab
  refine go3 ?_
  refine X_upto (r - k) (fun i s => ∃ j13 j27 j30, s = ⟨[(0, .ptr h0.length 0 0 0), (1, eI k), (4, .bool false), (5, eI (k + i : Nat)), (13, j13), (27, j27), (30, j30)], h0 ++ G⟩) ?_ 0 (Nat.zero_le _) _ ⟨_, _, _, rfl⟩
  rintro i s hi ⟨j13, j27, j30, rfl⟩ rec
  have hin : k + i < n := by omega
  have ri := H.row (k + i) hin
  have t1 := rwg_getE (f := fun i => AV.ref (h0.length + key i) 0 2 0 c) hin
  have q1 := em_getN (f := eZ) (rwg c (Z (k + i))) k (by rw [rwg_len]; exact hkc)
  rw [rwg_get hkc] at q1
  have c1 := lt_c hin
  have c2 := lt_c hk
  have c3 := lt_c hkc
  have sg := s_whole_Sign (Z (k + i) k)
  by_cases e : i < r - k
  · have z : Z (k + i) k = 0 := hz (k + i) (by omega) (by omega)
    have z2 : sgn (Z (k + i) k) = 0 := sgn_zero.2 z
    rw [z2] at sg
    have hw : wrap64 (((k + i : Nat) : Int) + 1) = ((k + (i + 1) : Nat) : Int) := i64_nat (by omega)
    generalize rwg c (Z (k + i)) = Ri at *
    generalize Z (k + i) k = y at *
    generalize k + i = ki at *
    clear hz hp z z2 hi H
    refine go3 ?_
    exact rec _ e ⟨_, _, _, rfl⟩
  · have hik : k + i = r := by omega
    have z : sgn (Z (k + i) k) ≠ 0 := by rw [hik]; exact fun h => hp (sgn_zero.1 h)
    rw [hik] at ri t1 q1 c1 sg z
    rw [hik]
    have z3 : ¬ (sgn (Z r k) = 0) := z
    by_cases ekr : k = r
    · subst ekr
      rw [if_pos rfl, swz_self]
      have c4 : ¬ ((k : Int) ≠ (k : Int)) := by omega
      clear hz hp rec hi z e
      refine go3 ?_
      exact ⟨_, rfl, _, _, rfl, H⟩
    · rw [if_neg ekr]
      have c4 : ((r : Int) ≠ (k : Int)) := by omega
      have c5 : ¬ ((r : Int) = (k : Int)) := by omega
      have t2 := rwg_getE (f := fun i => AV.ref (h0.length + key i) 0 2 0 c) hk
      have H2 := H.swap hk rn (!neg)
      have l0 := (List.getElem?_eq_some_iff.1 w1).1
      have l3 := (List.getElem?_eq_some_iff.1 w2).1
      have b1 : ∀ y, (G.set 3 y)[0]? = some (some ⟨0, 4, [aB (.ref (h0.length + 3) vt 1 0 n) pv neg]⟩) := fun y => by rw [List.getElem?_set_ne (by omega)]; exact w1
      have b3 : ∀ y, (G.set 3 y)[3]? = some y := fun y => List.getElem?_set_self l3
      have b4 : ∀ y z, (G.set 3 y).set 3 z = G.set 3 z := fun y z => List.set_set ..
      have tl := rwg_len n fun i => AV.ref (h0.length + key i) 0 2 0 c
      have b5 : ((rwg n fun i => AV.ref (h0.length + key i) 0 2 0 c).set r (.ref (h0.length + key k) 0 2 0 c))[k]? = some (.ref (h0.length + key k) 0 2 0 c) := by
        rw [List.getElem?_set_ne (Ne.symm ekr)]; exact t2
      generalize (rwg n fun i => AV.ref (h0.length + key i) 0 2 0 c) = T at *
      clear hz hp rec hi z e H hik
      refine go3 ?_
      exact ⟨_, rfl, _, _, rfl, H2⟩
theorem s_pivot0 {n c : Nat} {Z : Zt} {neg : Bool} {pv : Int} {h0 G : Heap} {key : Nat → Nat} {vt : Nat} (H : WB n c Z neg pv G key vt h0.length) {k : Nat} (hk : k < n) (hkc : k < c) (hn : n ≤ 1000000)
    (hz : ∀ i, k ≤ i → i < n → Z i k = 0) : CL F 156 [.ptr h0.length 0 0 0, eI k] (h0 ++ G) = some (.bool false, h0 ++ G) := by
  refine CL_X (F := F) (f := 156) rfl rfl ?_
  have w1 := H.work
  have w2 := H.tab
  refine go3 ?_
  refine X_up (n - k) (fun i s => ∃ j13 j27 j30, s = ⟨[(0, .ptr h0.length 0 0 0), (1, eI k), (4, .bool false), (5, eI (k + i : Nat)), (13, j13), (27, j27), (30, j30)], h0 ++ G⟩) ?_ ?_ 0 (Nat.zero_le _) _ ⟨_, _, _, rfl⟩
  · rintro i s hi ⟨j13, j27, j30, rfl⟩ rec
    have hin : k + i < n := by omega
    have ri := H.row (k + i) hin
    have t1 := rwg_getE (f := fun i => AV.ref (h0.length + key i) 0 2 0 c) hin
    have q1 := em_getN (f := eZ) (rwg c (Z (k + i))) k (by rw [rwg_len]; exact hkc)
    rw [rwg_get hkc] at q1
    have c1 := lt_c hin
    have c3 := lt_c hkc
    have sg := s_whole_Sign (Z (k + i) k)
    have z : Z (k + i) k = 0 := hz (k + i) (by omega) (by omega)
    have z2 : sgn (Z (k + i) k) = 0 := sgn_zero.2 z
    rw [z2] at sg
    have hw : wrap64 (((k + i : Nat) : Int) + 1) = ((k + (i + 1) : Nat) : Int) := i64_nat (by omega)
    generalize rwg c (Z (k + i)) = Ri at *
    generalize Z (k + i) k = y at *
    generalize k + i = ki at *
    clear hz z z2 hi H
    refine go3 ?_
    exact rec _ ⟨_, _, _, rfl⟩
  · rintro s ⟨j13, j27, j30, rfl⟩
    have e : k + (n - k) = n := by omega
    rw [e]
    have hlt : ¬ ((n : Int) < (n : Int)) := nlt_c
    clear hz H e
    refine go3 ?_
    trivial
end Go.S

end
section
set_option linter.unusedVariables false
set_option linter.unusedSimpArgs false
set_option maxRecDepth 100000
namespace Go.S
open Go Go.AM Go.RowKit Go.K
theorem WB.setpv {n c : Nat} {Z : Zt} {neg : Bool} {pv : Int} {G : Heap} {key : Nat → Nat} {v b : Nat} (H : WB n c Z neg pv G key v b) (pv' : Int) : WB n c Z neg pv' (G.set 0 (some ⟨0, 4, [aB (.ref (b + 3) v 1 0 n) pv' neg]⟩)) key v b := by
  have l0 := (List.getElem?_eq_some_iff.1 H.work).1
  refine ⟨List.getElem?_set_self l0, ?_, fun i hi => ?_, H.ne, H.inj⟩
  · rw [List.getElem?_set_ne (by omega)]; exact H.tab
  · rw [List.getElem?_set_ne (Ne.symm (H.ne i hi).1)]; exact H.row i hi
theorem WB.eqs {n c : Nat} {Z Z' : Zt} {neg : Bool} {pv : Int} {G : Heap} {key : Nat → Nat} {vt b : Nat} (H : WB n c Z neg pv G key vt b) (h : ∀ i, i < n → Z' i = Z i) : WB n c Z' neg pv G key vt b :=
  H.congr fun i hi j _ => by rw [h i hi]
def mixz (k : Nat) (ahead : Bool) (T Z : Zt) (i : Nat) : Zt := fun a => if a < i ∧ a ≠ k ∧ (k < a ∨ ahead = true) then T a else Z a
theorem mixz_zero (k : Nat) (ahead : Bool) (T Z : Zt) : mixz k ahead T Z 0 = Z := by
  funext a
  exact if_neg (by omega)
theorem mixz_k (k : Nat) (ahead : Bool) (T Z : Zt) (i : Nat) : mixz k ahead T Z i k = Z k := if_neg (by omega)
theorem mixz_ge {k : Nat} {ahead : Bool} {T Z : Zt} {i a : Nat} (h : i ≤ a) : mixz k ahead T Z i a = Z a := if_neg (by omega)
theorem mixz_do {k : Nat} {ahead : Bool} {T Z : Zt} {i : Nat} (h : i ≠ k) (h2 : k < i ∨ ahead = true) : setg (mixz k ahead T Z i) i (T i) = mixz k ahead T Z (i + 1) := by
  funext a
  unfold setg mixz
  by_cases e : a = i
  · subst e
    rw [if_pos rfl, if_pos ⟨by omega, h, h2⟩]
  · rw [if_neg e]
    by_cases e2 : a < i ∧ a ≠ k ∧ (k < a ∨ ahead = true)
    · rw [if_pos e2, if_pos ⟨by omega, e2.2⟩]
    · rw [if_neg e2, if_neg fun h3 => e2 ⟨by omega, h3.2⟩]
theorem mixz_skip {k : Nat} {ahead : Bool} {T Z : Zt} {i : Nat} (h : ¬ (i ≠ k ∧ (k < i ∨ ahead = true))) : mixz k ahead T Z (i + 1) = mixz k ahead T Z i := by
  funext a
  unfold mixz
  by_cases e : a = i
  · subst e
    rw [if_neg fun h2 => h h2.2, if_neg fun h2 => h h2.2]
  · by_cases e2 : a < i ∧ a ≠ k ∧ (k < a ∨ ahead = true)
    · rw [if_pos e2, if_pos ⟨by omega, e2.2⟩]
    · rw [if_neg e2, if_neg fun h3 => e2 ⟨by omega, h3.2⟩]
def RunP (n c : Nat) (A : Zt) (ahead : Bool) (h0 : Heap) (x : AV × Heap) : Prop := ∃ G', (zrun n A n = none ∧ x = (.bool false, h0 ++ G')) ∨
      ∃ s, zrun n A n = some s ∧ ∃ Z key' vt', x = (.bool true, h0 ++ G') ∧ WB n c Z s.neg s.pv G' key' vt' h0.length ∧ (ahead = true → ∀ i, i < n → Z i = s.Z i)
set_option maxHeartbeats 1000000
theorem s_zrun {n c K : Nat} {A : Zt} {h0 G : Heap} {key : Nat → Nat} {vt : Nat} (H : WB n c A false 1 G key vt h0.length) (nc : n ≤ c) (hc : c ≤ 1000)
    (hA : ∀ i, i < n → ∀ j, j < c → L (A i j) ≤ K) (hK : 2 ^ n * (K + 2) < 100000000) (ahead : Bool) :
    ∃ x, CL F 133 [.ptr h0.length 0 0 0, .bool ahead] (h0 ++ G) = some x ∧ RunP n c A ahead h0 x := by
  refine CL_XE (F := F) (f := 133) rfl rfl ?_
  have w1 := H.work
  refine go3 ?_
  clear w1
  refine X_up n (fun k s => ∃ j5 j6 j13 j18 j23 j24 j25 j37 G Z key vt zs, (zrun n A k = some zs ∧ WB n c Z zs.neg zs.pv G key vt h0.length ∧ (∀ i, k ≤ i → i < n → Z i = zs.Z i) ∧ (ahead = true → ∀ i, i < n → Z i = zs.Z i)) ∧ s = ⟨[(0, .ptr h0.length 0 0 0), (1, .bool ahead), (4, .bool false), (5, j5), (6, j6), (11, eI n), (12, eI k), (13, j13), (18, j18), (23, j23), (24, j24), (25, j25), (37, j37)], h0 ++ G⟩) ?_ ?_ 0 (Nat.zero_le _) _ ⟨_, _, _, _, _, _, _, _, _, _, _, _, _, ⟨zrun_zero n A, H, fun _ _ _ => rfl, fun _ _ _ => rfl⟩, rfl⟩
  · clear H G key vt
    rintro k s hk ⟨j5, j6, j13, j18, j23, j24, j25, j37, G, Z, key, vt, zs, ⟨hz, H, hlo, hall⟩, rfl⟩ rec
    have hlt := lt_c hk
    have w1 := H.work
    have hk6 : k < 9223372036854775807 := by omega
    obtain ⟨b1, b2⟩ := zrun_size nc hA (by omega) hz
    have hQ : 2 ^ k * (K + 2) ≤ 2 ^ n * (K + 2) := Nat.mul_le_mul_right _ (Nat.pow_le_pow_right (by decide) (by omega))
    generalize 2 ^ k * (K + 2) = Q at *
    generalize 2 ^ n * (K + 2) = QN at *
    rcases zrun_succ hk hz with ⟨r, t, hn, hZ⟩ | ⟨hn, h0z⟩
    · have ZZ := hZ 0
      clear hZ
      have hrn := ZZ.rn
      have hkr := ZZ.kr
      have er : Z r = zs.Z r := hlo r hkr hrn
      obtain ⟨x, p1, G', key', rfl, H'⟩ := s_pivot H hk (by omega) (by omega) hkr hrn (fun i h1 h2 => by rw [hlo i h1 (by omega)]; exact ZZ.z i h1 h2) (by rw [er]; exact ZZ.p)
      rw [← ZZ.neg] at H'
      have ek : swz Z k r k = zs.Z r := by unfold swz; rw [if_pos rfl]; exact er
      have ei : ∀ i, i < n → (k < i ∨ ahead = true) → swz Z k r i = swz zs.Z k r i := fun i hi h => by
        unfold swz
        rcases h with h | h
        · exact hlo _ (by split <;> (try split) <;> omega) (by split <;> (try split) <;> omega)
        · exact hall h _ (by split <;> (try split) <;> omega)
      have w2 := H'.work
      clear H hz
      refine go3 ?_
      clear w1 w2
      refine X_up n (fun i s => ∃ j6 j25 j37 G', WB n c (mixz k ahead t.Z (swz Z k r) i) t.neg zs.pv G' key' vt h0.length ∧ s = ⟨[(0, .ptr h0.length 0 0 0), (1, .bool ahead), (4, .bool false), (5, eI k), (6, j6), (11, eI n), (12, eI k), (13, .bool true), (18, .bool false), (23, eI n), (24, eI i), (25, j25), (37, j37)], h0 ++ G'⟩) ?_ ?_ 0 (Nat.zero_le _) _ ⟨_, _, _, _, by rw [mixz_zero]; exact H', rfl⟩
      · clear p1 H' G'
        rintro i s hi ⟨j6, j25, j37, G', H', rfl⟩ rec2
        have hlt2 := lt_c hi
        have hi6 : i < 9223372036854775807 := by omega
        by_cases hdo : i ≠ k ∧ (k < i ∨ ahead = true)
        · obtain ⟨hik, hd⟩ := hdo
          have mk : mixz k ahead t.Z (swz Z k r) i k = zs.Z r := by rw [mixz_k, ek]
          have mi : mixz k ahead t.Z (swz Z k r) i i = swz zs.Z k r i := by rw [mixz_ge (Nat.le_refl i), ei i hi hd]
          obtain ⟨x, p2, G2, rfl, H2⟩ := s_row H' hi hk hik (by omega) (by omega) (by omega) (Q := Q) (by omega) (fun j hj => by
              rw [mi]
              have := b1 (if i = k then r else if i = r then k else i) (by split <;> (try split) <;> omega) j hj
              show L (zs.Z (if i = k then r else if i = r then k else i) j) ≤ Q
              omega) (fun j hj => by rw [mk]; have := b1 r hrn j hj; omega) ZZ.v (by omega) (R := t.Z i) (fun j hj => by rw [mk, mi]; exact ZZ.d i hi hik j)
          rw [mixz_do hik hd] at H2
          rcases Nat.lt_or_ge k i with hki | hki
          · have c1 : ((k : Int) < (i : Int)) := by omega
            clear H' hd mk mi b1 b2 hn ZZ rec
            have hw := i64_nat hi6
            refine go3 ?_
            exact rec2 _ ⟨_, _, _, _, H2, rfl⟩
          · have ha : ahead = true := by
              rcases hd with h | h
              · omega
              · exact h
            subst ha
            have c1 : ¬ ((k : Int) < (i : Int)) := by omega
            have c2 : ((i : Int) < (k : Int)) := by omega
            clear H' hd mk mi b1 b2 hn ZZ rec
            have hw := i64_nat hi6
            refine go3 ?_
            exact rec2 _ ⟨_, _, _, _, H2, rfl⟩
        · rw [← mixz_skip hdo] at H'
          have c0 : ¬ (k < i) := fun h => hdo ⟨by omega, .inl h⟩
          have c1 : ¬ ((k : Int) < (i : Int)) := by omega
          cases ahead with
          | true =>
            have c3 : ¬ (i < k) := fun h => hdo ⟨by omega, .inr rfl⟩
            have c2 : ¬ ((i : Int) < (k : Int)) := by omega
            clear b1 b2 hn ZZ rec hdo
            have hw := i64_nat hi6
            refine go3 ?_
            exact rec2 _ ⟨_, _, _, _, H', rfl⟩
          | false =>
            clear b1 b2 hn ZZ rec hdo
            have hw := i64_nat hi6
            refine go3 ?_
            exact rec2 _ ⟨_, _, _, _, H', rfl⟩
      · clear p1 H' G'
        rintro s ⟨j6, j25, j37, G', H', rfl⟩
        have hlt2 : ¬ ((n : Int) < (n : Int)) := nlt_c
        have w1 := H'.work
        have w2 := H'.tab
        have rk := H'.row k hk
        have t1 := rwg_getE (f := fun i => AV.ref (h0.length + key' i) 0 2 0 c) hk
        rw [mixz_k, ek] at rk
        have q1 := em_getN (f := eZ) (rwg c (zs.Z r)) k (by rw [rwg_len]; omega)
        rw [rwg_get (by omega), ← ZZ.pv] at q1
        have c3 : ((k : Int) < (c : Int)) := by omega
        have H2 := H'.setpv t.pv
        have lo2 : ∀ i, k + 1 ≤ i → i < n → mixz k ahead t.Z (swz Z k r) n i = t.Z i := fun i h1 h2 => if_pos ⟨h2, by omega, .inl (by omega)⟩
        have all2 : ahead = true → ∀ i, i < n → mixz k ahead t.Z (swz Z k r) n i = t.Z i := fun ha i hi => by
          by_cases e : i = k
          · subst e
            rw [mixz_k, ek]
            funext j
            exact (ZZ.at_ j).symm
          · exact if_pos ⟨hi, e, .inr ha⟩
        clear H' b1 b2 ZZ
        have hw := i64_nat hk6
        refine go3 ?_
        exact rec _ ⟨_, _, _, _, _, _, _, _, _, _, _, _, _, ⟨hn, H2, lo2, all2⟩, rfl⟩
    · have p1 := s_pivot0 H hk (by omega) (by omega) fun i h1 h2 => by rw [hlo i h1 h2]; exact h0z i h1 h2
      have hnone : zrun n A n = none := by
        have := zrun_none_mono hn (n - (k + 1))
        rwa [show k + 1 + (n - (k + 1)) = n by omega] at this
      clear b1 b2 h0z hz H rec
      refine go3 ?_
      exact ⟨_, rfl, _, .inl ⟨hnone, rfl⟩⟩
  · clear H G key vt
    rintro s ⟨j5, j6, j13, j18, j23, j24, j25, j37, G, Z, key, vt, zs, ⟨hz, H, hlo, hall⟩, rfl⟩
    have hlt : ¬ ((n : Int) < (n : Int)) := nlt_c
    clear hA hlo
    refine go3 ?_
    exact ⟨_, rfl, _, .inr ⟨zs, hz, _, _, _, rfl, H, hall⟩⟩
end Go.S

end
section
set_option linter.unusedVariables false
set_option linter.unusedSimpArgs false
set_option maxRecDepth 100000
namespace Go.S
open Go Go.AM Go.RowKit Go.K
theorem s_shaped1 (r : List Int) (c : Int) : CP (CL F) 153 [eRZ r, .fad (.int .i64 c)] = some (.bool (decide ((r.length : Int) ≠ c))) := by
  refine CP_X (F := F) (f := 153) rfl rfl ?_
  have c3 : ∀ h, fz h (.fad (.int .i64 c)) = some (.fad (.int .i64 c)) := fun _ => rfl
  refine go3 ?_
  simp
def shp (t : List (List Int)) (c : Nat) : Bool := decide (t.length ≤ 100) && decide (c ≤ 100) && t.all fun r => decide (r.length = c)
theorem shp_iff {t : List (List Int)} {c : Nat} : shp t c = true ↔ t.length ≤ 100 ∧ c ≤ 100 ∧ ∀ r ∈ t, r.length = c := by
  unfold shp
  simp [and_assoc]
theorem s_shaped {t : List (List Int)} (hl : t.length ≤ 1000000) (c : Nat) : CP (CL F) 130 [eTZ t, eI c] = some (.bool (shp t c)) := by
  refine CP_X (F := F) (f := 130) rfl rfl ?_
  have h1 := z_ContainsRow (t := t) (g := 153) (c := c) hl fun x _ => s_shaped1 x _
  have h2 : t.any (fun x => decide ((x.length : Int) ≠ (c : Int))) = !(t.all fun r => decide (r.length = c)) := by
    rw [List.not_all_eq_any_not]
    congr 1
    funext r
    by_cases h : r.length = c
    · simp [h]
    · simp [h]; omega
  have c5 : ∀ g, fz (some ⟨0, 1, [eI c]⟩ :: g) (.fn 153 [] [.ptr 0 0 0 0]) = some (.fn 153 [] [.fad (eI c)]) := fun _ => rfl
  have c6 : ∀ g, used (some ⟨0, 1, [eI c]⟩ :: g) deep (.fn 153 [] [.ptr 0 0 0 0]) = [0] := fun _ => rfl
  rw [h2] at h1
  clear h2
  unfold shp
  generalize (t.all fun r => decide (r.length = c)) = b at *
  by_cases a1 : t.length ≤ 100
  · have b1 : ((t.length : Int) ≤ 100) := by omega
    have b3 : decide (t.length ≤ 100) = true := decide_eq_true a1
    by_cases a2 : c ≤ 100
    · have b2 : ((c : Int) ≤ 100) := by omega
      have b4 : decide (c ≤ 100) = true := decide_eq_true a2
      cases b with
      | true =>
        rw [Bool.not_true] at h1
        clear a1 a2
        refine go3 ?_
        trivial
      | false =>
        rw [Bool.not_false] at h1
        clear a1 a2
        refine go3 ?_
        trivial
    · have b2 : ¬ ((c : Int) ≤ 100) := by omega
      have b4 : decide (c ≤ 100) = false := decide_eq_false a2
      have b5 : (true && false && b) = false := rfl
      clear a1 a2
      refine go3 ?_
      trivial
  · have b1 : ¬ ((t.length : Int) ≤ 100) := by omega
    have b3 : decide (t.length ≤ 100) = false := decide_eq_false a1
    have b5 : ∀ x, (false && x && b) = false := fun _ => rfl
    clear a1
    refine go3 ?_
    trivial
theorem s_signed {n c : Nat} {Z : Zt} {neg : Bool} {pv : Int} {h0 G : Heap} {key : Nat → Nat} {vt : Nat} {tb : AV} (w1 : G[0]? = some (some ⟨0, 4, [aB tb pv neg]⟩)) {a : Int} (ha : L a < 100000000) :
    CL F 134 [.ptr h0.length 0 0 0, eZ a] (h0 ++ G) = some (eZ (sgz neg * a), h0 ++ (G ++ [some ⟨0, 2, [eZ a]⟩, some ⟨0, 2, [eZ (sgz neg * a)]⟩])) := by
  refine CL_X (F := F) (f := 134) rfl rfl ?_
  have a1 := app_get w1
  have k1 := s_whole_Neg (z := a) (by omega)
  have k2 := s_whole_Neg (z := -a) (by rw [L_neg]; omega)
  cases neg with
  | true =>
    have e : sgz true * a = -a := by unfold sgz; simp
    rw [e]
    clear e ha
    refine go3 ?_
    trivial
  | false =>
    have e : sgz false * a = a := by unfold sgz; simp
    rw [Int.neg_neg] at k2
    rw [e]
    clear e ha
    refine go3 ?_
    trivial
theorem s_zbegin0 (h0 : Heap) : CL F 132 [.lst []] h0 = some (.ptr h0.length 0 0 0, h0 ++ [some ⟨0, 4, [aB .nil 1 false]⟩]) := by
  refine CL_X (F := F) (f := 132) rfl rfl ?_
  have h3 := s_whole_Of (a := 1) (by decide) (by decide)
  refine go3 ?_
  refine X_round ?_
  refine go3 ?_
  trivial
theorem s_zrun0 (h0 : Heap) (ahead : Bool) : CL F 133 [.ptr h0.length 0 0 0, .bool ahead] (h0 ++ [some ⟨0, 4, [aB .nil 1 false]⟩]) = some (.bool true, h0 ++ [some ⟨0, 4, [aB .nil 1 false]⟩]) := by
  refine CL_X (F := F) (f := 133) rfl rfl ?_
  refine go3 ?_
  refine X_round ?_
  refine go3 ?_
  trivial
end Go.S

end
section
set_option linter.unusedVariables false
set_option linter.unusedSimpArgs false
set_option maxRecDepth 100000
namespace Go.S
open Go Go.AM Go.RowKit Go.K
abbrev XZ := Bool × List Int
def XZ.ok (x : XZ) : Prop := (∀ y ∈ x.2, 0 ≤ y) ∧ x.2.length < 17592186044416
instance : Inhabited XZ := ⟨(false, [])⟩
end Go.S

end
section
set_option linter.unusedVariables false
set_option linter.unusedSimpArgs false
set_option maxRecDepth 100000
namespace Go.S
open Go Go.AM Go.RowKit Go.K
def abz (n : Nat) (A B : Zt) : Zt := fun i j => if j < n then A i j else B i (j - n)
def XR (b c0 K0 : Nat) (g : Heap) (c : AV) (r : List Int) : Prop := (r = [] ∧ c = .nil) ∨ ∃ k v, k < K0 ∧ c = .ref (b + (c0 + (k + 1))) v 2 0 r.length ∧ g[k]? = some (some ⟨v, 2, em eZ r⟩)
theorem XR.grow {b c0 K0 : Nat} {g : Heap} {c : AV} {r : List Int} (h : XR b c0 K0 g c r) (l : Heap) : XR b c0 K0 (g ++ l) c r := by
  rcases h with h | ⟨k, v, h1, h2, h3⟩
  · exact .inl h
  · exact .inr ⟨k, v, h1, h2, app_get h3 l⟩
theorem XR.le {b c0 K0 K1 : Nat} {g : Heap} {c : AV} {r : List Int} (h : XR b c0 K0 g c r) (hk : K0 ≤ K1) : XR b c0 K1 g c r := by
  rcases h with h | ⟨k, v, h1, h2, h3⟩
  · exact .inl h
  · exact .inr ⟨k, v, by omega, h2, h3⟩
theorem XR.set {b c0 K0 : Nat} {g : Heap} {c : AV} {r : List Int} (h : XR b c0 K0 g c r) {j : Nat} (hj : K0 ≤ j) (x : Option Blk) : XR b c0 K0 (g.set j x) c r := by
  rcases h with h | ⟨k, v, h1, h2, h3⟩
  · exact .inl h
  · exact .inr ⟨k, v, h1, h2, by rw [List.getElem?_set_ne (by omega)]; exact h3⟩
theorem mapM_rwg {F : AV → Option AV} {n : Nat} {c G : Nat → AV} (h : ∀ i, i < n → F (c i) = some (G i)) : (rwg n c).mapM F = some (rwg n G) := by
  induction n with
  | zero => rfl
  | succ n ih =>
    rw [← rwg_snoc, ← rwg_snoc, List.mapM_append, ih fun i hi => h i (by omega), List.mapM_cons, h n (by omega)]
    rfl
theorem em_tbg (n m : Nat) (f : Zt) : em eRZ (tbg n m f) = rwg n fun i => eRZ (rwg m (f i)) := by simp [em, tbg, rwg]
theorem XR.frz {h0 G g : Heap} {b c0 K0 : Nat} {c : AV} {r : List Int} {x : Option Blk} (h : XR b c0 K0 g c r) (hb : h0.length = b) (hc : G.length = c0) (n : Nat) : Go.AM.frz (h0 ++ (G ++ (x :: g))) (n + 3) c = some (eRZ r) := by
  rcases h with ⟨rfl, rfl⟩ | ⟨k, v, h1, rfl, h3⟩
  · rfl
  · have hbk : blk (h0 ++ (G ++ (x :: g))) (b + (c0 + (k + 1))) v = some ⟨v, 2, em eZ r⟩ := by
      unfold blk
      rw [← hb, ← hc, get_app, get_app, List.getElem?_cons_succ, h3]
      exact if_pos rfl
    show (blk _ _ v).bind (fun b => ((sub b.xs 0 r.length).mapM (Go.AM.frz _ (n + 2))).map AV.lst) = _
    rw [hbk]
    show ((sub (em eZ r) 0 r.length).mapM (Go.AM.frz _ (n + 2))).map AV.lst = _
    rw [sub_full, mapM_some (G := fun x => x) _ fun x hx => by
      obtain ⟨z, _, rfl⟩ := List.mem_map.1 hx
      exact (frz_plain1 (E_eZ.pl z)).1]
    simp
theorem fz_XR {h0 G g : Heap} {b c0 K0 n m : Nat} (k : Nat) {cell : Nat → AV} {f : Zt} (h : ∀ i, i < n → XR b c0 K0 g (cell i) (rwg m (f i))) (hb : h0.length = b) (hc : G.length = c0) :
    fzR (Go.AM.frz (h0 ++ (G ++ (some ⟨0, 1, rwg n cell⟩ :: g))) (k + 3)) (some (some ⟨0, 1, rwg n cell⟩)) 0 0 n = some (eTZ (tbg n m f)) := by
  have e : sub (rwg n cell) 0 n = rwg n cell := by
    unfold sub
    rw [List.drop_zero]
    exact List.take_of_length_le (by rw [rwg_len]; omega)
  show (if 0 = 0 then ((sub (rwg n cell) 0 n).mapM (Go.AM.frz _ (k + 3))).map AV.lst else none) = _
  rw [if_pos rfl, e, mapM_rwg (G := fun i => eRZ (rwg m (f i))) fun i hi => (h i hi).frz hb hc k, ← em_tbg]
  rfl
end Go.S

end
section
set_option linter.unusedVariables false
set_option linter.unusedSimpArgs false
set_option maxRecDepth 100000
namespace Go.S
open Go Go.AM Go.RowKit Go.K
def bsol (n m : Nat) (A B : Zt) : AV := match zrun n (abz n A B) n with
  | none => .tup [.lst [], .agg [.bool false, .lst []], eI 7]
  | some s => .tup [eTZ (tbg n m fun i j => sgz s.neg * s.Z i (n + j)), eZ (sgz s.neg * s.pv), eI 0]
set_option maxHeartbeats 1000000
theorem s_bSolve {n m K : Nat} {A B : Zt} (h0n : 0 < n) (hn : n ≤ 100) (hm : m ≤ 100) (hA : ∀ i, i < n → ∀ j, j < n → L (A i j) ≤ K) (hB : ∀ i, i < n → ∀ j, j < m → L (B i j) ≤ K) (hK : 2 ^ n * (K + 2) < 100000000) :
    CP (CL F) 88 [eTZ (tbg n n A), eTZ (tbg n m B)] = some (bsol n m A B) := by
  refine CP_X (F := F) (f := 88) rfl rfl ?_
  have k1 := s_shaped (t := tbg n n A) (by rw [tbg_len]; omega) n
  rw [shp_iff.2 ⟨by rw [tbg_len]; exact hn, hn, tbg_row⟩] at k1
  have k2 := s_shaped (t := tbg n m B) (by rw [tbg_len]; omega) m
  rw [shp_iff.2 ⟨by rw [tbg_len]; exact hn, hm, tbg_row⟩] at k2
  have tl := tbg_len n n A
  have ul := tbg_len n m B
  have gA : ∀ i, i < n → (em eRZ (tbg n n A))[i]? = some (eRZ (rwg n (A i))) := fun i hi => by
    have := em_getN (f := eRZ) (tbg n n A) i (by rw [tbg_len]; exact hi)
    rwa [tbg_get hi] at this
  have gB : ∀ i, i < n → (em eRZ (tbg n m B))[i]? = some (eRZ (rwg m (B i))) := fun i hi => by
    have := em_getN (f := eRZ) (tbg n m B) i (by rw [tbg_len]; exact hi)
    rwa [tbg_get hi] at this
  have g0 := gB 0 h0n
  have l0 := rwg_len m (B 0)
  have cc : ∀ i, CP (CL F) 131 [.lst (em eRZ [rwg n (A i), rwg m (B i)])] = some (eRZ (rwg (n + m) (abz n A B i))) := fun i => by
    have := z_Concat (a := rwg n (A i)) (b := rwg m (B i)) (by rw [rwg_len]; omega) (by rw [rwg_len]; omega)
    rwa [rwg_app] at this
  have hlt0 : ((0 : Int) < (n : Int)) := by omega
  have lim : (n : Int) ≤ 11728124029610 := by omega
  have lim2 : n ≤ 11728124029610 := by omega
  have hAB : ∀ i, i < n → ∀ j, j < n + m → L (abz n A B i j) ≤ K := fun i hi j hj => by
    unfold abz
    split
    · next h => exact hA i hi j h
    · exact hB i hi _ (by omega)
  have sn : ∀ i, tbg i (n + m) (abz n A B) ++ [rwg (n + m) (abz n A B i)] = tbg (i + 1) (n + m) (abz n A B) := fun i => tbg_snoc i _ _
  generalize tbg n n A = TA at *
  generalize tbg n m B = TB at *
  clear hA hB
  unfold bsol
  generalize abz n A B = C at *
  generalize hP : (match zrun n C n with
  | none => AV.tup [.lst [], .agg [.bool false, .lst []], eI 7]
  | some s => .tup [eTZ (tbg n m fun i j => sgz s.neg * s.Z i (n + j)), eZ (sgz s.neg * s.pv), eI 0]) = P
  have c0 : ∀ h : Heap, True := fun _ => trivial
  refine go3 ?_
  refine X_up n (fun i s => ∃ j10 j47 g, s = ⟨[(0, eTZ TA), (1, eTZ TB), (4, .nil), (5, .ptr 0 0 0 0), (6, eI 0), (7, eI n), (8, eI m), (9, .ref 1 0 1 0 n), (10, j10), (11, .undef), (12, .undef), (13, .undef), (15, .undef), (20, .bool true), (40, .bool false), (45, eI n), (46, eI i), (47, j47), (67, .undef), (72, .undef), (73, .undef), (74, .undef), (84, .undef), (85, .undef), (86, .undef), (87, .undef)], some ⟨0, 2, [zZ]⟩ :: some ⟨0, 1, em eRZ (tbg i (n + m) C) ++ List.replicate (n - i) .nil⟩ :: g⟩) ?_ ?_ 0 (Nat.zero_le _) _ ⟨_, _, _, rfl⟩
  · rintro i s hi ⟨j10, j47, g, rfl⟩ rec
    have hlt := lt_c hi
    have g1 := gA i hi
    have g2 := gB i hi
    have g3 := cc i
    have s1 := sn i
    obtain ⟨d, hd⟩ : ∃ d, n - i = d + 1 := ⟨n - i - 1, by omega⟩
    have hd2 : n - (i + 1) = d := by omega
    rw [hd]
    rw [hd2] at rec
    have fl := tbg_len i (n + m) C
    have f1 := fill_get (f := eRZ) (tbg i (n + m) C) d .nil
    have f2 := fill_set (f := eRZ) (tbg i (n + m) C) d .nil (rwg (n + m) (C i))
    rw [fl] at f1 f2
    rw [s1] at f2
    have fp : ∀ (a b : List Int) (h : Heap), fzR (Go.AM.frz h 6) (some (some ⟨0, 1, [eRZ a, eRZ b]⟩)) 0 0 2 = some (.lst (em eRZ [a, b])) := fun a b h => em_fz6 (h := h) (v := 0) (off := 0) (len := 2) E_eRZ [a, b]
    have up : ∀ (a b : List Int) (h : Heap) (i : Nat), usR (used h 6) (some (some ⟨0, 1, [eRZ a, eRZ b]⟩)) i 0 0 2 = [i] := fun a b h i => em_us6 (h := h) (id := i) (v := 0) (off := 0) (len := 2) E_eRZ [a, b]
    have hi6 : i < 9223372036854775807 := by omega
    generalize tbg i (n + m) C = T at *
    generalize tbg (i + 1) (n + m) C = T' at *
    generalize rwg (n + m) (C i) = rc at *
    generalize rwg n (A i) = ra at *
    generalize rwg m (B i) = rb at *
    have hw := i64_nat hi6
    clear gA gB cc sn s1 hd hd2 hAB fl
    refine go3 ?_
    exact rec _ ⟨_, _, _, rfl⟩
  · clear gA gB cc sn k1 k2 c0 g0 l0
    rintro s ⟨j10, j47, g, rfl⟩
    have hlt : ¬ ((n : Int) < (n : Int)) := nlt_c
    rw [Nat.sub_self, show List.replicate 0 AV.nil = [] from rfl, List.append_nil]
    have cl := tbg_len n (n + m) C
    have ct : List.take n (tbg n (n + m) C) = tbg n (n + m) C := take_len_g _ cl.symm
    obtain ⟨h0, hh⟩ : ∃ h0 : Heap, h0 = some ⟨0, 2, [zZ]⟩ :: none :: g := ⟨_, rfl⟩
    obtain ⟨x, p1, G, key, vt, rfl, H⟩ := s_zbegin (Z := C) h0n (by omega) (c := n + m) (by omega) (by omega) h0
    obtain ⟨x, p2, G', H'⟩ := s_zrun H (by omega) (by omega) hAB hK true
    have r0 : h0[0]? = some (some ⟨0, 2, [zZ]⟩) := by rw [hh]; rfl
    have r1 := app_get r0
    have rs := app_set r0
    have hset : ∀ y, (h0.set 0 y)[0]? = some y := fun y => by rw [hh]; rfl
    have hset2 : ∀ y l, (h0.set 0 y ++ l)[0]? = some y := fun y => app_get (hset y)
    have hsize := fun s => zrun_size (s := s) (show n ≤ n + m by omega) hAB (Nat.le_refl n)
    have p1' : CL F 132 [eTZ (tbg n (n + m) C)] (some ⟨0, 2, [zZ]⟩ :: none :: g) = some (.ptr h0.length 0 0 0, h0 ++ G) := by rw [← hh]; exact p1
    clear p1 hh H hAB
    rcases H' with ⟨h1, rfl⟩ | ⟨s, h1, Z, key', vt', rfl, H2, hall⟩
    · rw [h1] at hP
      simp only at hP
      subst hP
      clear hsize h1
      generalize tbg n (n + m) C = T at *
      refine go3 ?_
      trivial
    · obtain ⟨b1, b2⟩ := hsize s h1
      have b3 : ∀ i, i < n → ∀ j, j < n + m → L (s.Z i j) < 100000000 := fun i hi j hj => by have := b1 i hi j hj; omega
      rw [h1] at hP
      simp only at hP
      clear hsize b1
      have hZ := hall rfl
      have H3 := H2.eqs (Z' := s.Z) fun i hi => (hZ i hi).symm
      clear H2 hall hZ h1
      have w1 := H3.work
      have sg : ∀ (l : Heap) (a : Int), L a < 100000000 → CL F 134 [.ptr h0.length 0 0 0, eZ a] (h0 ++ (G' ++ l)) = some (eZ (sgz s.neg * a), h0 ++ (G' ++ (l ++ [some ⟨0, 2, [eZ a]⟩, some ⟨0, 2, [eZ (sgz s.neg * a)]⟩]))) := fun l a ha => by
        have := s_signed (n := n) (c := n + m) (Z := s.Z) (key := key') (vt := vt') (h0 := h0) (app_get w1 l) ha
        rw [List.append_assoc] at this
        exact this
      generalize tbg n (n + m) C = T at *
      refine go3 ?_
      refine X_up n (fun i s' => ∃ j13 j15 j74 j84 j85 j86 j87 cell g', (∀ y, y < i → XR h0.length G'.length g'.length g' (cell y) (rwg m fun j => sgz s.neg * s.Z y (n + j))) ∧ (∀ y, i ≤ y → cell y = .nil) ∧ s' = ⟨[(0, eTZ TA), (1, eTZ TB), (4, .nil), (5, .ptr 0 0 0 0), (6, eI 0), (7, eI n), (8, eI m), (9, .lst (em (eL eZ) T)), (10, j10), (11, .ptr h0.length 0 0 0), (12, .ref (h0.length + G'.length) 0 1 0 n), (13, j13), (15, j15), (20, .bool true), (40, .bool false), (45, eI n), (46, eI n), (47, .bool false), (67, .bool false), (72, eI n), (73, eI i), (74, j74), (84, j84), (85, j85), (86, j86), (87, j87)], h0 ++ (G' ++ (some ⟨0, 1, rwg n cell⟩ :: g'))⟩) ?_ ?_ 0 (Nat.zero_le _) _ ⟨_, _, _, _, _, _, _, fun _ => .nil, [], fun y hy => by omega, fun _ _ => rfl, by rw [show rwg n (fun _ => AV.nil) = List.replicate n AV.nil from by simp [rwg, List.map_const']]; rfl⟩
      · rintro i s' hi ⟨j13, j15, j74, j84, j85, j86, j87, cell, g', hc, hnil, rfl⟩ rec
        have hlt := lt_c hi
        have w2 := H3.tab
        have ri := H3.row i hi
        have t1 := rwg_getE (f := fun i => AV.ref (h0.length + key' i) 0 2 0 (n + m)) hi
        have a1 := app_get w1
        have a2 := app_get w2
        have ai := app_get ri
        have c1 : (n : Int) ≤ ((n + m : Nat) : Int) := by omega
        have e1 : n + m - n = m := by omega
        have hi6 : i < 9223372036854775807 := by omega
        have y1 : ∀ x, ((rwg n cell).set i x)[i]? = some x := fun x => List.getElem?_set_self (by rw [rwg_len]; omega)
        have y2 : ∀ x y, ((rwg n cell).set i x).set i y = (rwg n cell).set i y := fun x y => List.set_set ..
        have qz : ∀ j, j < m → (em eZ (rwg (n + m) (s.Z i)))[n + j]? = some (eZ (s.Z i (n + j))) := fun j hj => by
          have := em_getN (f := eZ) (rwg (n + m) (s.Z i)) (n + j) (by rw [rwg_len]; omega)
          rwa [rwg_get (by omega)] at this
        have bz := b3 i hi
        have hset0 : (rwg n cell).set i .nil = rwg n cell := by
          rw [rwg_set hi]
          refine rwg_congr fun y hy => ?_
          split
          · next e => rw [e]; exact (hnil i (Nat.le_refl i)).symm
          · rfl
        have y0 : (rwg n cell)[i]? = some .nil := by rw [rwg_getE hi, hnil i (Nat.le_refl i)]
        clear hP b3 H3
        refine go3 ?_
        refine X_up m (fun j s' => ∃ j15 j87 cur g'', (∀ y, y < i → XR h0.length G'.length g'.length g'' (cell y) (rwg m fun j => sgz s.neg * s.Z y (n + j))) ∧ g'.length ≤ g''.length ∧ ((j = 0 ∧ cur = .nil) ∨ ∃ k v, g'.length ≤ k ∧ cur = .ref (h0.length + (G'.length + (k + 1))) v 2 0 j ∧ g''[k]? = some (some ⟨v, 2, em eZ (rwg j fun j => sgz s.neg * s.Z i (n + j))⟩)) ∧ s' = ⟨[(0, eTZ TA), (1, eTZ TB), (4, .nil), (5, .ptr 0 0 0 0), (6, eI 0), (7, eI n), (8, eI m), (9, .lst (em (eL eZ) T)), (10, j10), (11, .ptr h0.length 0 0 0), (12, .ref (h0.length + G'.length) 0 1 0 n), (13, eI i), (15, j15), (20, .bool true), (40, .bool false), (45, eI n), (46, eI n), (47, .bool false), (67, .bool false), (72, eI n), (73, eI i), (74, .bool true), (84, .ref (h0.length + key' i) 0 2 n m), (85, eI m), (86, eI j), (87, j87)], h0 ++ (G' ++ (some ⟨0, 1, (rwg n cell).set i cur⟩ :: g''))⟩) ?_ ?_ 0 (Nat.zero_le _) _ ⟨_, _, .nil, g', hc, Nat.le_refl _, .inl ⟨rfl, rfl⟩, by rw [hset0]; rfl⟩
        · clear hc rec
          rintro j s' hj ⟨j15, j87, cur, g'', hc, hge, hcur, rfl⟩ rec2
          have hlt2 := lt_c hj
          have q1 := qz j hj
          have q2 := bz (n + j) (by omega)
          have s1 : ∀ l, CL F 134 [.ptr h0.length 0 0 0, eZ (s.Z i (n + j))] (h0 ++ (G' ++ l)) = some (eZ (sgz s.neg * s.Z i (n + j)), h0 ++ (G' ++ (l ++ [some ⟨0, 2, [eZ (s.Z i (n + j))]⟩, some ⟨0, 2, [eZ (sgz s.neg * s.Z i (n + j))]⟩]))) := fun l => sg l _ q2
          have sn := rwg_snoc j fun j => sgz s.neg * s.Z i (n + j)
          have jl := rwg_len j fun j => sgz s.neg * s.Z i (n + j)
          have jt : List.take j (rwg j fun j => sgz s.neg * s.Z i (n + j)) = rwg j fun j => sgz s.neg * s.Z i (n + j) := take_len_g _ jl.symm
          have hj6 : j < 9223372036854775807 := by omega
          have hlim : j < 4398046511104 := by omega
          have c2 : ((j : Int) < (m : Int)) := by omega
          rcases hcur with ⟨hj0, rfl⟩ | ⟨k, v, hk, rfl, hgk⟩
          · have s0 : [eZ (sgz s.neg * s.Z i (n + j))] = em eZ (rwg (j + 1) fun j => sgz s.neg * s.Z i (n + j)) := by rw [hj0]; rfl
            have hc2 := fun l y hy => (hc y hy).grow l
            generalize hr : (rwg (j + 1) fun j => sgz s.neg * s.Z i (n + j)) = R at *
            generalize sgz s.neg * s.Z i (n + j) = z1 at *
            generalize s.Z i (n + j) = z0 at *
            replace hj0 := eq_true hj0
            replace s0 := eq_true s0
            clear qz bz sg q2 sn jl jt hc
            have hw := i64_nat hj6
            refine go3 ?_
            obtain rfl := of_eq_true hj0
            exact rec2 _ ⟨_, _, _, _, fun y hy => hc2 _ y hy, by simp; omega, .inr ⟨g''.length + 4, 0, by omega, rfl, by rw [get_app, ← of_eq_true s0]; rfl⟩, rfl⟩
          · have ak := app_get hgk
            have asx := app_set hgk
            have hc2 := fun l x y hy => ((hc y hy).set hk x).grow l
            have kl := (List.getElem?_eq_some_iff.1 hgk).1
            generalize hr : (rwg (j + 1) fun j => sgz s.neg * s.Z i (n + j)) = R at *
            generalize (rwg j fun j => sgz s.neg * s.Z i (n + j)) = R0 at *
            generalize sgz s.neg * s.Z i (n + j) = z1 at *
            generalize s.Z i (n + j) = z0 at *
            clear qz bz sg q2 hc hset0 y0
            have hw := i64_nat hj6
            refine go3 ?_
            exact rec2 _ ⟨_, _, _, _, fun y hy => hc2 _ _ y hy, by simp; omega, .inr ⟨k, v + 1, hk, rfl, app_get (List.getElem?_set_self kl) _⟩, rfl⟩
        · clear hc
          rintro s' ⟨j15, j87, cur, g'', hc, hge, hcur, rfl⟩
          have hlt2 : ¬ ((m : Int) < (m : Int)) := nlt_c
          have hcell := rwg_set (f := cell) (x := cur) hi
          have hc1 : ∀ y, y < i + 1 → XR h0.length G'.length g''.length g'' ((fun y => if y = i then cur else cell y) y) (rwg m fun j => sgz s.neg * s.Z y (n + j)) := fun y hy => by
            show XR _ _ _ _ (if y = i then cur else cell y) _
            by_cases e : y = i
            · subst e
              rw [if_pos rfl]
              rcases hcur with ⟨h1, h2⟩ | ⟨k, v, h1, h2, h3⟩
              · exact .inl ⟨by rw [h1]; rfl, h2⟩
              · exact .inr ⟨k, v, (List.getElem?_eq_some_iff.1 h3).1, by rw [rwg_len]; exact h2, h3⟩
            · rw [if_neg e]
              exact (hc y (by omega)).le hge
          have hc3 : ∀ y, i + 1 ≤ y → (fun y => if y = i then cur else cell y) y = .nil := fun y hy => by
            show (if y = i then cur else cell y) = .nil
            rw [if_neg (by omega)]
            exact hnil y (by omega)
          generalize (fun y => if y = i then cur else cell y) = cell' at *
          clear qz bz sg hset0 y0 y1 y2 hc hcur
          have hw := i64_nat hi6
          refine go3 ?_
          exact rec _ ⟨_, _, _, _, _, _, _, _, _, hc1, hc3, rfl⟩
      · rintro s' ⟨j13, j15, j74, j84, j85, j86, j87, cell, g', hc, hnil, rfl⟩
        have a1 := app_get w1
        have fx : ∀ y l, fzR (Go.AM.frz (h0.set 0 y ++ (G' ++ (some ⟨0, 1, rwg n cell⟩ :: (g' ++ l)))) 5) (some (some ⟨0, 1, rwg n cell⟩)) 0 0 n = _ := fun y l => fz_XR 2 (h0 := h0.set 0 y) (G := G') (g := g' ++ l) (n := n) (m := m) (cell := cell) (f := fun i j => sgz s.neg * s.Z i (n + j)) (fun i hi => (hc i hi).grow l) List.length_set rfl
        have hl2 : ∀ y l, (h0.set 0 y ++ (G' ++ l))[h0.length + G'.length]? = l[0]? := fun y l => by
          have := get_app (h0.set 0 y) (G' ++ l) G'.length
          rw [List.length_set] at this
          rw [this, get_app0]
        have s1 := fun l => sg l s.pv (by omega)
        have xl := rwg_len n cell
        subst hP
        clear b3 sg hc hnil H3
        generalize (tbg n m fun i j => sgz s.neg * s.Z i (n + j)) = X at *
        generalize sgz s.neg * s.pv = pd at *
        refine go3 ?_
        trivial
end Go.S

end
section
set_option linter.unusedVariables false
set_option linter.unusedSimpArgs false
set_option maxRecDepth 100000
namespace Go.S
open Go Go.AM Go.RowKit Go.K
theorem s_bSolve0 : CP (CL F) 88 [.lst [], .lst []] = some (.tup [.lst [], eZ 1, eI 0]) := by
  refine CP_X (F := F) (f := 88) rfl rfl ?_
  have k1 : CP (CL F) 130 [.lst [], eI 0] = some (.bool true) := s_shaped (t := []) (by simp) 0
  have b1 := s_zbegin0 [some ⟨0, 2, [zZ]⟩, none]
  change CL F _ _ _ = some (.ptr 2 0 0 0, [some ⟨0, 2, [zZ]⟩, none, some ⟨0, 4, [aB .nil 1 false]⟩]) at b1
  have b2 := s_zrun0 [some ⟨0, 2, [zZ]⟩, none] true
  change CL F _ [.ptr 2 0 0 0, .bool true] [some ⟨0, 2, [zZ]⟩, none, some ⟨0, 4, [aB .nil 1 false]⟩] = some (.bool true, [some ⟨0, 2, [zZ]⟩, none, some ⟨0, 4, [aB .nil 1 false]⟩]) at b2
  have b3 := s_signed (n := 0) (c := 0) (Z := fun _ _ => 0) (key := fun _ => 0) (vt := 0) (h0 := [some ⟨0, 2, [zZ]⟩, none]) (G := [some ⟨0, 4, [aB .nil 1 false]⟩, some ⟨0, 1, []⟩]) (tb := .nil) (pv := 1) (neg := false) rfl (a := 1) (by have := L_one; omega)
  rw [show sgz false * 1 = 1 from rfl] at b3
  change CL F _ [.ptr 2 0 0 0, eZ 1] [some ⟨0, 2, [zZ]⟩, none, some ⟨0, 4, [aB .nil 1 false]⟩, some ⟨0, 1, []⟩] = some (_, [some ⟨0, 2, [zZ]⟩, none, some ⟨0, 4, [aB .nil 1 false]⟩, some ⟨0, 1, []⟩, some ⟨0, 2, [eZ 1]⟩, some ⟨0, 2, [eZ 1]⟩]) at b3
  have r0 : List.replicate (Int.toNat 0) AV.nil = [] := rfl
  generalize (1 : Int) = o at b1 b2 b3
  refine go3 ?_
  refine X_round ?_
  refine go3 ?_
  refine X_round ?_
  refine go3 ?_
  trivial
set_option maxHeartbeats 2000000
end Go.S

end
section
set_option linter.unusedVariables false
set_option linter.unusedSimpArgs false
set_option maxRecDepth 100000
namespace Go.S
open Go Go.AM Go.RowKit Go.K
def lcs (m : Nat) (l : List Rat) : Nat := l.foldl (fun m q => Nat.lcm m q.den) m
theorem lcs_snoc (m : Nat) (l : List Rat) (q : Rat) : lcs m (l ++ [q]) = Nat.lcm (lcs m l) q.den := by unfold lcs; rw [List.foldl_append]; rfl
theorem lcs_dvd : ∀ (l : List Rat) (m : Nat), m ∣ lcs m l ∧ ∀ q ∈ l, q.den ∣ lcs m l := by
  intro l
  induction l with
  | nil => intro m; exact ⟨Nat.dvd_refl m, fun q hq => by cases hq⟩
  | cons x l ih =>
    intro m
    obtain ⟨h1, h2⟩ := ih (Nat.lcm m x.den)
    refine ⟨Nat.dvd_trans (Nat.dvd_lcm_left m x.den) h1, fun q hq => ?_⟩
    rcases List.mem_cons.1 hq with rfl | hq
    · exact Nat.dvd_trans (Nat.dvd_lcm_right m q.den) h1
    · exact h2 q hq
theorem lcs_pos : ∀ (l : List Rat) (m : Nat), 0 < m → 0 < lcs m l := by
  intro l
  induction l with
  | nil => intro m h; exact h
  | cons x l ih => intro m h; exact ih _ (Nat.lcm_pos h x.den_pos)
theorem lcm_eq (m n : Nat) (h : 0 < m) : Nat.lcm m n = m / Nat.gcd m n * n := by
  have hg : 0 < Nat.gcd m n := Nat.gcd_pos_of_pos_left n h
  refine Nat.eq_of_mul_eq_mul_left hg ?_
  rw [Nat.gcd_mul_lcm, ← Nat.mul_assoc, Nat.mul_div_cancel' (Nat.gcd_dvd_left m n)]
theorem L_nle {m n : Nat} (h : m ≤ n) : L (m : Int) ≤ L (n : Int) := L_mono (by unfold ab; omega)
theorem L_lcm (m n : Nat) (hm : 0 < m) (hn : 0 < n) : L ((Nat.lcm m n : Nat) : Int) ≤ L (m : Int) + L (n : Int) := by
  have h1 : Nat.lcm m n ≤ m * n := Nat.le_of_dvd (Nat.mul_pos hm hn) (Nat.lcm_dvd_mul m n)
  have h2 := L_nle h1
  have h3 := L_mul (m : Int) (n : Int)
  rw [Int.natCast_mul] at h2
  omega
theorem lcs_L {K : Nat} : ∀ (l : List Rat) (m : Nat), 0 < m → (∀ q ∈ l, Lq q ≤ K) → L ((lcs m l : Nat) : Int) ≤ L (m : Int) + l.length * K := by
  intro l
  induction l with
  | nil => intro m _ _; show L (m : Int) ≤ _; omega
  | cons x l ih =>
    intro m hm h
    have h1 := ih (Nat.lcm m x.den) (Nat.lcm_pos hm x.den_pos) fun q hq => h q (List.mem_cons_of_mem _ hq)
    have h2 := L_lcm m x.den hm x.den_pos
    have h3 := Lq_den x
    have h4 := h x (List.mem_cons_self ..)
    show L ((lcs (Nat.lcm m x.den) l : Nat) : Int) ≤ _
    rw [List.length_cons, Nat.add_mul]
    omega
def clr (M : Nat) (q : Rat) : Int := q.num * ((M / q.den : Nat) : Int)
theorem clr_cast {M : Nat} {q : Rat} (h : q.den ∣ M) : ((clr M q : Int) : Rat) = q * ((M : Int) : Rat) := by
  obtain ⟨k, rfl⟩ := h
  unfold clr
  rw [Nat.mul_div_cancel_left k q.den_pos, Rat.intCast_mul, Int.natCast_mul, Rat.intCast_mul]
  have e : ((q.num : Int) : Rat) = q * ((q.den : Int) : Rat) := by
    have hd : ((q.den : Int) : Rat) ≠ 0 := by
      intro h
      have := q.den_pos
      have h2 : (q.den : Int) = 0 := zinj (b := 0) h
      omega
    have h3 : Rat.divInt q.num q.den = q := Rat.num_divInt_den q
    rw [Rat.divInt_eq_div] at h3
    grind
  rw [e]
  grind
theorem clr_L {M : Nat} {q : Rat} (h : q.den ∣ M) (hM : 0 < M) : L (clr M q) ≤ L q.num + L (M : Int) := by
  have h1 := L_mul q.num ((M / q.den : Nat) : Int)
  have h2 := L_nle (Nat.div_le_self M q.den)
  unfold clr
  omega
theorem s_Euclid {m n : Nat} (h1 : L (m : Int) < 1000000000) (h2 : L (n : Int) < 1000000000) : CP (CL F) 140 [eN m, eN n] = some (eN (Nat.gcd m n : Nat)) :=
  ev_cp (euclid_ev (m := m) (n := n) (by rw [L_nat (by omega)]; exact h1) (by rw [L_nat (by omega)]; exact h2)) fun _ h => e_gcd_Euclid h
theorem s_mul_Mul {x y : Int} (hx : 0 ≤ x) (hy : 0 ≤ y) (h1 : L x < 500000000) (h2 : L y < 500000000) : CP (CL F) 97 [eN x, eN y] = some (eN (x * y)) :=
  ev_cp (mul_ev hx hy (by rw [L_nat hx]; exact h1) (by rw [L_nat hy]; exact h2)) fun _ h => e_mul_Mul h
theorem s_Lcm {m n : Nat} (hm : 0 < m) (h1 : L (m : Int) < 100000000) (h2 : L (n : Int) < 100000000) : CP (CL F) 94 [eN m, eN n] = some (eN (Nat.lcm m n : Nat)) := by
  refine CP_X (F := F) (f := 94) rfl rfl ?_
  have hg : 0 < Nat.gcd m n := Nat.gcd_pos_of_pos_left n hm
  have k1 := s_Euclid (m := m) (n := n) (by omega) (by omega)
  have k2 := s_divide_Exact (x := m) (y := (Nat.gcd m n : Nat)) (q := (m / Nat.gcd m n : Nat)) (by omega) (by omega) (by rw [← Int.natCast_mul, Nat.mul_div_cancel' (Nat.gcd_dvd_left m n)]) (by omega) (by have := L_nle (Nat.gcd_le_left n hm); omega)
  have k3 := s_mul_Mul (x := (m / Nat.gcd m n : Nat)) (y := (n : Int)) (Int.natCast_nonneg _) (Int.natCast_nonneg _) (by have := L_nle (Nat.div_le_self m (Nat.gcd m n)); omega) (by omega)
  rw [← Int.natCast_mul, ← lcm_eq m n hm] at k3
  clear hg h1 h2 hm
  refine go3 ?_
  trivial
theorem sg_mul (z : Int) (k : Nat) : sg (decide (z < 0)) (ab z * (k : Int)) = z * (k : Int) := by
  unfold sg
  by_cases h : z < 0
  · rw [decide_eq_true h, if_pos rfl, ab_of_neg h, Int.neg_mul, Int.neg_neg]
  · rw [decide_eq_false h, if_neg (by decide), ab_of_nonneg (by omega)]
theorem s_Clear {l : List Rat} (hl : l.length ≤ 1000) {K : Nat} (hK : K ≤ 10000) (h : ∀ q ∈ l, Lq q ≤ K) : CP (CL F) 45 [eR l] = some (.tup [eRZ (l.map (clr (lcs 1 l))), eN (lcs 1 l : Nat)]) := by
  refine CP_X (F := F) (f := 45) rfl rfl ?_
  have one := s_nat_Of (x := 1) (by decide) (by decide)
  replace one : CP (CL F) 93 [.int .u64 1] = some (eN (lcs 1 (l.take 0) : Nat)) := one
  have hLm : ∀ i, L ((lcs 1 (l.take i) : Nat) : Int) ≤ 1 + 10000000 := fun i => by
    have h1 := lcs_L (K := K) (l.take i) 1 (by decide) fun q hq => h q (List.mem_of_mem_take hq)
    have h2 : (l.take i).length * K ≤ 1000 * 10000 := Nat.mul_le_mul (by rw [List.length_take]; omega) hK
    have h3 : L ((1 : Nat) : Int) ≤ 1 := L_one
    omega
  have lc : ∀ i, i < l.length → CP (CL F) 94 [eN (lcs 1 (l.take i) : Nat), eN ((l.getD i default).den : Int)] = some (eN (lcs 1 (l.take (i + 1)) : Nat)) := fun i hi => by
    have := s_Lcm (m := lcs 1 (l.take i)) (n := (l.getD i default).den) (lcs_pos _ 1 (by decide)) (by have := hLm i; omega) (by have := h _ (getD_mem hi); have := Lq_den (l.getD i default); omega)
    rw [take_succ_getD l i hi, lcs_snoc]
    exact this
  have hM := hLm l.length
  rw [List.take_length] at hM
  have hdv := (lcs_dvd l 1).2
  have hMp := lcs_pos l 1 (by decide)
  have g : ∀ i, i < l.length → (em eQ l)[i]? = some (eQ (l.getD i default)) := fun i hi => em_getN l i hi
  have hfin : lcs 1 (l.take l.length) = lcs 1 l := by rw [List.take_length]
  generalize lcs 1 l = M at *
  have dv : ∀ i, i < l.length → CP (CL F) 95 [eN (M : Int), eN ((l.getD i default).den : Int)] = some (.tup [eN (M / (l.getD i default).den : Nat), eI 0]) := fun i hi => by
    refine s_divide_Exact (by omega) (by have := (l.getD i default).den_pos; omega) ?_ (by omega) (by have := h _ (getD_mem hi); have := Lq_den (l.getD i default); omega)
    rw [← Int.natCast_mul, Nat.mul_div_cancel' (hdv _ (getD_mem hi))]
  have ml : ∀ i, i < l.length → CP (CL F) 97 [eN (ab (l.getD i default).num), eN (M / (l.getD i default).den : Nat)] = some (eN (ab (l.getD i default).num * (M / (l.getD i default).den : Nat))) := fun i hi =>
    s_mul_Mul (ab_nonneg _) (Int.natCast_nonneg _) (by rw [L_ab]; have := h _ (getD_mem hi); have := Lq_num (l.getD i default); omega) (by have := L_nle (Nat.div_le_self M (l.getD i default).den); omega)
  have md : ∀ i, i < l.length → CP (CL F) 96 [.bool (decide ((l.getD i default).num < 0)), eN (ab (l.getD i default).num * (M / (l.getD i default).den : Nat))] = some (eZ (clr M (l.getD i default))) := fun i hi => by
    have := s_whole_Made (decide ((l.getD i default).num < 0)) (n := ab (l.getD i default).num * (M / (l.getD i default).den : Nat)) (Int.mul_nonneg (ab_nonneg _) (Int.natCast_nonneg _)) (by
      have h1 := L_mul (ab (l.getD i default).num) ((M / (l.getD i default).den : Nat) : Int)
      have h2 := L_nle (Nat.div_le_self M (l.getD i default).den)
      have h3 := L_ab (l.getD i default).num
      have := h _ (getD_mem hi); have := Lq_num (l.getD i default)
      omega)
    rwa [sg_mul] at this
  have hl2 : l.length < 1000000 := by omega
  clear h hLm hM hdv hMp hK
  refine go3 ?_
  refine X_up l.length (fun i s => ∃ j6 j16 h', s = ⟨[(0, eR l), (2, .nil), (3, .nil), (4, eN (lcs 1 (l.take i) : Nat)), (6, j6), (7, .undef), (9, .undef), (10, .undef), (13, eR l), (14, eI l.length), (15, eI i), (16, j16), (24, .undef), (25, .undef), (26, .undef), (27, .undef)], h'⟩) ?_ ?_ 0 (Nat.zero_le _) _ ⟨_, _, _, rfl⟩
  · rintro i s hi ⟨j6, j16, h', rfl⟩ rec
    have hlt := lt_c hi
    have g1 := g i hi
    have g2 := lc i hi
    generalize lcs 1 (l.take i) = m1 at *
    generalize lcs 1 (l.take (i + 1)) = m2 at *
    generalize l.getD i default = q at *
    have hw := i64_nat (n := i) (by omega)
    clear g lc dv ml md hfin one
    refine go3 ?_
    exact rec _ ⟨_, _, _, rfl⟩
  · rintro s ⟨j6, j16, h', rfl⟩
    have hlt : ¬ ((l.length : Int) < (l.length : Int)) := nlt_c
    rw [hfin]
    clear lc hfin one
    refine go3 ?_
    rcases Nat.eq_zero_or_pos l.length with e | e
    · obtain rfl := List.eq_nil_of_length_eq_zero e
      clear g dv ml md e
      refine X_round ?_
      refine go3 ?_
      trivial
    · have hlt0 : ((0 : Int) < (l.length : Int)) := by omega
      have g0 := g 0 e
      have d0 := dv 0 e
      have m0 := ml 0 e
      have w0 := md 0 e
      have hw1 : wrap64 (0 + 1) = 1 := by rw [show (0 : Int) + 1 = 1 from rfl, w64 (by omega) (by omega)]
      have ht1 : (l.take 1).map (clr M) = [clr M (l.getD 0 default)] := by rw [take_succ_getD l 0 e]; rfl
      have hs0 : [eZ (clr M (l.getD 0 default))] = em eZ ((l.take 1).map (clr M)) := by rw [ht1]; rfl
      replace hs0 := eq_true hs0
      clear ht1
      generalize l.getD 0 default = q at *
      refine X_round ?_
      refine go3 ?_
      refine X_up l.length (fun i s => ∃ j9 j10 j27 v x y g2, s = ⟨[(0, eR l), (2, .nil), (3, .nil), (4, eN (M : Int)), (6, j6), (7, .ref (h'.length + 2) v 2 0 i), (9, j9), (10, j10), (13, eR l), (14, eI l.length), (15, eI l.length), (16, .bool false), (24, eR l), (25, eI l.length), (26, eI i), (27, j27)], h' ++ (x :: y :: some ⟨v, 2, em eZ ((l.take i).map (clr M))⟩ :: g2)⟩) ?_ ?_ 1 e _ ⟨_, _, _, _, _, _, _, by rw [show List.take 1 l = [l.getD 0 default] from by rw [take_succ_getD l 0 e]; rfl]; rfl⟩
      · rintro i s hi ⟨j9, j10, j27, v, x, y, g2, rfl⟩ rec
        have hlt := lt_c hi
        have g1 := g i hi
        have d1 := dv i hi
        have m1 := ml i hi
        have w1 := md i hi
        have hlen : ((l.take i).map (clr M)).length = i := by simp; omega
        have ht : List.take i ((l.take i).map (clr M)) = (l.take i).map (clr M) := take_len_g _ hlen.symm
        have hs : (l.take i).map (clr M) ++ [clr M (l.getD i default)] = (l.take (i + 1)).map (clr M) := by rw [take_succ_getD l i hi]; simp
        have hlim : i < 4398046511104 := by omega
        have hi6 : i < 9223372036854775807 := by omega
        generalize l.getD i default = q1 at *
        generalize (l.take i).map (clr M) = R at *
        generalize (l.take (i + 1)).map (clr M) = R' at *
        have hw := i64_nat hi6
        clear g dv ml md g0 d0 m0 w0 hs0 hlen
        refine go3 ?_
        exact rec _ ⟨_, _, _, _, _, _, _, rfl⟩
      · rintro s ⟨j9, j10, j27, v, x, y, g2, rfl⟩
        have hlen : (l.map (clr M)).length = l.length := by simp
        rw [List.take_length]
        have ht : List.take l.length (l.map (clr M)) = l.map (clr M) := take_len_g _ hlen.symm
        generalize l.map (clr M) = R at *
        clear g dv ml md g0 d0 m0 w0 hs0 hlen
        refine go3 ?_
        trivial
end Go.S

end
section
set_option linter.unusedVariables false
set_option linter.unusedSimpArgs false
set_option maxRecDepth 100000
namespace Go.S
open Go Go.AM Go.RowKit Go.K
theorem s_works16 : CP (CL F) 42 [] = some (.bool true) := CP_run2 300 (by decide +kernel)
end Go.S

end
section
set_option linter.unusedVariables false
set_option linter.unusedSimpArgs false
set_option maxRecDepth 100000
namespace Go.S
open Go Go.AM Go.RowKit Go.K
structure In16 (p q : List (List Rat)) (n c m : Nat) (A B : Mt) : Prop where
  hp : p = tab n c A
  hq : q = tab n m B
  h0 : n = 0 → c = 0 ∧ m = 0
  hA : ∀ r, r < n → ∀ y, y < c → Lq (A r y) ≤ 1
  hB : ∀ r, r < n → ∀ y, y < m → Lq (B r y) ≤ 1
theorem In16.mk' {p q : List (List Rat)} (h : shp16 p q false = true) (hp : ∀ r ∈ p, ∀ x ∈ r, Lq x ≤ 1) (hq : ∀ r ∈ q, ∀ x ∈ r, Lq x ≤ 1) : In16 p q p.length (wide p) (wide q) (ent p) (ent q) := by
  obtain ⟨m1, m2, hl, _⟩ := shp16_iff.1 h
  have e1 := (may_iff.1 m1).2.2
  have e2 := (may_iff.1 m2).2.2
  refine ⟨(tab_of e1).symm, ?_, fun h => ?_, ent_size hp e1, ?_⟩
  · rw [← hl]; exact (tab_of e2).symm
  · have a : p = [] := List.eq_nil_of_length_eq_zero h
    have b : q = [] := List.eq_nil_of_length_eq_zero (by omega)
    rw [a, b]
    exact ⟨rfl, rfl⟩
  · rw [← hl]; exact ent_size hq e2
theorem In16.hAB {p q : List (List Rat)} {n c m : Nat} {A B : Mt} (I : In16 p q n c m A B) : ∀ r, r < n → ∀ y, y < c + m → Lq (bsd c A B r y) ≤ 1 := fun r hr y hy => by
  unfold bsd
  split
  · next h => exact I.hA r hr y h
  · exact I.hB r hr _ (by omega)
theorem GB_le {n c K M : Nat} {A : Mt} (hK : 1 ≤ K) (hA : ∀ r, r < n → ∀ y, y < c → Lq (A r y) ≤ K) (h : K * 5 ^ n ≤ M) : GB n c M A := fun j hj => by
  obtain ⟨g1, g2⟩ := grun_GB hK hA j hj
  exact ⟨fun r hr y hy => Nat.le_trans (g1 r hr y hy) h, Nat.le_trans g2 h⟩
set_option maxHeartbeats 2000000
end Go.S

end
