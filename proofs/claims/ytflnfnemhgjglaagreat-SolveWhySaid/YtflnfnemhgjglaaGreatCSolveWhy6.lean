/- A part of the proof of the law SolveWhy: an abstract machine for the functions' code with its soundness, words, lemmas (assembled by a program). -/
import Derived.Test.YtflnfnemhgjglaaGreatCSolveWhy5
set_option linter.unusedVariables false
set_option linter.unusedSimpArgs false
set_option linter.unusedSectionVars false
section
set_option linter.unusedVariables false
set_option linter.unusedSimpArgs false
namespace Go.S
open Go Go.AM Go.RowKit Go.K
theorem findIdx_spec {α : Type} [Inhabited α] {l : List α} {p : α → Bool} {i : Nat} (hi : i < l.length) (h1 : p (l.getD i default) = true) (h2 : ∀ j, j < i → p (l.getD j default) = false) : l.findIdx p = i := by
  rw [List.findIdx_eq hi]
  refine ⟨by rw [List.getD_eq_getElem?_getD, List.getElem?_eq_getElem hi] at h1; simpa using h1, fun j hj => ?_⟩
  have := h2 j hj
  rw [List.getD_eq_getElem?_getD, List.getElem?_eq_getElem (by omega)] at this
  simpa using this
theorem findIdx_none {α : Type} [Inhabited α] {l : List α} {p : α → Bool} (h : ∀ j, j < l.length → p (l.getD j default) = false) : ¬ l.findIdx p < l.length := by
  rw [List.findIdx_lt_length]
  rintro ⟨x, hx, hp⟩
  obtain ⟨j, hj, rfl⟩ := List.getElem_of_mem hx
  have := h j (by omega)
  rw [List.getD_eq_getElem?_getD, List.getElem?_eq_getElem hj] at this
  simp [hp] at this
theorem CL_XE {F : Nat → Option AFunc} {f np nt : Nat} {ks : List Nat} {res : List (Nat × Option (Nat × Bool))} {body : ACode} {args : List AV} {h : Heap} {P : AV × Heap → Prop} (hf : F f = some ⟨np, nt, ks, res, body⟩) (hn : args.length = np)
    (H : X F ks (fun e s => ∃ x, FinR res x e s ∧ P x) body ⟨args0 0 args, h⟩ .done) : ∃ x, CL F f args h = some x ∧ P x := by
  obtain ⟨e, s', h1, x, ⟨he, hr⟩, hp⟩ := H
  exact ⟨x, CL_run hf hn h1 he hr, hp⟩
theorem getD_snoc_lt {α : Type} [Inhabited α] {l : List α} {x : α} {i : Nat} (h : i < l.length) : (l ++ [x]).getD i default = l.getD i default := by
  simp [List.getD, List.getElem?_append_left h]
theorem getD_snoc_eq {α : Type} [Inhabited α] {l : List α} {x : α} : (l ++ [x]).getD l.length default = x := by simp [List.getD]
theorem mapM_some {α β : Type} {F : α → Option β} {G : α → β} : ∀ (l : List α), (∀ x ∈ l, F x = some (G x)) → l.mapM F = some (l.map G) := by
  intro l
  induction l with
  | nil => intro _; rfl
  | cons x l ih =>
    intro h
    rw [List.mapM_cons, h x (List.mem_cons_self ..), ih fun y hy => h y (List.mem_cons_of_mem _ hy)]
    rfl
theorem getD_set_self {α : Type} [Inhabited α] {l : List α} {i : Nat} {x : α} (h : i < l.length) : (l.set i x).getD i default = x := by simp [List.getD, h]
theorem getD_set_other {α : Type} [Inhabited α] {l : List α} {i j : Nat} {x : α} (h : i ≠ j) : (l.set i x).getD j default = l.getD j default := by simp [List.getD, List.getElem?_set_ne h]
theorem nodup_getD {l : List Nat} (h : l.Nodup) {i j : Nat} (hi : i < l.length) (hj : j < l.length) (hne : i ≠ j) : l.getD i default ≠ l.getD j default := by
  intro e
  simp only [List.getD, List.getElem?_eq_getElem hi, List.getElem?_eq_getElem hj, Option.getD_some] at e
  rcases Nat.lt_or_ge i j with h1 | h1
  · exact List.pairwise_iff_getElem.1 h i j hi hj h1 e
  · exact List.pairwise_iff_getElem.1 h j i hj hi (by omega) e.symm
end Go.S

end
section
set_option linter.unusedVariables false
set_option linter.unusedSimpArgs false
set_option maxRecDepth 100000
namespace Go.S
open Go Go.AM Go.RowKit Go.K
abbrev eT (t : List (List Rat)) : AV := .lst (em eR t)
abbrev rT (t : List (List Rat)) : AV := .lst (em rR t)
def wide (t : List (List Rat)) : Nat := (t.getD 0 []).length
def even (t : List (List Rat)) : Bool := t.all fun r => decide (r.length = wide t)
theorem even_iff {t : List (List Rat)} : even t = true ↔ ∀ r ∈ t, r.length = wide t := by simp [even]
theorem E_eT : Enc eT 1 := ⟨fun _ => rfl, fun _ => rfl⟩
theorem s_IndexRow {t : List (List Rat)} {g : Nat} {c : Int} {p : List Rat → Bool} (hl : t.length ≤ 1000000) (hg : ∀ x ∈ t, CP (CL F) g [eR x, .fad (.int .i64 c)] = some (.bool (p x))) :
    CP (CL F) 105 [eT t, .fn g [] [.fad (.int .i64 c)]] = some (eI (if t.findIdx p < t.length then (t.findIdx p : Int) else -1)) := by
  refine CP_X (F := F) (f := 105) rfl rfl ?_
  have c1 : ∀ h, fz h (.fn g [] [.fad (.int .i64 c)]) = some (.fn g [] [.fad (.int .i64 c)]) := fun _ => rfl
  have c2 : ∀ h, used h deep (.fn g [] [.fad (.int .i64 c)]) = [] := fun _ => rfl
  have c3 : ∀ h, fz h (.fad (.int .i64 c)) = some (.fad (.int .i64 c)) := fun _ => rfl
  have c4 : ∀ h, used h deep (.fad (.int .i64 c)) = [] := fun _ => rfl
  refine go3 ?_
  refine X_upto t.length (fun i s => ∃ j4 j5 j9 j16 g', (∀ j, j < i → p (t.getD j default) = false) ∧ s = ⟨[(0, eT t), (1, .fn g [] [.fad (.int .i64 c)]), (4, j4), (5, j5), (7, eI t.length), (8, eI i), (9, j9), (16, j16)], g'⟩) ?_ 0 (Nat.zero_le _) _ ⟨_, _, _, _, _, fun j hj => by omega, rfl⟩
  rintro i s hi ⟨j4, j5, j9, j16, g', hall, rfl⟩ rec
  by_cases hlt : i < t.length
  · have hlt2 := lt_c hlt
    have g1 := em_getN (f := eR) t i hlt
    have hc := hg _ (getD_mem (l := t) (i := i) hlt)
    cases hp : p (t.getD i default) with
    | true =>
      rw [findIdx_spec hlt hp hall, if_pos hlt]
      rw [hp] at hc
      clear hall hg rec hi hp
      refine go3 ?_
      trivial
    | false =>
      rw [hp] at hc
      have hnext : ∀ j, j < i + 1 → p (t.getD j default) = false := fun j hj => by
        rcases Nat.lt_or_ge j i with h | h
        · exact hall j h
        · have : j = i := by omega
          subst this; exact hp
      have hw := i64_nat (n := i) (by omega)
      clear hall hg hp
      refine go3 ?_
      exact rec _ hlt ⟨_, _, _, _, _, hnext, rfl⟩
  · have hl3 : ¬ ((i : Int) < (t.length : Int)) := by omega
    have he := findIdx_none (l := t) (p := p) fun j hj => hall j (by omega)
    rw [if_neg he]
    clear hall hg rec he
    refine go3 ?_
    trivial
theorem s_ContainsRow {t : List (List Rat)} {g : Nat} {c : Int} {p : List Rat → Bool} (hl : t.length ≤ 1000000) (hg : ∀ x ∈ t, CP (CL F) g [eR x, .fad (.int .i64 c)] = some (.bool (p x))) :
    CP (CL F) 56 [eT t, .fn g [] [.fad (.int .i64 c)]] = some (.bool (t.any p)) := by
  refine CP_X (F := F) (f := 56) rfl rfl ?_
  have c1 : ∀ h, fz h (.fn g [] [.fad (.int .i64 c)]) = some (.fn g [] [.fad (.int .i64 c)]) := fun _ => rfl
  have c2 : ∀ h, used h deep (.fn g [] [.fad (.int .i64 c)]) = [] := fun _ => rfl
  have h1 := s_IndexRow hl hg
  clear hg
  by_cases h : t.findIdx p < t.length
  · have ha : t.any p = true := by
      rw [List.any_eq_true]
      rw [List.findIdx_lt_length] at h
      exact h
    rw [if_pos h] at h1
    rw [ha]
    have h2 : (0 : Int) ≤ (t.findIdx p : Int) := by omega
    clear ha h
    refine go3 ?_
    trivial
  · have ha : t.any p = false := by
      rw [← Bool.not_eq_true, List.any_eq_true, ← List.findIdx_lt_length]
      exact h
    rw [if_neg h] at h1
    rw [ha]
    clear ha h
    refine go3 ?_
    trivial
theorem s_IndexTab {l : List (List (List Rat))} {g : Nat} {p : List (List Rat) → Bool} (hl : l.length ≤ 1000000) (hg : ∀ x ∈ l, CP (CL F) g [eT x] = some (.bool (p x))) :
    CP (CL F) 147 [.lst (em eT l), .fn g [] []] = some (eI (if l.findIdx p < l.length then (l.findIdx p : Int) else -1)) := by
  refine CP_X (F := F) (f := 147) rfl rfl ?_
  refine go3 ?_
  refine X_upto l.length (fun i s => ∃ j4 j5 j9 j16 g', (∀ j, j < i → p (l.getD j default) = false) ∧ s = ⟨[(0, .lst (em eT l)), (1, .fn g [] []), (4, j4), (5, j5), (7, eI l.length), (8, eI i), (9, j9), (16, j16)], g'⟩) ?_ 0 (Nat.zero_le _) _ ⟨_, _, _, _, _, fun j hj => by omega, rfl⟩
  rintro i s hi ⟨j4, j5, j9, j16, g', hall, rfl⟩ rec
  by_cases hlt : i < l.length
  · have hlt2 := lt_c hlt
    have g1 := em_getN (f := eT) l i hlt
    have hc := hg _ (getD_mem (l := l) (i := i) hlt)
    cases hp : p (l.getD i default) with
    | true =>
      rw [findIdx_spec hlt hp hall, if_pos hlt]
      rw [hp] at hc
      clear hall hg rec hi hp
      refine go3 ?_
      trivial
    | false =>
      rw [hp] at hc
      have hnext : ∀ j, j < i + 1 → p (l.getD j default) = false := fun j hj => by
        rcases Nat.lt_or_ge j i with h | h
        · exact hall j h
        · have : j = i := by omega
          subst this; exact hp
      have hw := i64_nat (n := i) (by omega)
      clear hall hg hp
      refine go3 ?_
      exact rec _ hlt ⟨_, _, _, _, _, hnext, rfl⟩
  · have hl3 : ¬ ((i : Int) < (l.length : Int)) := by omega
    have he := findIdx_none (l := l) (p := p) fun j hj => hall j (by omega)
    rw [if_neg he]
    clear hall hg rec he
    refine go3 ?_
    trivial
theorem s_ContainsTab {l : List (List (List Rat))} {g : Nat} {p : List (List Rat) → Bool} (hl : l.length ≤ 1000000) (hg : ∀ x ∈ l, CP (CL F) g [eT x] = some (.bool (p x))) :
    CP (CL F) 110 [.lst (em eT l), .fn g [] []] = some (.bool (l.any p)) := by
  refine CP_X (F := F) (f := 110) rfl rfl ?_
  have h1 := s_IndexTab hl hg
  clear hg
  by_cases h : l.findIdx p < l.length
  · have ha : l.any p = true := by
      rw [List.any_eq_true]
      rw [List.findIdx_lt_length] at h
      exact h
    rw [if_pos h] at h1
    rw [ha]
    have h2 : (0 : Int) ≤ (l.findIdx p : Int) := by omega
    clear ha h
    refine go3 ?_
    trivial
  · have ha : l.any p = false := by
      rw [← Bool.not_eq_true, List.any_eq_true, ← List.findIdx_lt_length]
      exact h
    rw [if_neg h] at h1
    rw [ha]
    clear ha h
    refine go3 ?_
    trivial
theorem s_Size (t : List (List Rat)) : CP (CL F) 27 [eT t] = some (.tup [eI t.length, eI (wide t)]) := by
  refine CP_X (F := F) (f := 27) rfl rfl ?_
  cases t with
  | nil =>
    have h : wide [] = 0 := rfl
    have h0 : em eR [] = [] := rfl
    refine go3 ?_
    trivial
  | cons r t =>
    have h : wide (r :: t) = r.length := rfl
    have h1 : ¬ (((r :: t).length : Int) = 0) := by simp; omega
    have g1 := em_getN (f := eR) (r :: t) 0 (by simp)
    rw [show (r :: t).getD 0 default = r from rfl] at g1
    generalize r :: t = x at *
    refine go3 ?_
    trivial
theorem s_Wide (t : List (List Rat)) : CP (CL F) 41 [rT t] = some (eI (wide t)) := by
  refine CP_X (F := F) (f := 41) rfl rfl ?_
  cases t with
  | nil =>
    have h : wide [] = 0 := rfl
    have h0 : em rR [] = [] := rfl
    refine go3 ?_
    trivial
  | cons r t =>
    have h : wide (r :: t) = r.length := rfl
    have h1 : ¬ (((r :: t).length : Int) = 0) := by simp; omega
    have g1 := em_getN (f := rR) (r :: t) 0 (by simp)
    rw [show (r :: t).getD 0 default = r from rfl] at g1
    generalize r :: t = x at *
    refine go3 ?_
    trivial
theorem s_Check1 (r : List Rat) (c : Int) : CP (CL F) 57 [eR r, .fad (.int .i64 c)] = some (.bool (decide ((r.length : Int) ≠ c))) := by
  refine CP_X (F := F) (f := 57) rfl rfl ?_
  have c3 : ∀ h, fz h (.fad (.int .i64 c)) = some (.fad (.int .i64 c)) := fun _ => rfl
  refine go3 ?_
  simp
def may (t : List (List Rat)) : Bool := decide (t.length ≤ 200) && decide (wide t ≤ 200) && even t
theorem s_Check {t : List (List Rat)} (hl : t.length ≤ 1000000) : CP (CL F) 14 [eT t] = some (eI (if may t then 0 else 8)) := by
  refine CP_X (F := F) (f := 14) rfl rfl ?_
  have h0 := s_Size t
  have h1 := s_ContainsRow (t := t) (g := 57) (c := wide t) hl fun x _ => s_Check1 x _
  have h2 : t.any (fun x => decide ((x.length : Int) ≠ (wide t : Int))) = !even t := by
    unfold even
    rw [List.not_all_eq_any_not]
    congr 1
    funext r
    by_cases h : r.length = wide t
    · simp [h]
    · simp [h]; omega
  have c5 : ∀ g, fz (some ⟨0, 1, [eI (wide t)]⟩ :: g) (.fn 57 [] [.ptr 0 0 0 0]) = some (.fn 57 [] [.fad (eI (wide t))]) := fun _ => rfl
  have c6 : ∀ g, used (some ⟨0, 1, [eI (wide t)]⟩ :: g) deep (.fn 57 [] [.ptr 0 0 0 0]) = [0] := fun _ => rfl
  rw [h2] at h1
  clear h2
  by_cases a1 : t.length ≤ 200
  · have b1 : ¬ ((200 : Int) < (t.length : Int)) := by omega
    by_cases a2 : wide t ≤ 200
    · have b2 : ¬ ((200 : Int) < (wide t : Int)) := by omega
      cases h3 : even t with
      | true =>
        have h4 : may t = true := by simp [may, a1, a2, h3]
        rw [h3] at h1
        rw [Bool.not_true] at h1
        rw [h4, if_pos rfl]
        clear h3 h4 a1 a2
        refine go3 ?_
        trivial
      | false =>
        have h4 : may t = false := by simp [may, a1, a2, h3]
        rw [h3] at h1
        rw [Bool.not_false] at h1
        rw [h4, if_neg (by decide)]
        clear h3 h4 a1 a2
        refine go3 ?_
        trivial
    · have b2 : (200 : Int) < (wide t : Int) := by omega
      have h4 : may t = false := by simp [may, a2]
      rw [h4, if_neg (by decide)]
      clear h4 a1 a2
      refine go3 ?_
      trivial
  · have b1 : (200 : Int) < (t.length : Int) := by omega
    have h4 : may t = false := by simp [may, a1]
    rw [h4, if_neg (by decide)]
    clear h4 a1
    refine go3 ?_
    trivial
theorem s_checks1 {t : List (List Rat)} (hl : t.length ≤ 1000000) : CP (CL F) 111 [eT t] = some (.bool (!may t)) := by
  refine CP_X (F := F) (f := 111) rfl rfl ?_
  have h := s_Check hl
  cases h1 : may t with
  | true =>
    rw [h1] at h
    rw [if_pos rfl] at h
    clear h1
    refine go3 ?_
    trivial
  | false =>
    rw [h1] at h
    rw [if_neg (by decide)] at h
    clear h1
    refine go3 ?_
    trivial
theorem s_checks {l : List (List (List Rat))} (hl : l.length ≤ 1000000) (ht : ∀ t ∈ l, t.length ≤ 1000000) : CP (CL F) 66 [.lst (em eT l)] = some (.bool (l.all may)) := by
  refine CP_X (F := F) (f := 66) rfl rfl ?_
  have h := s_ContainsTab (l := l) (g := 111) hl fun x hx => s_checks1 (ht x hx)
  have h2 : l.all may = !(l.any fun x => !may x) := by rw [List.not_any_eq_all_not]; simp
  rw [h2]
  cases h3 : l.any fun x => !may x with
  | true =>
    rw [h3] at h
    clear h2 h3 ht
    refine go3 ?_
    trivial
  | false =>
    rw [h3] at h
    clear h2 h3 ht
    refine go3 ?_
    trivial
end Go.S

end
section
set_option linter.unusedVariables false
set_option linter.unusedSimpArgs false
set_option maxRecDepth 100000
namespace Go.S
open Go Go.AM Go.RowKit Go.K
theorem s_Few_raw {l : List XQ} (hx : ∀ x ∈ l, x.ok) {most : Nat} (hm : most ≤ 1000000) : ∃ qs : List Rat, qs.length = min l.length most ∧ (∀ q ∈ qs, Lq q ≤ 1) ∧ ∀ h, ∃ v w g, CL F 44 [.lst (em eX l), eI most] h = some (.tup [.ref h.length v 3 0 qs.length, .ref (h.length + 1) w 3 0 qs.length], h ++ (some ⟨v, 3, em eQ qs⟩ :: some ⟨w, 3, em rQ qs⟩ :: g)) := by
  have hex : ∃ f : XQ → Rat, ∀ x ∈ l, Lq (f x) ≤ 1 ∧ CP (CL F) 91 [eX x, eI 1] = some (eQ (f x)) := by
    classical
    refine ⟨fun x => if h : x ∈ l then (s_r08_CleanX (hx x h) (m := 1) (by decide) (by decide)).choose else 0, fun x h => ?_⟩
    simp only [h, dif_pos]
    exact (s_r08_CleanX (hx x h) (m := 1) (by decide) (by decide)).choose_spec
  obtain ⟨f, hf⟩ := hex
  refine ⟨(l.take most).map f, by simp; omega, fun q hq => by
    obtain ⟨x, hx, rfl⟩ := List.mem_map.1 hq
    exact (hf x (List.mem_of_mem_take hx)).1, fun h => ?_⟩
  suffices H : ∃ x, CL F 44 [.lst (em eX l), eI most] h = some x ∧ ∃ v w g, x = (.tup [.ref h.length v 3 0 ((l.take most).map f).length, .ref (h.length + 1) w 3 0 ((l.take most).map f).length], h ++ (some ⟨v, 3, em eQ ((l.take most).map f)⟩ :: some ⟨w, 3, em rQ ((l.take most).map f)⟩ :: g)) by
    obtain ⟨x, h1, v, w, g, rfl⟩ := H
    exact ⟨v, w, g, h1⟩
  refine CL_XE (F := F) (f := 44) rfl rfl ?_
  have c1 := @cells_eX
  have c2 := @agg_eX
  have c3 := @fz_eX
  have c4 := @us_eX
  have c5 := @shut_eX
  clear hx
  refine go3 ?_
  refine X_upto (min l.length most) (fun i s => ∃ j4 j5 j9 j20 v w g, s = ⟨[(0, .lst (em eX l)), (1, eI most), (4, j4), (5, j5), (6, .ref h.length v 3 0 i), (7, .ref (h.length + 1) w 3 0 i), (8, eI i), (9, j9), (20, j20)], h ++ (some ⟨v, 3, em eQ ((l.take i).map f)⟩ :: some ⟨w, 3, em rQ ((l.take i).map f)⟩ :: g)⟩) ?_ 0 (Nat.zero_le _) _ ⟨_, _, _, _, _, _, [], rfl⟩
  rintro i s hi ⟨j4, j5, j9, j20, v, w, g, rfl⟩ rec
  have hlen : ((l.take i).map f).length = i := by simp; omega
  have ht : List.take i ((l.take i).map f) = (l.take i).map f := take_len_g _ hlen.symm
  by_cases h1 : i < l.length
  · have h1' := lt_c h1
    by_cases h2 : i < most
    · have h2' := lt_c h2
      have hi2 : i < min l.length most := by omega
      have hg0 := em_getN (f := eX) l i h1
      obtain ⟨f1, f2⟩ := hf _ (getD_mem h1)
      have k1 := s_r08_Of (q := f (l.getD i default)) (by omega)
      have hs : (l.take i).map f ++ [f (l.getD i default)] = (l.take (i + 1)).map f := by rw [take_succ_getD l i h1]; simp
      have hlim : i + 1 ≤ 2513169434916 := by omega
      have hlim2 : i < 2513169434916 := by omega
      have hw := i64_nat (n := i) (by omega)
      clear hf f1 hlen hi
      refine go3 ?_
      exact rec _ hi2 ⟨_, _, _, _, _, _, _, rfl⟩
    · have h2' : ¬ ((i : Int) < (most : Int)) := by omega
      have hi2 : i = most := by omega
      subst hi2
      clear hf rec hi h1
      refine go3 ?_
      exact ⟨_, rfl, _, _, _, rfl⟩
  · have h1' : ¬ ((i : Int) < (l.length : Int)) := by omega
    have hi2 : l.take most = l := List.take_of_length_le (by omega)
    have hi3 : l.take i = l := List.take_of_length_le (by omega)
    rw [hi3] at hlen
    have ht2 : List.take i (l.map f) = l.map f := take_len_g _ hlen.symm
    rw [hi2, hi3]
    clear hf rec hi h1 hi2 hi3
    refine go3 ?_
    exact ⟨_, rfl, _, _, _, rfl⟩
def RowAt (b : Nat) (g : Heap) (f : Rat → AV) (c : AV) (r : List Rat) (k : Nat) : Prop := ∃ v ys, c = .ref (b + k) v 3 0 r.length ∧ g[k]? = some (some ⟨v, 3, em f r ++ ys⟩)
def RowsIn (b : Nat) (g : Heap) (f : Rat → AV) (cs : List AV) (t : List (List Rat)) (ks : List Nat) : Prop :=
  cs.length = t.length ∧ ks.length = t.length ∧ ∀ i, i < t.length → RowAt b g f (cs.getD i default) (t.getD i default) (ks.getD i default)
theorem RowAt.lt {b : Nat} {g : Heap} {f : Rat → AV} {c : AV} {r : List Rat} {k : Nat} (h : RowAt b g f c r k) : k < g.length := by
  obtain ⟨v, ys, rfl, h⟩ := h
  exact (List.getElem?_eq_some_iff.1 h).1
theorem RowAt.grow {b : Nat} {g : Heap} {f : Rat → AV} {c : AV} {r : List Rat} {k : Nat} (h : RowAt b g f c r k) (g' : Heap) : RowAt b (g ++ g') f c r k := by
  obtain ⟨v, ys, h1, h2⟩ := h
  refine ⟨v, ys, h1, ?_⟩
  rw [List.getElem?_append_left (List.getElem?_eq_some_iff.1 h2).1]
  exact h2
theorem RowAt.set {b : Nat} {g : Heap} {f : Rat → AV} {c : AV} {r : List Rat} {k : Nat} (h : RowAt b g f c r k) {j : Nat} (hj : j ≠ k) (x : Option Blk) : RowAt b (g.set j x) f c r k := by
  obtain ⟨v, ys, h1, h2⟩ := h
  refine ⟨v, ys, h1, ?_⟩
  rw [List.getElem?_set_ne hj]
  exact h2
theorem RowsIn.grow {b : Nat} {g : Heap} {f : Rat → AV} {cs : List AV} {t : List (List Rat)} {ks : List Nat} (h : RowsIn b g f cs t ks) (g' : Heap) : RowsIn b (g ++ g') f cs t ks :=
  ⟨h.1, h.2.1, fun i hi => (h.2.2 i hi).grow g'⟩
theorem RowsIn.snoc {b : Nat} {g : Heap} {f : Rat → AV} {cs : List AV} {t : List (List Rat)} {ks : List Nat} (h : RowsIn b g f cs t ks) {c : AV} {r : List Rat} {k : Nat} (h1 : RowAt b g f c r k) : RowsIn b g f (cs ++ [c]) (t ++ [r]) (ks ++ [k]) := by
  obtain ⟨a1, a2, a3⟩ := h
  refine ⟨by simp [a1], by simp [a2], fun i hi => ?_⟩
  by_cases hl : i < t.length
  · rw [getD_snoc_lt (by omega), getD_snoc_lt hl, getD_snoc_lt (by omega)]
    exact a3 i hl
  · have : i = t.length := by simp at hi; omega
    subst this
    rw [getD_snoc_eq]
    rw [← a1, getD_snoc_eq, a1, ← a2, getD_snoc_eq]
    exact h1
theorem RowsIn.lt {b : Nat} {g : Heap} {f : Rat → AV} {cs : List AV} {t : List (List Rat)} {ks : List Nat} (h : RowsIn b g f cs t ks) : ∀ k ∈ ks, k < g.length := fun k hk => by
  obtain ⟨i, hi, rfl⟩ := List.getElem_of_mem hk
  have := (h.2.2 i (by have := h.2.1; omega)).lt
  rw [List.getD_eq_getElem?_getD, List.getElem?_eq_getElem hi] at this
  exact this
abbrev eXL (l : List XQ) : AV := .lst (em eX l)
theorem s_Few12_raw {t : List (List XQ)} (hx : ∀ l ∈ t, ∀ x ∈ l, x.ok) {most : Nat} (hm : most ≤ 1000000) : ∃ qs : List (List Rat), qs.length = min t.length most ∧ (∀ r ∈ qs, r.length ≤ most ∧ ∀ q ∈ r, Lq q ≤ 1) ∧
    ∀ h, ∃ v w cs ds ks ls g, CL F 11 [.lst (em eXL t), eI most] h = some (.tup [.ref h.length v 1 0 qs.length, .ref (h.length + 1) w 1 0 qs.length], h ++ (some ⟨v, 1, cs⟩ :: some ⟨w, 1, ds⟩ :: g)) ∧
      RowsIn (h.length + 2) g eQ cs qs ks ∧ RowsIn (h.length + 2) g rQ ds qs ls ∧ (ks ++ ls).Nodup := by
  have hex : ∃ f : List XQ → List Rat, ∀ l ∈ t, (f l).length = min l.length most ∧ (∀ q ∈ f l, Lq q ≤ 1) ∧ ∀ h, ∃ v w g, CL F 44 [eXL l, eI most] h = some (.tup [.ref h.length v 3 0 (f l).length, .ref (h.length + 1) w 3 0 (f l).length], h ++ (some ⟨v, 3, em eQ (f l)⟩ :: some ⟨w, 3, em rQ (f l)⟩ :: g)) := by
    classical
    refine ⟨fun l => if h : l ∈ t then (s_Few_raw (hx l h) hm).choose else [], fun l h => ?_⟩
    simp only [h, dif_pos]
    exact (s_Few_raw (hx l h) hm).choose_spec
  obtain ⟨f, hf⟩ := hex
  refine ⟨(t.take most).map f, by simp; omega, fun r hr => ?_, fun h => ?_⟩
  · obtain ⟨l, hl, rfl⟩ := List.mem_map.1 hr
    obtain ⟨h1, h2, _⟩ := hf l (List.mem_of_mem_take hl)
    exact ⟨by omega, h2⟩
  suffices H : ∃ x, CL F 11 [.lst (em eXL t), eI most] h = some x ∧ ∃ v w cs ds ks ls g, x = (.tup [.ref h.length v 1 0 ((t.take most).map f).length, .ref (h.length + 1) w 1 0 ((t.take most).map f).length], h ++ (some ⟨v, 1, cs⟩ :: some ⟨w, 1, ds⟩ :: g)) ∧
      RowsIn (h.length + 2) g eQ cs ((t.take most).map f) ks ∧ RowsIn (h.length + 2) g rQ ds ((t.take most).map f) ls ∧ (ks ++ ls).Nodup by
    obtain ⟨x, h1, v, w, cs, ds, ks, ls, g, rfl, h2⟩ := H
    exact ⟨v, w, cs, ds, ks, ls, g, h1, h2⟩
  refine CL_XE (F := F) (f := 11) rfl rfl ?_
  clear hx
  refine go3 ?_
  refine X_upto (min t.length most) (fun i s => ∃ j4 j5 j9 j10 j21 v w cs ds ks ls g, RowsIn (h.length + 2) g eQ cs ((t.take i).map f) ks ∧ RowsIn (h.length + 2) g rQ ds ((t.take i).map f) ls ∧ (ks ++ ls).Nodup ∧
    s = ⟨[(0, .lst (em eXL t)), (1, eI most), (4, j4), (5, j5), (6, .ref h.length v 1 0 i), (7, .ref (h.length + 1) w 1 0 i), (8, eI i), (9, j9), (10, j10), (21, j21)], h ++ (some ⟨v, 1, cs⟩ :: some ⟨w, 1, ds⟩ :: g)⟩) ?_ 0 (Nat.zero_le _) _
    ⟨_, _, _, _, _, _, _, [], [], [], [], [], ⟨rfl, rfl, fun i hi => by simp at hi⟩, ⟨rfl, rfl, fun i hi => by simp at hi⟩, by simp, rfl⟩
  rintro i s hi ⟨j4, j5, j9, j10, j21, v, w, cs, ds, ks, ls, g, R1, R2, R3, rfl⟩ rec
  have hlen : ((t.take i).map f).length = i := by simp; omega
  have l1 : cs.length = i := by rw [R1.1, hlen]
  have l2 : ds.length = i := by rw [R2.1, hlen]
  have ht1 : List.take i cs = cs := take_len_g _ l1.symm
  have ht2 : List.take i ds = ds := take_len_g _ l2.symm
  have ht3 : sub cs 0 i = cs := by unfold sub; rw [List.drop_zero]; exact ht1
  have ht4 : sub ds 0 i = ds := by unfold sub; rw [List.drop_zero]; exact ht2
  by_cases h1 : i < t.length
  · have h1' := lt_c h1
    by_cases h2 : i < most
    · have h2' := lt_c h2
      have hi2 : i < min t.length most := by omega
      have hg0 := em_getN (f := eXL) t i h1
      obtain ⟨f1, f2, f3⟩ := hf _ (getD_mem h1)
      obtain ⟨v', w', g', f4⟩ := f3 (h ++ (some ⟨v, 1, cs⟩ :: some ⟨w, 1, ds⟩ :: g))
      have hs : (t.take i).map f ++ [f (t.getD i default)] = (t.take (i + 1)).map f := by rw [take_succ_getD t i h1]; simp
      have hlim : i + 1 ≤ 5864062014805 := by omega
      have hlim2 : i < 5864062014805 := by omega
      have hw := i64_nat (n := i) (by omega)
      generalize hr : f (t.getD i default) = r at *
      clear hf f1 f2 f3 hlen hi
      refine go3 ?_
      refine rec _ hi2 ⟨_, _, _, _, _, _, _, _, _, ks ++ [g.length], ls ++ [g.length + 1], _, ?_, ?_, ?_, rfl⟩
      · rw [← hs]
        refine (R1.grow _).snoc ?_
        refine ⟨v', [], by congr 1; omega, ?_⟩
        rw [get_app0, List.append_nil]
        rfl
      · rw [← hs]
        refine (R2.grow _).snoc ?_
        refine ⟨w', [], by congr 1; omega, ?_⟩
        rw [get_app, List.append_nil]
        rfl
      · have q1 := R1.lt
        have q2 := R2.lt
        rw [List.nodup_append] at R3 ⊢
        obtain ⟨n1, n2, n3⟩ := R3
        refine ⟨?_, ?_, ?_⟩
        · rw [List.nodup_append]
          exact ⟨n1, by simp, fun a ha b hb => by have := q1 a ha; simp at hb; omega⟩
        · rw [List.nodup_append]
          exact ⟨n2, by simp, fun a ha b hb => by have := q2 a ha; simp at hb; omega⟩
        · intro a ha b hb
          simp only [List.mem_append, List.mem_singleton] at ha hb
          rcases ha with ha | rfl
          · rcases hb with hb | rfl
            · exact n3 a ha b hb
            · have := q1 a ha; omega
          · rcases hb with hb | rfl
            · have := q2 b hb; omega
            · omega
    · have h2' : ¬ ((i : Int) < (most : Int)) := by omega
      have hi2 : i = most := by omega
      subst hi2
      clear hf rec hi h1
      refine go3 ?_
      exact ⟨_, rfl, _, _, _, _, _, _, _, rfl, R1, R2, R3⟩
  · have h1' : ¬ ((i : Int) < (t.length : Int)) := by omega
    have hi2 : t.take most = t := List.take_of_length_le (by omega)
    have hi3 : t.take i = t := List.take_of_length_le (by omega)
    rw [hi3] at hlen R1 R2
    rw [hi2]
    clear hf rec hi h1 hi2 hi3
    refine go3 ?_
    exact ⟨_, rfl, _, _, _, _, _, _, _, rfl, R1, R2, R3⟩
theorem RowAt.frz {b : Nat} {g H : Heap} {f : Rat → AV} {c : AV} {r : List Rat} {k : Nat} (h : RowAt b g f c r k) (hf : ∀ x, plain1 (f x) = true) (hH : H[b + k]? = g[k]?) (n : Nat) : frz H (n + 3) c = some (.lst (em f r)) := by
  obtain ⟨v, ys, rfl, h2⟩ := h
  show (blk H (b + k) v).bind (fun b => ((sub b.xs 0 r.length).mapM (Go.AM.frz H (n + 2))).map AV.lst) = _
  have h3 : blk H (b + k) v = some ⟨v, 3, em f r ++ ys⟩ := by
    unfold blk
    rw [hH, h2]
    exact if_pos rfl
  rw [h3]
  have h4 : sub (em f r ++ ys) 0 r.length = em f r := by
    unfold sub
    rw [List.drop_zero, List.take_left' (by simp [em])]
  show ((sub (em f r ++ ys) 0 r.length).mapM (Go.AM.frz H (n + 2))).map AV.lst = _
  rw [h4, mapM_some (G := id) _ fun x hx => by
    obtain ⟨q, _, rfl⟩ := List.mem_map.1 hx
    exact (frz_plain1 (hf q)).1]
  simp
theorem RowsIn.frz {b : Nat} {g H : Heap} {f : Rat → AV} {cs : List AV} {t : List (List Rat)} {ks : List Nat} (h : RowsIn b g f cs t ks) (hf : ∀ x, plain1 (f x) = true) (hH : ∀ k, H[b + k]? = g[k]?) (n : Nat) : cs.mapM (frz H (n + 3)) = some (em (fun r => .lst (em f r)) t) := by
  obtain ⟨h1, h2, h3⟩ := h
  have key : ∀ (cs : List AV) (t : List (List Rat)), cs.length = t.length → (∀ i, i < t.length → Go.AM.frz H (n + 3) (cs.getD i default) = some (.lst (em f (t.getD i default)))) → cs.mapM (Go.AM.frz H (n + 3)) = some (em (fun r => .lst (em f r)) t) := by
    intro cs
    induction cs with
    | nil =>
      intro t ht _
      cases t with
      | nil => rfl
      | cons r t => simp at ht
    | cons c cs ih =>
      intro t ht hi
      cases t with
      | nil => simp at ht
      | cons r t =>
        have a0 := hi 0 (by simp)
        have a1 := ih t (by simpa using ht) fun i hi' => hi (i + 1) (by simp; omega)
        rw [List.mapM_cons]
        rw [show Go.AM.frz H (n + 3) c = some (.lst (em f r)) from a0, a1]
        rfl
  exact key cs t h1 fun i hi => (h3 i hi).frz hf (hH _) n
theorem fz_rows2 {h : Heap} {v w : Nat} {cs ds : List AV} {g : Heap} {t : List (List Rat)} {ks ls : List Nat} (R1 : RowsIn (h.length + 2) g eQ cs t ks) (R2 : RowsIn (h.length + 2) g rQ ds t ls) :
    fz (h ++ (some ⟨v, 1, cs⟩ :: some ⟨w, 1, ds⟩ :: g)) (.tup [.ref h.length v 1 0 t.length, .ref (h.length + 1) w 1 0 t.length]) = some (.tup [eT t, rT t]) := by
  have hH : ∀ k, (h ++ (some ⟨v, 1, cs⟩ :: some ⟨w, 1, ds⟩ :: g))[h.length + 2 + k]? = g[k]? := fun k => by
    rw [Nat.add_assoc, get_app, show 2 + k = k + 1 + 1 by omega]
    rfl
  have a1 := R1.frz (fun x => E_eQ.pl x) hH 2
  have a2 := R2.frz (fun x => E_rQ.pl x) hH 2
  have b1 : blk (h ++ (some ⟨v, 1, cs⟩ :: some ⟨w, 1, ds⟩ :: g)) h.length v = some ⟨v, 1, cs⟩ := by
    unfold blk
    rw [get_app0]
    exact if_pos rfl
  have b2 : blk (h ++ (some ⟨v, 1, cs⟩ :: some ⟨w, 1, ds⟩ :: g)) (h.length + 1) w = some ⟨w, 1, ds⟩ := by
    unfold blk
    rw [get_app]
    exact if_pos rfl
  generalize h ++ (some ⟨v, 1, cs⟩ :: some ⟨w, 1, ds⟩ :: g) = H at *
  have c1 : sub cs 0 t.length = cs := by unfold sub; rw [List.drop_zero]; exact List.take_of_length_le (by rw [R1.1]; omega)
  have c2 : sub ds 0 t.length = ds := by unfold sub; rw [List.drop_zero]; exact List.take_of_length_le (by rw [R2.1]; omega)
  have d1 : frz H 6 (.ref h.length v 1 0 t.length) = some (eT t) := by
    show (blk H h.length v).bind (fun b => ((sub b.xs 0 t.length).mapM (Go.AM.frz H 5)).map AV.lst) = _
    rw [b1]
    show ((sub cs 0 t.length).mapM (Go.AM.frz H 5)).map AV.lst = _
    rw [c1, a1]
    rfl
  have d2 : frz H 6 (.ref (h.length + 1) w 1 0 t.length) = some (rT t) := by
    show (blk H (h.length + 1) w).bind (fun b => ((sub b.xs 0 t.length).mapM (Go.AM.frz H 5)).map AV.lst) = _
    rw [b2]
    show ((sub ds 0 t.length).mapM (Go.AM.frz H 5)).map AV.lst = _
    rw [c2, a2]
    rfl
  show ([AV.ref h.length v 1 0 t.length, .ref (h.length + 1) w 1 0 t.length].mapM (Go.AM.frz H 6)).map AV.tup = _
  rw [List.mapM_cons, d1, List.mapM_cons, d2]
  rfl
theorem s_Few12 {t : List (List XQ)} (hx : ∀ l ∈ t, ∀ x ∈ l, x.ok) {most : Nat} (hm : most ≤ 1000000) : ∃ qs : List (List Rat), qs.length = min t.length most ∧ (∀ r ∈ qs, r.length ≤ most ∧ ∀ q ∈ r, Lq q ≤ 1) ∧
    CP (CL F) 11 [.lst (em eXL t), eI most] = some (.tup [eT qs, rT qs]) := by
  obtain ⟨qs, h1, h2, h3⟩ := s_Few12_raw hx hm
  refine ⟨qs, h1, h2, ?_⟩
  obtain ⟨v, w, cs, ds, ks, ls, g, h4, R1, R2, _⟩ := h3 []
  exact CP_raw h4 (fz_rows2 (h := []) R1 R2)
end Go.S

end
section
set_option linter.unusedVariables false
set_option linter.unusedSimpArgs false
set_option maxRecDepth 100000
namespace Go.Proofs.YtflnfnemhgjglaaGreat.R
open Go Go.AM Go.S Go.RowKit Go.K Go.Proofs
theorem rdT : Rd Tryz.prog 22 (fun l : List (List XQ) => [.lst (em eXL l)]) fun l => ∀ r ∈ l, ∀ x ∈ r, x.ok :=
  (rd_slice Tryz.underlying22 rdR eXL (fun _ => rfl) (s := 1) (by kernel_rfl) (fun _ => rfl) (by decide)).map id (fun _ => rfl) fun l h => h.1
end Go.Proofs.YtflnfnemhgjglaaGreat.R

end
section
set_option linter.unusedVariables false
set_option linter.unusedSimpArgs false
set_option maxRecDepth 100000
namespace Go.S
open Go Go.AM Go.RowKit Go.K
theorem getD_inj' {α : Type} [Inhabited α] {l r : List α} {i : Nat} (hne : l.getD i default ≠ r.getD i default) : l ≠ r := fun e => hne (by rw [e])
theorem s_EqualRows {a b : List (List Rat)} {g : Nat} (ha : a.length ≤ 1000000) (hg : ∀ x ∈ a, ∀ y ∈ b, CP (CL F) g [eR x, eR y] = some (.bool (decide (x = y)))) :
    CP (CL F) 63 [eT a, eT b, .fn g [] []] = some (.bool (decide (a = b))) := by
  refine CP_X (F := F) (f := 63) rfl rfl ?_
  by_cases hl : a.length = b.length
  · have hl1 : ¬ ((a.length : Int) ≠ (b.length : Int)) := by omega
    have hl2 : (a.length : Int) = (b.length : Int) := by omega
    refine go3 ?_
    refine X_upto a.length (fun i s => ∃ j6 j7 j8 j9 j18 j30 g', (a.take i = b.take i) ∧ s = ⟨[(0, eT a), (1, eT b), (2, .fn g [] []), (6, j6), (7, j7), (8, j8), (9, j9), (14, .bool false), (15, eT a), (16, eI b.length), (17, eI i), (18, j18), (30, j30)], g'⟩) ?_ 0 (Nat.zero_le _) _ ⟨_, _, _, _, _, _, _, by simp, rfl⟩
    rintro i s hi ⟨j6, j7, j8, j9, j18, j30, g', heq, rfl⟩ rec
    by_cases hlt : i < a.length
    · have hlt1 : (i : Int) < (b.length : Int) := by omega
      have hlt2 : (i : Int) < (a.length : Int) := by omega
      have g1 := em_getN (f := eR) a i (by omega)
      have g2 := em_getN (f := eR) b i (by omega)
      have hc := hg _ (getD_mem (l := a) (i := i) (by omega)) _ (getD_mem (l := b) (i := i) (by omega))
      by_cases hx : a.getD i default = b.getD i default
      · have hx' : decide (a.getD i default = b.getD i default) = true := decide_eq_true hx
        rw [hx'] at hc
        have hnext : a.take (i + 1) = b.take (i + 1) := by rw [take_succ_getD a i hlt, take_succ_getD b i (by omega), heq, hx]
        have hw := i64_nat (n := i) (by omega)
        clear hx hx' heq hg
        refine go3 ?_
        exact rec _ hlt ⟨_, _, _, _, _, _, _, hnext, rfl⟩
      · have hx' : decide (a.getD i default = b.getD i default) = false := decide_eq_false hx
        rw [hx'] at hc
        have hne : decide (a = b) = false := by simpa using getD_inj' hx
        clear hx hx' heq hg rec
        refine go3 ?_
        trivial
    · have hl3 : ¬ ((i : Int) < (b.length : Int)) := by omega
      have he : decide (a = b) = true := by
        rw [List.take_of_length_le (by omega), List.take_of_length_le (by omega)] at heq
        simpa using heq
      clear heq hg rec
      refine go3 ?_
      trivial
  · have hl1 : (a.length : Int) ≠ (b.length : Int) := by omega
    have hl2 : ¬ (a.length : Int) = (b.length : Int) := by omega
    have he : decide (a = b) = false := by simpa using fun e => hl (by rw [e])
    clear hg
    refine go3 ?_
    trivial
theorem s_mSame {a b : List (List Rat)} (ha : a.length ≤ 1000000) (h0 : ∀ r ∈ a, r.length ≤ 1000000 ∧ ∀ q ∈ r, Lq q < 100000000) : CP (CL F) 21 [eT a, eT b] = some (.bool (decide (a = b))) := by
  refine CP_X (F := F) (f := 21) rfl rfl ?_
  have h := s_EqualRows (a := a) (b := b) (g := 64) ha fun x hx y hy => s_vect_Same (h0 x hx).1 (h0 x hx).2
  clear h0
  refine go3 ?_
  trivial
end Go.S

end
section
set_option linter.unusedVariables false
set_option linter.unusedSimpArgs false
namespace Go.S
abbrev Mt := Nat → Nat → Rat
def sm : Nat → (Nat → Rat) → Rat
  | 0, _ => 0
  | n + 1, f => sm n f + f n
theorem sm_congr {n : Nat} {f g : Nat → Rat} (h : ∀ i, i < n → f i = g i) : sm n f = sm n g := by
  induction n with
  | zero => rfl
  | succ n ih => simp only [sm]; rw [ih fun i hi => h i (by omega), h n (by omega)]
theorem sm_zero (n : Nat) : sm n (fun _ => 0) = 0 := by
  induction n with
  | zero => rfl
  | succ n ih => simp only [sm]; rw [ih]; grind
theorem sm_zero' {n : Nat} {f : Nat → Rat} (h : ∀ i, i < n → f i = 0) : sm n f = 0 := (sm_congr h).trans (sm_zero n)
theorem sm_add (n : Nat) (f g : Nat → Rat) : sm n (fun i => f i + g i) = sm n f + sm n g := by
  induction n with
  | zero => simp only [sm]; grind
  | succ n ih => simp only [sm]; rw [ih]; grind
theorem sm_mul (n : Nat) (k : Rat) (f : Nat → Rat) : sm n (fun i => k * f i) = k * sm n f := by
  induction n with
  | zero => simp only [sm]; grind
  | succ n ih => simp only [sm]; rw [ih]; grind
theorem sm_neg (n : Nat) (f : Nat → Rat) : sm n (fun i => -f i) = -sm n f := by
  rw [sm_congr (g := fun i => (-1) * f i) fun i _ => by grind, sm_mul]; grind
theorem sm_one {n j : Nat} {f : Nat → Rat} (hj : j < n) (h : ∀ i, i < n → i ≠ j → f i = 0) : sm n f = f j := by
  induction n with
  | zero => omega
  | succ n ih =>
    simp only [sm]
    by_cases e : j = n
    · subst e
      rw [sm_zero' fun i hi => h i (by omega) (by omega)]; grind
    · rw [ih (by omega) fun i hi hne => h i (by omega) hne, h n (by omega) (by omega)]; grind
def psg (j : Nat) : Rat := if j % 2 = 0 then 1 else -1
theorem psg_succ (j : Nat) : psg (j + 1) = -psg j := by
  unfold psg
  rcases Nat.mod_two_eq_zero_or_one j with h | h
  · rw [if_neg (by omega), if_pos h]
  · rw [if_pos (by omega), if_neg (by omega)]; grind
def sk (j c : Nat) : Nat := if c < j then c else c + 1
def cut (A : Mt) (j : Nat) : Mt := fun i c => A (i + 1) (sk j c)
def det : Nat → Mt → Rat
  | 0, _ => 1
  | n + 1, A => sm (n + 1) fun j => psg j * A 0 j * det n (cut A j)
theorem det_succ (n : Nat) (A : Mt) : det (n + 1) A = sm (n + 1) fun j => psg j * A 0 j * det n (cut A j) := rfl
theorem sk_lt {j c n : Nat} (h : c < n) : sk j c < n + 1 := by unfold sk; split <;> omega
theorem det_congr {n : Nat} : ∀ {A B : Mt}, (∀ i c, i < n → c < n → A i c = B i c) → det n A = det n B := by
  induction n with
  | zero => intro A B h; rfl
  | succ n ih =>
    intro A B h
    rw [det_succ, det_succ]
    refine sm_congr fun j hj => ?_
    rw [h 0 j (by omega) hj, ih (A := cut A j) (B := cut B j) fun i c hi hc => h (i + 1) (sk j c) (by omega) (sk_lt hc)]
def setr (A : Mt) (r : Nat) (f : Nat → Rat) : Mt := fun i c => if i = r then f c else A i c
theorem cut_setr0 (A : Mt) (f : Nat → Rat) (j : Nat) : cut (setr A 0 f) j = cut A j := by
  funext i c; simp [cut, setr]
theorem cut_setr (A : Mt) (r : Nat) (f : Nat → Rat) (j : Nat) : cut (setr A (r + 1) f) j = setr (cut A j) r (fun c => f (sk j c)) := by
  funext i c; simp [cut, setr]
theorem det_lin {n : Nat} : ∀ {A : Mt} {r : Nat} (f g : Nat → Rat) (k : Rat), r < n → det n (setr A r fun c => f c + k * g c) = det n (setr A r f) + k * det n (setr A r g) := by
  induction n with
  | zero => intro A r f g k h; omega
  | succ n ih =>
    intro A r f g k h
    rw [det_succ, det_succ, det_succ, ← sm_mul, ← sm_add]
    refine sm_congr fun j hj => ?_
    cases r with
    | zero =>
      rw [cut_setr0, cut_setr0, cut_setr0]
      simp only [setr, if_true]
      grind
    | succ r =>
      rw [cut_setr, cut_setr, cut_setr, ih (fun c => f (sk j c)) (fun c => g (sk j c)) k (by omega)]
      simp only [setr]
      rw [if_neg (by omega), if_neg (by omega), if_neg (by omega)]
      grind
theorem pairs (N : Nat) (F : Nat → Nat → Rat) : sm (N + 1) (fun j => sm N (F j)) = sm (N + 1) fun j => sm j fun k => F j k + F k (j - 1) := by
  induction N with
  | zero => simp only [sm]
  | succ N ih =>
    have e1 : sm (N + 1) (fun j => sm (N + 1) (F j)) = sm (N + 1) (fun j => sm N (F j)) + sm (N + 1) fun j => F j N := by
      rw [← sm_add]; rfl
    have e2 : sm (N + 1) (fun k => F (N + 1) k + F k (N + 1 - 1)) = sm (N + 1) (F (N + 1)) + sm (N + 1) fun k => F k N := by
      rw [← sm_add]; rfl
    show sm (N + 1) (fun j => sm (N + 1) (F j)) + sm (N + 1) (F (N + 1)) = sm (N + 1) (fun j => sm j fun k => F j k + F k (j - 1)) + sm (N + 1) (fun k => F (N + 1) k + F k (N + 1 - 1))
    rw [e1, e2, ih]
    grind
theorem cut_cut (A : Mt) {j k : Nat} (h : k < j) : cut (cut A k) (j - 1) = cut (cut A j) k := by
  funext i c
  unfold cut
  congr 1
  by_cases h1 : c < k
  · have a1 : sk (j - 1) c = c := by unfold sk; rw [if_pos (by omega)]
    have a2 : sk k c = c := by unfold sk; rw [if_pos h1]
    have a3 : sk j c = c := by unfold sk; rw [if_pos (by omega)]
    rw [a1, a2, a3]
  · have a2 : sk k c = c + 1 := by unfold sk; rw [if_neg h1]
    by_cases h2 : c < j - 1
    · have a1 : sk (j - 1) c = c := by unfold sk; rw [if_pos h2]
      have a3 : sk j (c + 1) = c + 1 := by unfold sk; rw [if_pos (by omega)]
      rw [a1, a2, a3]
    · have a1 : sk (j - 1) c = c + 1 := by unfold sk; rw [if_neg h2]
      have a3 : sk j (c + 1) = c + 2 := by unfold sk; rw [if_neg (by omega)]
      have a4 : sk k (c + 1) = c + 2 := by unfold sk; rw [if_neg (by omega)]
      rw [a1, a2, a3, a4]
def sw (A : Mt) (r : Nat) : Mt := fun i => A (if i = r then r + 1 else if i = r + 1 then r else i)
theorem det_two (m : Nat) (A : Mt) : det (m + 2) A = sm (m + 2) fun j => sm j fun k => psg j * psg k * (A 0 j * A 1 k - A 0 k * A 1 j) * det m (cut (cut A j) k) := by
  rw [det_succ]
  have e : ∀ j, psg j * A 0 j * det (m + 1) (cut A j) = sm (m + 1) fun k => psg j * A 0 j * (psg k * A 1 (sk j k) * det m (cut (cut A j) k)) := fun j => by
    rw [det_succ, sm_mul]; rfl
  rw [sm_congr fun j _ => e j, pairs (m + 1) fun j k => psg j * A 0 j * (psg k * A 1 (sk j k) * det m (cut (cut A j) k))]
  refine sm_congr fun j hj => sm_congr fun k hk => ?_
  rw [cut_cut A hk]
  have a1 : sk j k = k := by unfold sk; rw [if_pos hk]
  have a2 : sk k (j - 1) = j := by unfold sk; rw [if_neg (by omega)]; omega
  obtain ⟨i, rfl⟩ : ∃ i, j = i + 1 := ⟨j - 1, by omega⟩
  rw [a1, a2, psg_succ, Nat.add_sub_cancel]
  grind
theorem det_sw0 (m : Nat) (A : Mt) : det (m + 2) (sw A 0) = -det (m + 2) A := by
  rw [det_two, det_two, ← sm_neg]
  refine sm_congr fun j hj => ?_
  rw [← sm_neg]
  refine sm_congr fun k hk => ?_
  have e : cut (cut (sw A 0) j) k = cut (cut A j) k := by
    funext i c; simp [cut, sw]
  rw [e]
  show psg j * psg k * (A 1 j * A 0 k - A 1 k * A 0 j) * _ = _
  grind
theorem det_sw {n : Nat} : ∀ {A : Mt} {r : Nat}, r + 1 < n → det n (sw A r) = -det n A := by
  induction n with
  | zero => intro A r h; omega
  | succ n ih =>
    intro A r h
    cases r with
    | zero =>
      obtain ⟨m, rfl⟩ : ∃ m, n = m + 1 := ⟨n - 1, by omega⟩
      exact det_sw0 m A
    | succ r =>
      rw [det_succ, det_succ, ← sm_neg]
      refine sm_congr fun j hj => ?_
      have e : cut (sw A (r + 1)) j = sw (cut A j) r := by
        funext i c
        unfold cut sw
        congr 1
        simp only [Nat.add_right_cancel_iff]
        split
        · rfl
        · split <;> rfl
      rw [e, ih (by omega)]
      have e2 : sw A (r + 1) 0 j = A 0 j := by simp [sw]
      rw [e2]
      grind
theorem det_eq0 {n : Nat} : ∀ (s : Nat) {A : Mt}, s + 1 < n → (∀ c, c < n → A 0 c = A (s + 1) c) → det n A = 0 := by
  intro s
  induction s with
  | zero =>
    intro A h e
    have h1 := det_sw (A := A) (r := 0) h
    have h2 : det n (sw A 0) = det n A := det_congr fun i c hi hc => by
      unfold sw
      by_cases h0 : i = 0
      · subst h0; exact (e c hc).symm
      · rw [if_neg h0]
        by_cases h1 : i = 0 + 1
        · rw [if_pos h1]; subst h1; exact e c hc
        · rw [if_neg h1]
    rw [h2] at h1
    grind
  | succ s ih =>
    intro A h e
    have h1 := det_sw (A := A) (r := s + 1) h
    have h2 : det n (sw A (s + 1)) = 0 := ih (by omega) fun c hc => by
      have a1 : sw A (s + 1) 0 c = A 0 c := by simp [sw]
      have a2 : sw A (s + 1) (s + 1) c = A (s + 1 + 1) c := by simp [sw]
      rw [a1, a2]; exact e c hc
    rw [h2] at h1
    grind
theorem det_eq {n : Nat} : ∀ {A : Mt} {r s : Nat}, r < s → s < n → (∀ c, c < n → A r c = A s c) → det n A = 0 := by
  induction n with
  | zero => intro A r s _ h; omega
  | succ n ih =>
    intro A r s h1 h2 e
    cases r with
    | zero =>
      obtain ⟨t, rfl⟩ : ∃ t, s = t + 1 := ⟨s - 1, by omega⟩
      exact det_eq0 t h2 e
    | succ r =>
      obtain ⟨t, rfl⟩ : ∃ t, s = t + 1 := ⟨s - 1, by omega⟩
      rw [det_succ]
      refine sm_zero' fun j hj => ?_
      rw [ih (A := cut A j) (r := r) (s := t) (by omega) (by omega) fun c hc => e (sk j c) (sk_lt hc)]
      grind
theorem det_eq' {n : Nat} {A : Mt} {r s : Nat} (h : r ≠ s) (hr : r < n) (hs : s < n) (e : ∀ c, c < n → A r c = A s c) : det n A = 0 := by
  rcases Nat.lt_or_ge r s with h1 | h1
  · exact det_eq h1 hs e
  · exact det_eq (show s < r by omega) hr fun c hc => (e c hc).symm
theorem setr_self (A : Mt) (r : Nat) : setr A r (A r) = A := by
  funext i c; unfold setr; split
  · next h => rw [h]
  · rfl
theorem det_more {n : Nat} {A : Mt} {r s : Nat} (k : Rat) (h : r ≠ s) (hr : r < n) (hs : s < n) : det n (setr A r fun c => A r c + k * A s c) = det n A := by
  rw [det_lin (A r) (A s) k hr, setr_self]
  have e : det n (setr A r (A s)) = 0 := det_eq' h hr hs fun c _ => by
    simp only [setr, if_true]
    rw [if_neg (Ne.symm h)]
  rw [e]; grind
theorem det_scale {n : Nat} {A : Mt} {r : Nat} (k : Rat) (hr : r < n) : det n (setr A r fun c => k * A r c) = k * det n A := by
  have e1 := det_lin (A := A) (fun _ => 0) (A r) k hr
  have e2 := det_lin (A := A) (fun _ => 0) (fun _ => 0) 1 hr
  rw [setr_self] at e1
  rw [show (fun c => (0 : Rat) + k * A r c) = fun c => k * A r c from by funext c; grind] at e1
  rw [show (fun c : Nat => (0 : Rat) + 1 * 0) = fun _ => 0 from by funext c; grind] at e2
  rw [e1]; grind
theorem det_row0 {n : Nat} {A : Mt} {r : Nat} (hr : r < n) (h : ∀ c, c < n → A r c = 0) : det n A = 0 := by
  have e := det_scale (A := A) 0 hr
  rw [← det_congr (A := A) (B := setr A r fun c => 0 * A r c) fun i c hi hc => ?_] at e
  · rw [e]; grind
  · unfold setr
    split
    · next h1 => rw [h1, h c hc]; grind
    · rfl
def swp (A : Mt) (r s : Nat) : Mt := fun i => A (if i = r then s else if i = s then r else i)
theorem det_swp {n : Nat} {A : Mt} {r s : Nat} (h : r ≠ s) (hr : r < n) (hs : s < n) : det n (swp A r s) = -det n A := by
  have e1 := det_more (A := A) 1 h hr hs
  generalize hB : setr A r (fun c => A r c + 1 * A s c) = B at e1
  have e2 := det_more (A := B) (-1) (Ne.symm h) hs hr
  generalize hC : setr B s (fun c => B s c + -1 * B r c) = C at e2
  have e3 := det_more (A := C) 1 h hr hs
  generalize hD : setr C r (fun c => C r c + 1 * C s c) = D at e3
  have e4 := det_scale (A := D) (-1) hs
  have e5 : setr D s (fun c => -1 * D s c) = swp A r s := by
    subst hD; subst hC; subst hB
    funext i c
    unfold setr swp
    by_cases h1 : i = s
    · subst h1; simp [h, Ne.symm h]; grind
    · by_cases h2 : i = r
      · subst h2; simp [h, Ne.symm h]; grind
      · simp [h1, h2]
  rw [← e5, e4, e3, e2, e1]; grind
theorem det_id (n : Nat) : ∀ {A : Mt}, (∀ i c, i < n → c < n → A i c = if i = c then 1 else 0) → det n A = 1 := by
  induction n with
  | zero => intro A h; rfl
  | succ n ih =>
    intro A h
    rw [det_succ, sm_one (j := 0) (by omega) fun j hj hne => by rw [h 0 j (by omega) hj, if_neg (Ne.symm hne)]; grind]
    rw [h 0 0 (by omega) (by omega), if_pos rfl, ih fun i c hi hc => by
      show A (i + 1) (sk 0 c) = _
      rw [show sk 0 c = c + 1 from rfl, h (i + 1) (c + 1) (by omega) (by omega)]
      simp]
    unfold psg; simp
theorem det_int (n : Nat) : ∀ {A : Mt}, (∀ i c, i < n → c < n → ∃ z : Int, A i c = z) → ∃ z : Int, det n A = z := by
  induction n with
  | zero => intro A h; exact ⟨1, rfl⟩
  | succ n ih =>
    intro A h
    have hs : ∀ m f, (∀ j, j < m → ∃ z : Int, f j = (z : Rat)) → ∃ z : Int, sm m f = z := by
      intro m
      induction m with
      | zero => intro f _; exact ⟨0, rfl⟩
      | succ m ihm =>
        intro f hf
        obtain ⟨a, ha⟩ := ihm f fun j hj => hf j (by omega)
        obtain ⟨b, hb⟩ := hf m (by omega)
        exact ⟨a + b, by simp only [sm]; rw [ha, hb, Rat.intCast_add]⟩
    refine hs _ _ fun j hj => ?_
    obtain ⟨a, ha⟩ := h 0 j (by omega) hj
    obtain ⟨b, hb⟩ := ih (A := cut A j) fun i c hi hc => h (i + 1) (sk j c) (by omega) (sk_lt hc)
    rw [ha, hb]
    unfold psg
    split
    · exact ⟨a * b, by rw [Rat.intCast_mul]; grind⟩
    · exact ⟨-(a * b), by rw [Rat.intCast_neg, Rat.intCast_mul]; grind⟩
structure LinR (φ : (Nat → Rat) → Nat → Rat) : Prop where
  add : ∀ f g k c, φ (fun x => f x + k * g x) c = φ f c + k * φ g c
theorem LinR.zero {φ : (Nat → Rat) → Nat → Rat} (L : LinR φ) (c : Nat) : φ (fun _ => 0) c = 0 := by
  have h := L.add (fun _ => 0) (fun _ => 0) 1 c
  rw [show (fun x : Nat => (0 : Rat) + 1 * 0) = fun _ => 0 from by funext x; grind] at h
  grind
theorem LinR.mul {φ : (Nat → Rat) → Nat → Rat} (L : LinR φ) (f : Nat → Rat) (k : Rat) (c : Nat) : φ (fun x => k * f x) c = k * φ f c := by
  have h := L.add (fun _ => 0) f k c
  rw [show (fun x : Nat => (0 : Rat) + k * f x) = fun x => k * f x from by funext x; grind, L.zero] at h
  grind
end Go.S

end
section
set_option linter.unusedVariables false
set_option linter.unusedSimpArgs false
namespace Go.S
theorem setr_row (B : Mt) (r : Nat) (g : Nat → Rat) (i : Nat) : setr B r g i = if i = r then g else B i := by
  funext c; unfold setr; split <;> rfl
inductive Rop (n : Nat) : Mt → Mt → Rat → Prop
  | refl (A : Mt) : Rop n A A 1
  | scale {A B : Mt} {f : Rat} (r : Nat) (k : Rat) (hr : r < n) (hk : k ≠ 0) : Rop n A B f → Rop n A (setr B r fun x => k * B r x) (f * k⁻¹)
  | more {A B : Mt} {f : Rat} (r s : Nat) (k : Rat) (hr : r < n) (hs : s < n) (h : r ≠ s) : Rop n A B f → Rop n A (setr B r fun x => B r x + k * B s x) f
  | swap {A B : Mt} {f : Rat} (r s : Nat) (hr : r < n) (hs : s < n) (h : r ≠ s) : Rop n A B f → Rop n A (swp B r s) (-f)
theorem Rop.det {n : Nat} {A B : Mt} {f : Rat} (H : Rop n A B f) {φ : (Nat → Rat) → Nat → Rat} (L : LinR φ) : det n (fun i => φ (A i)) = f * det n (fun i => φ (B i)) := by
  induction H with
  | refl => grind
  | scale r k hr hk _ ih =>
    rename_i B f _
    have e : (fun i => φ (setr B r (fun x => k * B r x) i)) = setr (fun i => φ (B i)) r (fun c => k * φ (B r) c) := by
      funext i c
      rw [setr_row]
      unfold setr
      by_cases h : i = r
      · rw [if_pos h, if_pos h, L.mul]
      · rw [if_neg h, if_neg h]
    rw [e, det_scale (A := fun i => φ (B i)) k hr, ih]
    have : k⁻¹ * k = 1 := by rw [Rat.inv_mul_cancel _ hk]
    grind
  | more r s k hr hs h _ ih =>
    rename_i B f _
    have e : (fun i => φ (setr B r (fun x => B r x + k * B s x) i)) = setr (fun i => φ (B i)) r (fun c => φ (B r) c + k * φ (B s) c) := by
      funext i c
      rw [setr_row]
      unfold setr
      by_cases h : i = r
      · rw [if_pos h, if_pos h, L.add]
      · rw [if_neg h, if_neg h]
    rw [e, det_more (A := fun i => φ (B i)) k h hr hs, ih]
  | swap r s hr hs h _ ih =>
    rename_i B f _
    have e : (fun i => φ (swp B r s i)) = swp (fun i => φ (B i)) r s := rfl
    rw [e, det_swp (A := fun i => φ (B i)) h hr hs, ih]
    grind
theorem Rop.det1 {n : Nat} {A B : Mt} {f : Rat} (H : Rop n A B f) : Go.S.det n A = f * Go.S.det n B := H.det (φ := fun f => f) ⟨fun _ _ _ _ => rfl⟩
structure Sub (P : (Nat → Rat) → Prop) : Prop where
  more : ∀ f g k, P f → P g → P fun x => f x + k * g x
  scale : ∀ f k, P f → P fun x => k * f x
theorem Rop.sub {n : Nat} {A B : Mt} {f : Rat} (H : Rop n A B f) {P : (Nat → Rat) → Prop} (S : Sub P) : (∀ i, i < n → P (A i)) ↔ (∀ i, i < n → P (B i)) := by
  induction H with
  | refl => exact Iff.rfl
  | scale r k hr hk _ ih =>
    rename_i B f _
    rw [ih]
    constructor
    · intro h i hi
      rw [setr_row]
      split
      · exact S.scale _ _ (h r hr)
      · exact h i hi
    · intro h i hi
      have h1 := h i hi
      rw [setr_row] at h1
      by_cases e : i = r
      · rw [if_pos e] at h1
        have h2 := S.scale _ k⁻¹ h1
        have : k⁻¹ * k = 1 := by rw [Rat.inv_mul_cancel _ hk]
        rw [show (fun x => k⁻¹ * (k * B r x)) = B i from by funext x; rw [e]; grind] at h2
        exact h2
      · rw [if_neg e] at h1; exact h1
  | more r s k hr hs h _ ih =>
    rename_i B f _
    rw [ih]
    constructor
    · intro h i hi
      rw [setr_row]
      split
      · exact S.more _ _ _ (h r hr) (h s hs)
      · exact h i hi
    · intro h' i hi
      have h1 := h' i hi
      rw [setr_row] at h1
      by_cases e : i = r
      · rw [if_pos e] at h1
        have h3 := h' s hs
        rw [setr_row, if_neg (Ne.symm h)] at h3
        have h2 := S.more _ _ (-k) h1 h3
        rw [show (fun x => (B r x + k * B s x) + -k * B s x) = B i from by funext x; rw [e]; grind] at h2
        exact h2
      · rw [if_neg e] at h1; exact h1
  | swap r s hr hs h _ ih =>
    rename_i B f _
    rw [ih]
    constructor
    · intro h i hi
      unfold swp
      split
      · exact h s hs
      · split
        · exact h r hr
        · exact h i hi
    · intro h' i hi
      by_cases e : i = r
      · subst e; have := h' s hs; unfold swp at this; rwa [if_neg (Ne.symm h), if_pos rfl] at this
      · by_cases e2 : i = s
        · subst e2; have := h' r hr; unfold swp at this; rwa [if_pos rfl] at this
        · have := h' i hi; unfold swp at this; rwa [if_neg e, if_neg e2] at this
def fndF (A : Mt) (j : Nat) : Nat → Nat → Nat
  | 0, a => a
  | d + 1, a => if A a j = 0 then fndF A j d (a + 1) else a
def fnd (n : Nat) (A : Mt) (j a : Nat) : Nat := fndF A j (n - a) a
theorem fndF_spec (A : Mt) (j : Nat) : ∀ d a, a ≤ fndF A j d a ∧ fndF A j d a ≤ a + d ∧ (∀ i, a ≤ i → i < fndF A j d a → A i j = 0) ∧ (fndF A j d a < a + d → A (fndF A j d a) j ≠ 0) := by
  intro d
  induction d with
  | zero => intro a; exact ⟨Nat.le_refl _, Nat.le_refl _, fun i h1 h2 => by simp only [fndF] at h2; omega, fun h => by simp only [fndF] at h; omega⟩
  | succ d ih =>
    intro a
    simp only [fndF]
    by_cases h : A a j = 0
    · rw [if_pos h]
      obtain ⟨h1, h2, h3, h4⟩ := ih (a + 1)
      refine ⟨by omega, by omega, fun i hi hi2 => ?_, fun hlt => h4 (by omega)⟩
      by_cases e : i = a
      · rw [e]; exact h
      · exact h3 i (by omega) hi2
    · rw [if_neg h]
      exact ⟨Nat.le_refl _, by omega, fun i h1 h2 => by omega, fun _ => h⟩
theorem fnd_spec {n : Nat} {A : Mt} {j a : Nat} (h : a ≤ n) : a ≤ fnd n A j a ∧ fnd n A j a ≤ n ∧ (∀ i, a ≤ i → i < fnd n A j a → A i j = 0) ∧ (fnd n A j a < n → A (fnd n A j a) j ≠ 0) := by
  obtain ⟨h1, h2, h3, h4⟩ := fndF_spec A j (n - a) a
  exact ⟨h1, by unfold fnd; omega, h3, fun hlt => h4 (by unfold fnd at hlt; omega)⟩
def elimTo (A : Mt) (a j i : Nat) : Mt := fun r x => if r < i ∧ r ≠ a then A r x - A r j * A a x else A r x
theorem elimTo_zero (A : Mt) (a j : Nat) : elimTo A a j 0 = A := by funext r x; simp [elimTo]
theorem elimTo_self (A : Mt) (a j : Nat) : elimTo A a j (a + 1) = elimTo A a j a := by
  funext r x
  unfold elimTo
  by_cases h : r < a
  · rw [if_pos (show r < a + 1 ∧ r ≠ a by omega), if_pos (show r < a ∧ r ≠ a by omega)]
  · rw [if_neg (show ¬ (r < a ∧ r ≠ a) by omega), if_neg (by omega)]
theorem elimTo_succ (A : Mt) {a j i : Nat} (h : i ≠ a) : elimTo A a j (i + 1) = setr (elimTo A a j i) i fun x => elimTo A a j i i x + -(A i j) * elimTo A a j i a x := by
  funext r x
  unfold setr
  by_cases e : r = i
  · subst e
    rw [if_pos rfl]
    unfold elimTo
    rw [if_pos (show r < r + 1 ∧ r ≠ a by omega)]
    show _ = (if r < r ∧ r ≠ a then _ else _) + -A r j * (if a < r ∧ a ≠ a then _ else _)
    rw [if_neg (by omega), if_neg (by omega)]
    grind
  · rw [if_neg e]
    unfold elimTo
    by_cases h1 : r < i ∧ r ≠ a
    · rw [if_pos h1, if_pos ⟨by omega, h1.2⟩]
    · rw [if_neg h1, if_neg (by omega)]
theorem elimTo_at (A : Mt) (a j i : Nat) : elimTo A a j i a = A a := by funext x; unfold elimTo; rw [if_neg (by omega)]
theorem elimTo_ge (A : Mt) {a j i r : Nat} (h : i ≤ r) : elimTo A a j i r = A r := by funext x; unfold elimTo; rw [if_neg (by omega)]
theorem Rop.elim {n : Nat} {A B : Mt} {f : Rat} (H : Rop n A B f) {a j : Nat} (ha : a < n) : ∀ i, i ≤ n → Rop n A (elimTo B a j i) f := by
  intro i
  induction i with
  | zero => intro _; rw [elimTo_zero]; exact H
  | succ i ih =>
    intro hi
    by_cases e : i = a
    · subst e; rw [elimTo_self]; exact ih (by omega)
    · rw [elimTo_succ _ e]
      exact .more i a _ (by omega) ha e (ih (by omega))
theorem swp_self (A : Mt) (a : Nat) : swp A a a = A := by
  funext i; unfold swp; congr 1; split
  · next h => exact h.symm
  · rfl
def pivR (A : Mt) (a k j : Nat) : Mt := setr (swp A a k) a fun x => (A k j)⁻¹ * A k x
def gstep (n j : Nat) (s : Mt × List Nat × Rat) : Mt × List Nat × Rat :=
  if fnd n s.1 j s.2.1.length = n then s else
    (elimTo (pivR s.1 s.2.1.length (fnd n s.1 j s.2.1.length) j) s.2.1.length j n, s.2.1 ++ [j], (if s.2.1.length = fnd n s.1 j s.2.1.length then s.2.2 else -s.2.2) * s.1 (fnd n s.1 j s.2.1.length) j)
def grun (n : Nat) (A : Mt) : Nat → Mt × List Nat × Rat
  | 0 => (A, [], 1)
  | j + 1 => gstep n j (grun n A j)
theorem Rop.gstep {n j : Nat} {A : Mt} {s : Mt × List Nat × Rat} (H : Rop n A s.1 s.2.2) (h : s.2.1.length ≤ n) : Rop n A (Go.S.gstep n j s).1 (Go.S.gstep n j s).2.2 := by
  unfold Go.S.gstep
  obtain ⟨g1, g2, g3, g4⟩ := fnd_spec (n := n) (A := s.1) (j := j) (a := s.2.1.length) h
  generalize fnd n s.1 j s.2.1.length = k at *
  split
  · exact H
  · next hk =>
    have hk2 : k < n := by omega
    have hp := g4 hk2
    generalize s.2.1.length = a at *
    refine Rop.elim ?_ (by omega) n (Nat.le_refl _)
    have h1 : Rop n A (swp s.1 a k) (if a = k then s.2.2 else -s.2.2) := by
      by_cases e : a = k
      · subst e; rw [swp_self, if_pos rfl]; exact H
      · rw [if_neg e]; exact .swap a k (by omega) hk2 e H
    have h2 := Rop.scale a (s.1 k j)⁻¹ (by omega) (by
      intro e
      have := Rat.mul_inv_cancel _ hp
      rw [e] at this
      grind) h1
    rw [Rat.inv_inv] at h2
    have e : swp s.1 a k a = s.1 k := by unfold swp; rw [if_pos rfl]
    rw [e] at h2
    exact h2
structure RR (n j : Nat) (A : Mt) (piv : List Nat) : Prop where
  le : piv.length ≤ n
  lt : ∀ i, i < piv.length → piv.getD i default < j
  one : ∀ i, i < piv.length → A i (piv.getD i default) = 1
  col : ∀ i, i < piv.length → ∀ r, r < n → r ≠ i → A r (piv.getD i default) = 0
  ahead : ∀ i, i < piv.length → ∀ x, x < piv.getD i default → A i x = 0
  rest : ∀ r, piv.length ≤ r → r < n → ∀ x, x < j → A r x = 0
  mono : ∀ i i', i < i' → i' < piv.length → piv.getD i default < piv.getD i' default
theorem RR.nil (n : Nat) (A : Mt) : RR n 0 A [] := ⟨Nat.zero_le _, fun i h => by simp at h, fun i h => by simp at h, fun i h => by simp at h, fun i h => by simp at h, fun r _ _ x h => by omega, fun i i' _ h => by simp at h⟩
theorem snoc_lt {l : List Nat} {x i : Nat} (h : i < l.length) : (l ++ [x]).getD i default = l.getD i default := by simp [List.getD, List.getElem?_append_left h]
theorem snoc_at {l : List Nat} {x : Nat} : (l ++ [x]).getD l.length default = x := by simp [List.getD]
theorem RR.step {n j : Nat} {A : Mt} {piv : List Nat} {d : Rat} (H : RR n j A piv) : RR n (j + 1) (gstep n j (A, piv, d)).1 (gstep n j (A, piv, d)).2.1 := by
  unfold gstep
  obtain ⟨g1, g2, g3, g4⟩ := fnd_spec (n := n) (A := A) (j := j) (a := piv.length) H.le
  simp only
  generalize fnd n A j piv.length = k at *
  split
  · next hk =>
    subst hk
    refine ⟨H.le, fun i hi => Nat.lt_succ_of_lt (H.lt i hi), H.one, H.col, H.ahead, fun r h1 h2 x hx => ?_, H.mono⟩
    by_cases e : x = j
    · rw [e]; exact g3 r h1 h2
    · exact H.rest r h1 h2 x (by omega)
  · next hk =>
    have hk2 : k < n := by omega
    have hp := g4 hk2
    simp only
    have hpi : (A k j)⁻¹ * A k j = 1 := Rat.inv_mul_cancel _ hp
    have z0 : ∀ x, x < j → A k x = 0 := fun x hx => H.rest k g1 hk2 x hx
    have va : ∀ x, elimTo (pivR A piv.length k j) piv.length j n piv.length x = (A k j)⁻¹ * A k x := fun x => by
      rw [elimTo_at]; simp [pivR, setr]
    have vr : ∀ r, r < n → r ≠ piv.length → ∀ x, elimTo (pivR A piv.length k j) piv.length j n r x = swp A piv.length k r x - swp A piv.length k r j * ((A k j)⁻¹ * A k x) := fun r hr hne x => by
      unfold elimTo
      rw [if_pos ⟨hr, hne⟩]
      simp [pivR, setr, hne]
    generalize elimTo (pivR A piv.length k j) piv.length j n = D at *
    have sr : ∀ r, r < n → r ≠ piv.length → ∃ r', r' < n ∧ swp A piv.length k r = A r' ∧ (r < piv.length → r' = r) ∧ (piv.length ≤ r → piv.length ≤ r') ∧ ∀ i, i < piv.length → r ≠ i → r' ≠ i := fun r hr hne => by
      unfold swp
      rw [if_neg hne]
      by_cases e : r = k
      · rw [if_pos e]; exact ⟨piv.length, by omega, rfl, fun h => by omega, fun _ => Nat.le_refl _, fun i hi _ => by omega⟩
      · rw [if_neg e]; exact ⟨r, hr, rfl, fun _ => rfl, fun h => h, fun i _ h => h⟩
    have low : ∀ r, r < n → r ≠ piv.length → ∀ x, x < j → D r x = swp A piv.length k r x := fun r hr hne x hx => by
      rw [vr r hr hne x, z0 x hx]; grind
    have lowa : ∀ x, x < j → D piv.length x = 0 := fun x hx => by rw [va, z0 x hx]; grind
    refine ⟨by simp; omega, ?_, ?_, ?_, ?_, ?_, ?_⟩
    · intro i hi
      by_cases e : i < piv.length
      · rw [snoc_lt e]; have := H.lt i e; omega
      · have : i = piv.length := by simp at hi; omega
        subst this; rw [snoc_at]; omega
    · intro i hi
      by_cases e : i < piv.length
      · rw [snoc_lt e, low i (by have := H.le; omega) (by omega) _ (H.lt i e)]
        obtain ⟨r', _, h2, h3, _, _⟩ := sr i (by have := H.le; omega) (by omega)
        rw [h2, h3 e]; exact H.one i e
      · have : i = piv.length := by simp at hi; omega
        subst this; rw [snoc_at, va, hpi]
    · intro i hi r hr hne
      by_cases e : i < piv.length
      · rw [snoc_lt e]
        by_cases e2 : r = piv.length
        · rw [e2]; exact lowa _ (H.lt i e)
        · rw [low r hr e2 _ (H.lt i e)]
          obtain ⟨r', h1, h2, _, _, h5⟩ := sr r hr e2
          rw [h2]; exact H.col i e r' h1 (h5 i e hne)
      · have : i = piv.length := by simp at hi; omega
        subst this; rw [snoc_at, vr r hr hne, hpi]; grind
    · intro i hi x hx
      by_cases e : i < piv.length
      · rw [snoc_lt e] at hx
        have := H.lt i e
        rw [low i (by have := H.le; omega) (by omega) x (by omega)]
        obtain ⟨r', _, h2, h3, _, _⟩ := sr i (by have := H.le; omega) (by omega)
        rw [h2, h3 e]; exact H.ahead i e x hx
      · have : i = piv.length := by simp at hi; omega
        subst this; rw [snoc_at] at hx; exact lowa x hx
    · intro r h1 h2 x hx
      simp at h1
      by_cases e : x = j
      · rw [e, vr r h2 (by omega), hpi]; grind
      · rw [low r h2 (by omega) x (by omega)]
        obtain ⟨r', q1, q2, _, q4, _⟩ := sr r h2 (by omega)
        rw [q2]; exact H.rest r' (q4 (by omega)) q1 x (by omega)
    · intro i i' h1 h2
      simp at h2
      by_cases e : i' < piv.length
      · rw [snoc_lt e, snoc_lt (by omega)]; exact H.mono i i' h1 e
      · have : i' = piv.length := by omega
        subst this; rw [snoc_at, snoc_lt h1]; exact H.lt i h1
theorem grun_RR (n : Nat) (A : Mt) : ∀ j, RR n j (grun n A j).1 (grun n A j).2.1 := by
  intro j
  induction j with
  | zero => exact RR.nil n A
  | succ j ih => exact RR.step (d := (grun n A j).2.2) ih
theorem grun_Rop (n : Nat) (A : Mt) : ∀ j, Rop n A (grun n A j).1 (grun n A j).2.2 := by
  intro j
  induction j with
  | zero => exact .refl A
  | succ j ih => exact Rop.gstep ih (grun_RR n A j).le
end Go.S

end
section
set_option linter.unusedVariables false
set_option linter.unusedSimpArgs false
namespace Go.S
def rowf (c : Nat) (f : Nat → Rat) : List Rat := (List.range c).map f
def tab (n c : Nat) (A : Mt) : List (List Rat) := (List.range n).map fun i => rowf c (A i)
def ent (t : List (List Rat)) : Mt := fun i j => (t.getD i default).getD j default
theorem rowf_len (c : Nat) (f : Nat → Rat) : (rowf c f).length = c := by simp [rowf]
theorem rowf_get {c : Nat} {f : Nat → Rat} {j : Nat} (h : j < c) : (rowf c f).getD j default = f j := by simp [rowf, List.getD, h]
theorem rowf_congr {c : Nat} {f g : Nat → Rat} (h : ∀ j, j < c → f j = g j) : rowf c f = rowf c g := List.map_congr_left fun j hj => h j (by simpa using hj)
theorem rowf_of (r : List Rat) : rowf r.length (fun j => r.getD j default) = r := by
  refine List.ext_getElem (by simp [rowf]) fun i h1 h2 => ?_
  simp [rowf, List.getD, List.getElem?_eq_getElem h2]
theorem mem_rowf {c : Nat} {f : Nat → Rat} {q : Rat} : q ∈ rowf c f ↔ ∃ j, j < c ∧ f j = q := by simp [rowf]
theorem rowf_map {c : Nat} {f : Nat → Rat} (k : Rat → Rat) : (rowf c f).map k = rowf c fun j => k (f j) := by simp [rowf]
theorem rowf_zip {c : Nat} {f g : Nat → Rat} (k : Rat → Rat → Rat) : List.zipWith k (rowf c f) (rowf c g) = rowf c fun j => k (f j) (g j) := by
  refine List.ext_getElem (by simp [rowf]) fun i h1 h2 => ?_
  simp [rowf]
theorem rowf_app (c d : Nat) (f g : Nat → Rat) : rowf c f ++ rowf d g = rowf (c + d) fun j => if j < c then f j else g (j - c) := by
  refine List.ext_getElem (by simp [rowf]) fun i h1 h2 => ?_
  by_cases h : i < c
  · rw [List.getElem_append_left (by simpa [rowf] using h)]; simp [rowf, h]
  · rw [List.getElem_append_right (by simpa [rowf] using h)]; simp [rowf, h]
theorem tab_len (n c : Nat) (A : Mt) : (tab n c A).length = n := by simp [tab]
theorem tab_get {n c : Nat} {A : Mt} {i : Nat} (h : i < n) : (tab n c A).getD i default = rowf c (A i) := by simp [tab, List.getD, h]
theorem mem_tab {n c : Nat} {A : Mt} {r : List Rat} : r ∈ tab n c A ↔ ∃ i, i < n ∧ rowf c (A i) = r := by simp [tab]
theorem tab_row {n c : Nat} {A : Mt} : ∀ r ∈ tab n c A, r.length = c := fun r h => by obtain ⟨i, _, rfl⟩ := mem_tab.1 h; exact rowf_len _ _
theorem tab_congr {n c : Nat} {A B : Mt} (h : ∀ i, i < n → ∀ j, j < c → A i j = B i j) : tab n c A = tab n c B := List.map_congr_left fun i hi => rowf_congr (h i (by simpa using hi))
theorem tab_set {n c : Nat} {A : Mt} {i : Nat} {f : Nat → Rat} (h : i < n) : (tab n c A).set i (rowf c f) = tab n c (setr A i f) := by
  refine List.ext_getElem (by simp [tab]) fun k h1 h2 => ?_
  rw [List.getElem_set]
  by_cases e : i = k
  · subst e; simp [tab, setr_row]
  · simp [tab, setr_row, e, Ne.symm e]
theorem tab_of {t : List (List Rat)} {c : Nat} (h : ∀ r ∈ t, r.length = c) : tab t.length c (ent t) = t := by
  refine List.ext_getElem (by simp [tab]) fun i h1 h2 => ?_
  have e := rowf_of t[i]
  rw [h _ (List.getElem_mem h2)] at e
  rw [← e]
  simp only [tab, List.getElem_map, List.getElem_range]
  refine rowf_congr fun j _ => ?_
  simp [ent, List.getD, List.getElem?_eq_getElem h2]
theorem mem_tab2 {n c : Nat} {A : Mt} {r : List Rat} (h : r ∈ tab n c A) {q : Rat} (hq : q ∈ r) : ∃ i, i < n ∧ ∃ j, j < c ∧ A i j = q := by
  obtain ⟨i, hi, rfl⟩ := mem_tab.1 h
  obtain ⟨j, hj, e⟩ := mem_rowf.1 hq
  exact ⟨i, hi, j, hj, e⟩
def mm (m : Nat) (A B : Mt) : Mt := fun i j => sm m fun k => A i k * B k j
def idm : Mt := fun i j => if i = j then 1 else 0
theorem mm_one_r {m : Nat} {A : Mt} {j : Nat} (i : Nat) (h : j < m) : mm m A idm i j = A i j := by
  unfold mm idm
  rw [sm_one h fun k hk hne => by rw [if_neg hne]; grind, if_pos rfl]; grind
end Go.S

end
section
set_option linter.unusedVariables false
set_option linter.unusedSimpArgs false
set_option maxRecDepth 100000
namespace Go.S
open Go Go.AM Go.RowKit Go.K
def ivl (l : List Nat) : List Int := l.map fun n : Nat => (n : Int)
theorem ivl_len (l : List Nat) : (ivl l).length = l.length := by simp [ivl]
theorem ivl_snoc (l : List Nat) (j : Nat) : ivl (l ++ [j]) = ivl l ++ [(j : Int)] := by simp [ivl]
abbrev aW (tr pr : AV) (d : Rat) : AV := .agg [tr, pr, .bool (decide (d.num < 0)), eN (ab d.num), eN (d.den : Int)]
theorem s_rat_Inv {a : Rat} (h0 : a ≠ 0) (h1 : Lq a < 100000000) : CP (CL F) 125 [eQ a] = some (.tup [eQ a⁻¹, eI 0]) := by
  refine CP_X (F := F) (f := 125) rfl rfl ?_
  have k1 := s_rat_up (q := a) (by omega)
  have k2 := s_rat_Make (p := a.den) (d := a.num) (by rwa [ne_eq, Rat.num_eq_zero]) (by have := Lq_den a; omega) (by have := Lq_num a; omega)
  rw [← Rat.inv_def] at k2
  clear h0
  refine go3 ?_
  trivial
theorem rQ_inv {a : Rat} (h : a ≠ 0) : AV.agg [.bool (decide (a.num < 0)), rN (a.den : Int), rN (ab a.num)] = rQ a⁻¹ := by
  have hn : a.num ≠ 0 := by rwa [ne_eq, Rat.num_eq_zero]
  unfold rQ
  rw [Rat.num_inv, Rat.den_inv, if_neg hn]
  have hd : (0 : Int) < a.den := by have := a.den_pos; omega
  rcases Int.lt_trichotomy a.num 0 with h1 | h1 | h1
  · rw [Int.sign_eq_neg_one_of_neg h1]
    have e1 : decide ((-1 * (a.den : Int)) < 0) = true := decide_eq_true (by omega)
    rw [e1, decide_eq_true h1, show ab (-1 * (a.den : Int)) = a.den from by unfold ab; omega, show ((a.num.natAbs : Nat) : Int) = ab a.num from by unfold ab; omega]
  · exact (hn h1).elim
  · rw [Int.sign_eq_one_of_pos h1]
    have e1 : decide ((1 * (a.den : Int)) < 0) = false := decide_eq_false (by omega)
    rw [e1, decide_eq_false (by omega), show ab (1 * (a.den : Int)) = a.den from by unfold ab; omega, show ((a.num.natAbs : Nat) : Int) = ab a.num from by unfold ab; omega]
theorem s_r08_Inv {a : Rat} (h0 : a ≠ 0) : CP (CL F) 59 [rQ a] = some (rQ a⁻¹) := by
  refine CP_X (F := F) (f := 59) rfl rfl ?_
  have k := rQ_inv h0
  clear h0
  refine go3 ?_
  trivial
theorem may_iff {t : List (List Rat)} : may t = true ↔ t.length ≤ 200 ∧ wide t ≤ 200 ∧ ∀ r ∈ t, r.length = wide t := by
  unfold may
  simp only [Bool.and_eq_true, decide_eq_true_eq, even_iff, and_assoc]
end Go.S

end
section
set_option linter.unusedVariables false
set_option linter.unusedSimpArgs false
set_option maxRecDepth 100000
namespace Go.S
open Go Go.AM Go.RowKit Go.K
theorem s_find {n c : Nat} {A : Mt} {d : Rat} {pr : AV} {x : Option Blk} {vt : Nat} {g : Heap} {a j : Nat} (ha : a ≤ n) (hn : n ≤ 1000000) (hj : j < c) :
    CL F 123 [.ptr 0 0 0 0, eI a, eI j] (some ⟨0, 5, [aW (.ref 2 vt 1 0 n) pr d]⟩ :: x :: some ⟨vt, 1, em eR (tab n c A)⟩ :: g) = some (eI (fnd n A j a), (some ⟨0, 5, [aW (.ref 2 vt 1 0 n) pr d]⟩ :: x :: some ⟨vt, 1, em eR (tab n c A)⟩ :: g)) := by
  refine CL_X (F := F) (f := 123) rfl rfl ?_
  obtain ⟨k1, k2, k3, k4⟩ := fnd_spec (n := n) (A := A) (j := j) ha
  generalize hk : fnd n A j a = k at *
  have hl : (em eR (tab n c A)).length = n := by rw [em_len, tab_len]
  refine go3 ?_
  refine X_upto (k - a) (fun i s => ∃ j15 j29, s = ⟨[(0, .ptr 0 0 0 0), (1, eI a), (2, eI j), (6, eI 0), (7, eI (a + i : Nat)), (15, j15), (29, j29)], (some ⟨0, 5, [aW (.ref 2 vt 1 0 n) pr d]⟩ :: x :: some ⟨vt, 1, em eR (tab n c A)⟩ :: g)⟩) ?_ 0 (Nat.zero_le _) _ ⟨_, _, rfl⟩
  rintro i s hi ⟨j15, j29, rfl⟩ rec
  by_cases hin : a + i < n
  · have g1 := em_getN (f := eR) (tab n c A) (a + i) (by rw [tab_len]; exact hin)
    rw [tab_get hin] at g1
    have g2 := em_getN (f := eQ) (rowf c (A (a + i))) j (by rw [rowf_len]; exact hj)
    rw [rowf_get hj] at g2
    have hrl := rowf_len c (A (a + i))
    have sg := s_rat_Sign (A (a + i) j)
    have c1 : (((a + i : Nat) : Int) < (n : Int)) := by omega
    have c2 : ((j : Int) < (c : Int)) := by omega
    by_cases e : i < k - a
    · have z : A (a + i) j = 0 := k3 (a + i) (by omega) (by omega)
      have z2 : sgn (A (a + i) j).num = 0 := (sgn_num_zero _).2 z
      rw [z2] at sg
      have hw : wrap64 (((a + i : Nat) : Int) + 1) = ((a + (i + 1) : Nat) : Int) := i64_nat (by omega)
      generalize A (a + i) j = y at *
      generalize rowf c (A (a + i)) = r at *
      generalize a + i = ai at *
      clear hk k1 k2 k3 k4 z z2 hi
      refine go3 ?_
      exact rec _ e ⟨_, _, rfl⟩
    · have hik : a + i = k := by omega
      have z : A (a + i) j ≠ 0 := by rw [hik]; exact k4 (by omega)
      have z2 : ¬ (sgn (A (a + i) j).num = 0) := fun h => z ((sgn_num_zero _).1 h)
      subst hik
      generalize A (a + i) j = y at *
      generalize rowf c (A (a + i)) = r at *
      generalize a + i = ai at *
      clear hk k1 k2 k3 k4 z hi rec e
      refine go3 ?_
      trivial
  · have hik : a + i = k := by omega
    have hkn : k = n := by omega
    have c1 : ¬ (((a + i : Nat) : Int) < (n : Int)) := by omega
    subst hkn
    rw [hik] at c1
    rw [hik]
    clear hk k1 k2 k3 k4 hi rec hik hin ha hj
    refine go3 ?_
    trivial
theorem s_swap {n c : Nat} {A : Mt} {d : Rat} {pr : AV} {x : Option Blk} {vt : Nat} {g : Heap} {a k : Nat} (ha : a < n) (hk : k < n) (hd : Lq d < 100000000) :
    CL F 124 [.ptr 0 0 0 0, eI a, eI k] (some ⟨0, 5, [aW (.ref 2 vt 1 0 n) pr d]⟩ :: x :: some ⟨vt, 1, em eR (tab n c A)⟩ :: g) = some (.tup [], (some ⟨0, 5, [aW (.ref 2 vt 1 0 n) pr (if a = k then d else -d)]⟩ :: x :: some ⟨vt, 1, em eR (tab n c (swp A a k))⟩ :: g)) := by
  refine CL_X (F := F) (f := 124) rfl rfl ?_
  by_cases e : a = k
  · subst e
    rw [if_pos rfl, swp_self]
    refine go3 ?_
    trivial
  · rw [if_neg e]
    have e1 : ¬ ((a : Int) = (k : Int)) := by omega
    have g1 := em_getN (f := eR) (tab n c A) a (by rw [tab_len]; exact ha)
    have g2 := em_getN (f := eR) (tab n c A) k (by rw [tab_len]; exact hk)
    rw [tab_get ha] at g1
    rw [tab_get hk] at g2
    have s1 : ((tab n c A).set a (rowf c (A k))).set k (rowf c (A a)) = tab n c (swp A a k) := by
      rw [tab_set ha, tab_set hk]
      refine congrArg (tab n c) ?_
      funext i y
      unfold setr swp
      by_cases h1 : i = k
      · subst h1; rw [if_pos rfl, if_neg (Ne.symm e), if_pos rfl]
      · rw [if_neg h1]
        by_cases h2 : i = a
        · subst h2; rw [if_pos rfl, if_pos rfl]
        · rw [if_neg h2, if_neg h2, if_neg h1]
    have g3 : (em eR ((tab n c A).set a (rowf c (A k))))[k]? = some (eR (rowf c (A k))) := by
      rw [← em_set, List.getElem?_set_ne e]; exact g2
    have c1 : ((a : Int) < (n : Int)) := by omega
    have c2 : ((k : Int) < (n : Int)) := by omega
    have hl : (em eR (tab n c A)).length = n := by rw [em_len, tab_len]
    have nn := s_rat_Neg hd
    generalize rowf c (A k) = rk at *
    generalize rowf c (A a) = ra at *
    generalize tab n c (swp A a k) = T2 at *
    generalize tab n c A = T1 at *
    clear e
    refine go3 ?_
    trivial
def PV (g : Heap) (piv : List Nat) (pr : AV) : Prop := (piv = [] ∧ pr = .nil) ∨ ∃ vp g1 g2, g = g1 ++ some ⟨vp, 1, ui (ivl piv)⟩ :: g2 ∧ pr = .ref (g1.length + 1 + 1 + 1) vp 1 0 piv.length
theorem PV.len {g : Heap} {piv : List Nat} {pr : AV} (h : PV g piv pr) : lenA false pr = some (eI piv.length) := by
  rcases h with ⟨rfl, rfl⟩ | ⟨vp, g1, g2, _, rfl⟩ <;> rfl
def WH (n c : Nat) (s : Mt × List Nat × Rat) (h : Heap) : Prop := ∃ x vt pr g, h = (some ⟨0, 5, [aW (.ref 2 vt 1 0 n) pr s.2.2]⟩ :: x :: some ⟨vt, 1, em eR (tab n c s.1)⟩ :: g) ∧ PV g s.2.1 pr
theorem s_step {n c j : Nat} {s : Mt × List Nat × Rat} {h : Heap} (H : WH n c s h) (hn : n ≤ 1000) (hc : c ≤ 1000) (hj : j < c) (hle : s.2.1.length ≤ n) {M : Nat} (hM : M < 1000000) (hA : ∀ r, r < n → ∀ y, y < c → Lq (s.1 r y) ≤ M) (hd : Lq s.2.2 < 10000000) :
    ∃ x, CL F 83 [.ptr 0 0 0 0, eI j] h = some x ∧ ∃ h', x = (.tup [], h') ∧ WH n c (gstep n j s) h' := by
  obtain ⟨A, piv, d⟩ := s
  obtain ⟨x, vt, pr, g, rfl, hpv⟩ := H
  simp only at hpv hle hA hd
  have hlen := hpv.len
  unfold lenA at hlen
  refine CL_XE (F := F) (f := 83) rfl rfl ?_
  obtain ⟨k1, k2, k3, k4⟩ := fnd_spec (n := n) (A := A) (j := j) hle
  have hf := s_find (n := n) (c := c) (A := A) (d := d) (pr := pr) (x := x) (vt := vt) (g := g) (a := piv.length) (j := j) hle (by omega) hj
  have hgs : gstep n j (A, piv, d) = if fnd n A j piv.length = n then (A, piv, d) else (elimTo (pivR A piv.length (fnd n A j piv.length) j) piv.length j n, piv ++ [j], (if piv.length = fnd n A j piv.length then d else -d) * A (fnd n A j piv.length) j) := rfl
  rw [hgs]
  clear hgs
  generalize fnd n A j piv.length = k at *
  by_cases hk : k = n
  · subst hk
    rw [if_pos rfl]
    clear k1 k2 k3 k4 hA hd hle
    refine go3 ?_
    exact ⟨_, rfl, _, rfl, _, _, _, _, rfl, hpv⟩
  · rw [if_neg hk]
    have hkn : k < n := by omega
    have hp := k4 hkn
    have hkc : ¬ ((k : Int) = (n : Int)) := by omega
    generalize ha : piv.length = a at *
    have han : a < n := by omega
    have hs := s_swap (n := n) (c := c) (A := A) (d := d) (pr := pr) (x := x) (vt := vt) (g := g) (a := a) (k := k) han hkn (by omega)
    have hdd : Lq (if a = k then d else -d) < 10000000 := by
      split
      · exact hd
      · rw [Lq_neg]; exact hd
    generalize (if a = k then d else -d) = d1 at *
    have hB : swp A a k a = A k := by unfold swp; rw [if_pos rfl]
    have hrow : rowf c (swp A a k a) = rowf c (A k) := by rw [hB]
    have g1 := em_getN (f := eR) (tab n c (swp A a k)) a (by rw [tab_len]; exact han)
    rw [tab_get han, hrow] at g1
    have g2 := em_getN (f := eQ) (rowf c (A k)) j (by rw [rowf_len]; exact hj)
    rw [rowf_get hj] at g2
    have m1 := s_rat_Mul (a := d1) (b := A k j) (by omega) (by have := hA k hkn j hj; omega)
    have m2 := s_rat_Inv (a := A k j) hp (by have := hA k hkn j hj; omega)
    have m3 := s_vect_Scale (l := rowf c (A k)) (c := (A k j)⁻¹) (by rw [rowf_len]; omega) (M := M) (by omega) (fun q hq => by
      obtain ⟨y, hy, rfl⟩ := mem_rowf.1 hq
      exact hA k hkn y hy) (by
      have := hA k hkn j hj
      have := Lq_inv (A k j) hp
      omega)
    have e1 : (rowf c (A k)).map (· * (A k j)⁻¹) = rowf c fun x => (A k j)⁻¹ * A k x := by
      rw [rowf_map]
      exact rowf_congr fun y _ => Rat.mul_comm _ _
    rw [e1] at m3
    have s1 : (tab n c (swp A a k)).set a (rowf c fun x => (A k j)⁻¹ * A k x) = tab n c (pivR A a k j) := tab_set han
    have c1 : ((a : Int) < (n : Int)) := by omega
    have c2 : ((j : Int) < (c : Int)) := by omega
    have hrl := rowf_len c (A k)
    have hl : (em eR (tab n c (swp A a k))).length = n := by rw [em_len, tab_len]
    have bn : ∀ r, r < n → r ≠ a → ∀ y, y < c → Lq (pivR A a k j r y) ≤ M := fun r hr hne y hy => by
      unfold pivR setr
      rw [if_neg hne]
      unfold swp
      rw [if_neg hne]
      split
      · exact hA a han y hy
      · exact hA r hr y hy
    have ba : ∀ y, y < c → Lq (pivR A a k j a y) ≤ 2 * M := fun y hy => by
      unfold pivR setr
      rw [if_pos rfl]
      have := hA k hkn y hy
      have := hA k hkn j hj
      have := Lq_inv (A k j) hp
      have := Lq_mul (A k j)⁻¹ (A k y)
      show Lq ((A k j)⁻¹ * A k y) ≤ 2 * M
      omega
    generalize (A k j)⁻¹ = iv at *
    generalize A k j = p at *
    generalize rowf c (A k) = rk at *
    generalize rowf c (fun x => iv * A k x) = rs at *
    generalize tab n c (swp A a k) = T1 at *
    generalize pivR A a k j = E at *
    clear hk k1 k2 k3 k4 hA hd hdd hle hp hB hrow e1 hkn
    refine go3 ?_
    refine X_up n (fun i s => ∃ j9 j75 j93 g', s = ⟨[(0, .ptr 0 0 0 0), (1, eI j), (4, eI a), (5, eI k), (6, .ptr (g.length + 1 + 1 + 1) 0 0 0), (7, .ptr (g.length + 1 + 1 + 1 + 1) 0 0 0), (9, j9), (25, .bool false), (73, eI n), (74, eI i), (75, j75), (93, j93)], (some ⟨0, 5, [.agg [.ref 2 vt 1 0 n, pr, .bool (decide ((d1 * p).num < 0)), eN (ab (d1 * p).num), eN (d1 * p).den]]⟩ :: x :: some ⟨vt, 1, em eR (tab n c (elimTo E a j i))⟩ :: (g ++ g'))⟩) ?_ ?_ 0 (Nat.zero_le _) _ ⟨_, _, _, _, by rw [elimTo_zero]; rfl⟩
    · rintro i s hi ⟨j9, j75, j93, g', rfl⟩ rec
      have hlt := lt_c hi
      have hl := (em_len (f := eR) (tab n c (elimTo E a j i))).trans (tab_len n c _)
      have hi6 : i < 9223372036854775807 := by omega
      by_cases hia : i = a
      · subst hia
        rw [elimTo_self] at rec
        have c3 : ¬ ((i : Int) ≠ (i : Int)) := by omega
        have hw := i64_nat hi6
        clear bn ba hf hs
        refine go3 ?_
        exact rec _ ⟨_, _, _, _, rfl⟩
      · have c3 : ((i : Int) ≠ (a : Int)) := by omega
        have c4 : ¬ ((i : Int) = (a : Int)) := by omega
        have q1 := em_getN (f := eR) (tab n c (elimTo E a j i)) i (by rw [tab_len]; exact hi)
        rw [tab_get hi, elimTo_ge E (Nat.le_refl i)] at q1
        have q2 := em_getN (f := eQ) (rowf c (E i)) j (by rw [rowf_len]; exact hj)
        rw [rowf_get hj] at q2
        have q3 := em_getN (f := eR) (tab n c (elimTo E a j i)) a (by rw [tab_len]; exact han)
        rw [tab_get han, elimTo_at] at q3
        have q4 := s_rat_Sign (E i j)
        have rl1 := rowf_len c (E i)
        have b1 := bn i hi hia
        by_cases hz : E i j = 0
        · have q5 : sgn (E i j).num = 0 := (sgn_num_zero _).2 hz
          have q6 : tab n c (elimTo E a j i) = tab n c (elimTo E a j (i + 1)) := tab_congr fun r hr y hy => by
            rw [elimTo_succ E hia]
            unfold setr
            split
            · next e =>
              rw [e, hz]
              grind
            · rfl
          rw [q5] at q4
          rw [← q6] at rec
          generalize tab n c (elimTo E a j i) = T2 at *
          generalize rowf c (E i) = ri at *
          generalize rowf c (E a) = ra at *
          generalize E i j = z at *
          have hw := i64_nat hi6
          clear bn ba hf hs hz b1 q6
          refine go3 ?_
          exact rec _ ⟨_, _, _, _, rfl⟩
        · have q5 : ¬ (sgn (E i j).num = 0) := fun h => hz ((sgn_num_zero _).1 h)
          have q6 := s_vect_Less (a := rowf c (E i)) (b := rowf c (E a)) (k := E i j) (by rw [rowf_len]; omega) (by rw [rowf_len, rowf_len]) (M := 2 * M) (by omega) (fun q hq => by
            obtain ⟨y, hy, rfl⟩ := mem_rowf.1 hq
            have := b1 y hy
            omega) (fun q hq => by
            obtain ⟨y, hy, rfl⟩ := mem_rowf.1 hq
            exact ba y hy) (by have := b1 j hj; omega)
          have q7 : (tab n c (elimTo E a j i)).set i (lessR (rowf c (E i)) (E i j) (rowf c (E a))) = tab n c (elimTo E a j (i + 1)) := by
            have e : lessR (rowf c (E i)) (E i j) (rowf c (E a)) = rowf c fun x => elimTo E a j i i x + -(E i j) * elimTo E a j i a x := by
              unfold lessR
              rw [rowf_zip, elimTo_ge E (Nat.le_refl i), elimTo_at]
              exact rowf_congr fun y _ => by grind
            rw [e, elimTo_succ E hia, tab_set hi]
          generalize lessR (rowf c (E i)) (E i j) (rowf c (E a)) = rn at *
          generalize tab n c (elimTo E a j (i + 1)) = T3 at *
          generalize tab n c (elimTo E a j i) = T2 at *
          generalize rowf c (E i) = ri at *
          generalize rowf c (E a) = ra at *
          generalize E i j = z at *
          have hw := i64_nat hi6
          clear bn ba hf hs hz b1
          refine go3 ?_
          exact rec _ ⟨_, _, _, _, rfl⟩
    · rintro s ⟨j9, j75, j93, g', rfl⟩
      have hlt : ¬ ((n : Int) < (n : Int)) := nlt_c
      have hi6 : piv.length + 1 < 17592186044416 := by omega
      rcases hpv with ⟨rfl, rfl⟩ | ⟨vp, g1, g2, rfl, rfl⟩
      · have z1 : (ui [(j : Int)]).isEmpty = false := rfl
        clear bn ba hf hs
        refine go3 ?_
        exact ⟨_, rfl, _, rfl, _, _, _, _, rfl, .inr ⟨0, g ++ (g' ++ [some ⟨0, 1, ui [(j : Int)]⟩]), [], by simp [ivl], by simp⟩⟩
      · have z1 : (ui [(j : Int)]).isEmpty = false := rfl
        have z2 : (ivl piv).length = a := by rw [ivl_len, ha]
        have z3 := ivl_snoc piv j
        have z4 : List.take a (ivl piv) = ivl piv := take_len_g _ z2.symm
        rw [ha] at hi6
        have z5 : (piv ++ [j]).length = a + 1 := by simp [ha]
        clear bn ba hf hs
        refine go3 ?_
        exact ⟨_, rfl, _, rfl, _, _, _, _, rfl, .inr ⟨vp + 1, g1, _, by rw [z3], by rw [z5]⟩⟩
end Go.S

end
section
set_option linter.unusedVariables false
set_option linter.unusedSimpArgs false
set_option maxRecDepth 100000
namespace Go.S
open Go Go.AM Go.RowKit Go.K
theorem s_clonev {l : List Rat} (hl : l.length ≤ 1000000) (h : Heap) : cloneV (CL F) 115 (eR l) h = some (eR l, h) := by
  cases l with
  | nil =>
    show cloneV (CL F) _ (.lst []) h = _
    rw [cloneV_nil]
    have h1 := s_clone_nil h
    rw [cloneA_nil] at h1
    split at h1
    · next hh => rw [if_pos hh]; rfl
    · cases h1
  | cons x l =>
    rw [cloneV_ne (by intro e; cases e)]
    have h1 := s_clone hl [] (by intro e; cases e)
    rw [callA_pure, fzs_cons, fz_lst, fzs_nil, fzK_some, cpA_some]
    have h2 : CP (CL F) 115 [eR (x :: l)] = some (eR (x :: l)) := by
      refine CP_raw h1 ?_
      exact (fz_ref').trans <| (em_fz6 (h := [some ⟨0, 3, em eQ (x :: l)⟩]) (v := 0) (off := 0) (len := (x :: l).length) E_eQ (x :: l)).trans (by rw [sub_full])
    rw [h2]
    rfl
theorem s_begin0 : CL F 104 [.lst []] [] = some (.tup [.ptr 0 0 0 0, eI 0], [some ⟨0, 5, [aW .nil .nil 1]⟩]) := by
  refine CL_X (F := F) (f := 104) rfl rfl ?_
  have h2 := s_Check (t := []) (by simp)
  rw [show may [] = true from rfl, if_pos rfl] at h2
  replace h2 : CP (CL F) 14 [.lst []] = some (eI 0) := h2
  have h3 := s_rat_Of (a := 1) (by decide) (by decide)
  rw [show ((1 : Int) : Rat) = 1 from rfl] at h3
  refine go3 ?_
  refine X_round ?_
  refine go3 ?_
  trivial
theorem tab_wide {n c : Nat} {A : Mt} (h : 0 < n) : wide (tab n c A) = c := by
  unfold wide
  rw [show (tab n c A).getD 0 [] = rowf c (A 0) from tab_get h, rowf_len]
theorem tab_may {n c : Nat} {A : Mt} (hn : n ≤ 200) (hc : c ≤ 200) : may (tab n c A) = true := by
  rw [may_iff, tab_len]
  rcases Nat.eq_zero_or_pos n with h | h
  · subst h; exact ⟨by omega, by simp [wide, tab], fun r hr => by simp [tab] at hr⟩
  · rw [tab_wide h]; exact ⟨hn, hc, tab_row⟩
theorem s_begin {n c : Nat} {A : Mt} (hn : 0 < n) (hn2 : n ≤ 200) (hc : c ≤ 200) : ∃ x, CL F 104 [eT (tab n c A)] [] = some x ∧ ∃ h, x = (.tup [.ptr 0 0 0 0, eI 0], h) ∧ WH n c (A, [], 1) h := by
  have hm := tab_may (A := A) hn2 hc
  have hl : (tab n c A).length = n := tab_len _ _ _
  have hr : ∀ i, i < n → ((tab n c A).getD i default).length ≤ 200 := fun i hi => by rw [tab_get hi, rowf_len]; exact hc
  suffices H : ∃ x, CL F 104 [eT (tab n c A)] [] = some x ∧ ∃ v y g, x = (.tup [.ptr 0 0 0 0, eI 0], some ⟨0, 5, [aW (.ref 2 v 1 0 n) .nil 1]⟩ :: y :: some ⟨v, 1, em eR (tab n c A)⟩ :: g) by
    obtain ⟨x, h1, v, y, g, rfl⟩ := H
    exact ⟨_, h1, _, rfl, _, _, _, _, rfl, .inl ⟨rfl, rfl⟩⟩
  generalize tab n c A = t at *
  subst hl
  refine CL_XE (F := F) (f := 104) rfl rfl ?_
  have h2 := s_Check (t := t) (by omega)
  rw [hm, if_pos rfl] at h2
  have h3 := s_rat_Of (a := 1) (by decide) (by decide)
  rw [show ((1 : Int) : Rat) = 1 from rfl] at h3
  have hlt0 : ((0 : Int) < (t.length : Int)) := by omega
  have g0 := em_getN (f := eR) t 0 hn
  have k0 := fun h => s_clonev (l := t.getD 0 default) (by have := hr 0 hn; omega) h
  have hw1 : wrap64 (0 + 1) = 1 := by rw [show (0 : Int) + 1 = 1 from rfl, w64 (by omega) (by omega)]
  have hs0 : t.take 1 = [t.getD 0 default] := by rw [take_succ_getD t 0 hn]; rfl
  generalize t.getD 0 default = r0 at *
  clear hm
  refine go3 ?_
  refine X_round ?_
  refine go3 ?_
  refine X_up t.length (fun i s => ∃ j7 j19 v y g, s = ⟨[(0, eT t), (2, .nilp), (3, eI 0), (4, eI 0), (5, .ptr 0 0 0 0), (7, j7), (11, .bool false), (16, eT t), (17, eI t.length), (18, eI i), (19, j19)], some ⟨0, 5, [aW (.ref 2 v 1 0 i) .nil 1]⟩ :: y :: some ⟨v, 1, em eR (t.take i)⟩ :: g⟩) ?_ ?_ 1 hn _ ⟨_, _, _, _, _, by rw [hs0]; rfl⟩
  · rintro i s hi ⟨j7, j19, v, y, g, rfl⟩ rec
    have hlt := lt_c hi
    have g1 := em_getN (f := eR) t i hi
    have k1 := fun h => s_clonev (l := t.getD i default) (by have := hr i hi; omega) h
    have hs : t.take i ++ [t.getD i default] = t.take (i + 1) := (take_succ_getD t i hi).symm
    have hlen : (t.take i).length = i := by simp; omega
    have ht : List.take i (t.take i) = t.take i := take_len_g _ hlen.symm
    generalize t.getD i default = r1 at *
    have hlim : i < 5864062014805 := by omega
    have hi6 : i < 9223372036854775807 := by omega
    have hw := i64_nat hi6
    clear hr hlen hs0 k0 g0 hlt0
    refine go3 ?_
    exact rec _ ⟨_, _, _, _, _, rfl⟩
  · rintro s ⟨j7, j19, v, y, g, rfl⟩
    have hlt : ¬ ((t.length : Int) < (t.length : Int)) := nlt_c
    clear hr hs0 k0 g0
    refine go3 ?_
    exact ⟨_, rfl, _, _, _, rfl⟩
theorem pow5 (K m : Nat) : K * 5 ^ (m + 1) = 5 * (K * 5 ^ m) := by rw [Nat.pow_succ]; simp only [Nat.mul_comm, Nat.mul_left_comm]
theorem gstep_size {n c j K : Nat} {s : Mt × List Nat × Rat} (hK : 1 ≤ K) (hle : s.2.1.length ≤ n) (hj : j < c) (hA : ∀ r, r < n → ∀ y, y < c → Lq (s.1 r y) ≤ K * 5 ^ s.2.1.length) (hd : Lq s.2.2 ≤ K * 5 ^ s.2.1.length) :
    (∀ r, r < n → ∀ y, y < c → Lq ((gstep n j s).1 r y) ≤ K * 5 ^ (gstep n j s).2.1.length) ∧ Lq (gstep n j s).2.2 ≤ K * 5 ^ (gstep n j s).2.1.length := by
  obtain ⟨A, piv, d⟩ := s
  simp only at hA hd hle
  obtain ⟨k1, k2, k3, k4⟩ := fnd_spec (n := n) (A := A) (j := j) hle
  have hgs : gstep n j (A, piv, d) = if fnd n A j piv.length = n then (A, piv, d) else (elimTo (pivR A piv.length (fnd n A j piv.length) j) piv.length j n, piv ++ [j], (if piv.length = fnd n A j piv.length then d else -d) * A (fnd n A j piv.length) j) := rfl
  rw [hgs]
  clear hgs
  generalize fnd n A j piv.length = k at *
  by_cases hk : k = n
  · rw [if_pos hk]; exact ⟨hA, hd⟩
  · rw [if_neg hk]
    simp only [List.length_append, List.length_singleton]
    have hp := k4 (by omega)
    rw [pow5]
    have h1 : 1 ≤ K * 5 ^ piv.length := Nat.mul_pos hK (Nat.pos_of_ne_zero (by simp))
    generalize K * 5 ^ piv.length = M at *
    generalize piv.length = a at *
    have han : a < n := by omega
    have hkn : k < n := by omega
    have hkj := hA k hkn j hj
    have hpa : ∀ y, y < c → Lq (pivR A a k j a y) ≤ 2 * M := fun y hy => by
      have e : pivR A a k j a y = (A k j)⁻¹ * A k y := by unfold pivR setr; rw [if_pos rfl]
      rw [e]
      have := hA k hkn y hy
      have := Lq_inv (A k j) hp
      have := Lq_mul (A k j)⁻¹ (A k y)
      omega
    have hpr : ∀ r, r < n → r ≠ a → ∀ y, y < c → Lq (pivR A a k j r y) ≤ M := fun r hr hne y hy => by
      unfold pivR setr
      rw [if_neg hne]
      unfold swp
      rw [if_neg hne]
      split
      · exact hA a han y hy
      · exact hA r hr y hy
    constructor
    · intro r hr y hy
      by_cases hra : r = a
      · rw [hra, elimTo_at]
        have := hpa y hy
        omega
      · unfold elimTo
        rw [if_pos ⟨hr, hra⟩]
        have h2 := hpr r hr hra y hy
        have h3 := hpr r hr hra j hj
        have h4 := hpa y hy
        have h5 := Lq_sub (pivR A a k j r y) (pivR A a k j r j * pivR A a k j a y)
        have h6 := Lq_mul (pivR A a k j r j) (pivR A a k j a y)
        omega
    · have h2 := Lq_mul (if a = k then d else -d) (A k j)
      have h3 : Lq (if a = k then d else -d) ≤ M := by
        split
        · exact hd
        · rw [Lq_neg]; exact hd
      omega
theorem grun_size {n c K : Nat} {A : Mt} (hK : 1 ≤ K) (hA : ∀ r, r < n → ∀ y, y < c → Lq (A r y) ≤ K) : ∀ j, j ≤ c → (∀ r, r < n → ∀ y, y < c → Lq ((grun n A j).1 r y) ≤ K * 5 ^ (grun n A j).2.1.length) ∧ Lq (grun n A j).2.2 ≤ K * 5 ^ (grun n A j).2.1.length := by
  intro j
  induction j with
  | zero =>
    intro _
    refine ⟨fun r hr y hy => ?_, ?_⟩
    · show Lq (A r y) ≤ K * 1
      have := hA r hr y hy
      omega
    · show Lq 1 ≤ K * 1
      have := Lq_one
      omega
  | succ j ih =>
    intro hj
    obtain ⟨h1, h2⟩ := ih (by omega)
    exact gstep_size hK (grun_RR n A j).le (by omega) h1 h2
theorem grun_bound {n c K : Nat} {A : Mt} (hK : 1 ≤ K) (hA : ∀ r, r < n → ∀ y, y < c → Lq (A r y) ≤ K) {j : Nat} (hj : j ≤ c) : (∀ r, r < n → ∀ y, y < c → Lq ((grun n A j).1 r y) ≤ K * 5 ^ n) ∧ Lq (grun n A j).2.2 ≤ K * 5 ^ n := by
  obtain ⟨h1, h2⟩ := grun_size hK hA j hj
  have h3 : K * 5 ^ (grun n A j).2.1.length ≤ K * 5 ^ n := Nat.mul_le_mul_left K (Nat.pow_le_pow_right (by decide) (grun_RR n A j).le)
  exact ⟨fun r hr y hy => Nat.le_trans (h1 r hr y hy) h3, Nat.le_trans h2 h3⟩
def GB (n c M : Nat) (A : Mt) : Prop := ∀ j, j ≤ c → (∀ r, r < n → ∀ y, y < c → Lq ((grun n A j).1 r y) ≤ M) ∧ Lq (grun n A j).2.2 ≤ M
theorem grun_GB {n c K : Nat} {A : Mt} (hK : 1 ≤ K) (hA : ∀ r, r < n → ∀ y, y < c → Lq (A r y) ≤ K) : GB n c (K * 5 ^ n) A := fun _ hj => grun_bound hK hA hj
theorem s_run {n c M : Nat} {A : Mt} (hn : 0 < n) (hn2 : n ≤ 200) (hc : c ≤ 200) (hM : M < 1000000) (hA : GB n c M A) :
    ∃ x, CL F 55 [eT (tab n c A)] [] = some x ∧ ∃ h, x = (.tup [.ptr 0 0 0 0, eI 0], h) ∧ WH n c (grun n A c) h := by
  obtain ⟨x, b1, h0, rfl, b2⟩ := s_begin (A := A) hn hn2 hc
  refine CL_XE (F := F) (f := 55) rfl rfl ?_
  have h1 := s_Size (tab n c A)
  rw [tab_wide hn, tab_len] at h1
  have hstep : ∀ j, j < c → ∀ h, WH n c (grun n A j) h → ∃ x, CL F 83 [.ptr 0 0 0 0, eI j] h = some x ∧ ∃ h', x = (.tup [], h') ∧ WH n c (grun n A (j + 1)) h' := fun j hj h hw => by
    obtain ⟨g1, g2⟩ := hA j (by omega)
    exact s_step hw (by omega) (by omega) hj (grun_RR n A j).le (M := M) hM g1 (by omega)
  replace b2 : WH n c (grun n A 0) h0 := b2
  clear hA
  refine go3 ?_
  refine X_up c (fun j s => ∃ j8 j24 h, s = ⟨[(0, eT (tab n c A)), (2, .nilp), (3, eI 0), (4, .ptr 0 0 0 0), (5, eI 0), (7, eI c), (8, j8), (15, .bool false), (22, eI c), (23, eI j), (24, j24)], h⟩ ∧ WH n c (grun n A j) h) ?_ ?_ 0 (Nat.zero_le _) _ ⟨_, _, _, rfl, b2⟩
  · rintro j s hj ⟨j8, j24, h, rfl, hw⟩ rec
    have hlt := lt_c hj
    obtain ⟨x, hs, h', rfl, hw'⟩ := hstep j hj h hw
    have hi6 : j < 9223372036854775807 := by omega
    have hw6 := i64_nat hi6
    clear hstep b1 hw b2
    refine go3 ?_
    exact rec _ ⟨_, _, _, rfl, hw'⟩
  · rintro s ⟨j8, j24, h, rfl, hw⟩
    have hlt : ¬ ((c : Int) < (c : Int)) := nlt_c
    clear hstep b1 b2
    refine go3 ?_
    exact ⟨_, rfl, _, rfl, hw⟩
theorem s_run0 : CL F 55 [.lst []] [] = some (.tup [.ptr 0 0 0 0, eI 0], [some ⟨0, 5, [aW .nil .nil 1]⟩]) := by
  refine CL_X (F := F) (f := 55) rfl rfl ?_
  have b1 := s_begin0
  have h1 : CP (CL F) 27 [.lst []] = some (.tup [eI 0, eI 0]) := s_Size []
  refine go3 ?_
  refine X_round ?_
  refine go3 ?_
  trivial
theorem s_Reduce0 : CP (CL F) 12 [.lst []] = some (.tup [.lst [], .lst [], eI 0]) := by
  refine CP_X (F := F) (f := 12) rfl rfl ?_
  have b1 := s_run0
  refine go3 ?_
  trivial
theorem s_Reduce {n c M : Nat} {A : Mt} (hn2 : n ≤ 200) (hc : c ≤ 200) (h0 : n = 0 → c = 0) (hM : M < 1000000) (hA : GB n c M A) :
    CP (CL F) 12 [eT (tab n c A)] = some (.tup [eT (tab n c (grun n A c).1), .lst (ui (ivl (grun n A c).2.1)), eI 0]) := by
  rcases Nat.eq_zero_or_pos n with e | e
  · subst e
    rw [h0 rfl]
    exact s_Reduce0
  · obtain ⟨x, b1, h, rfl, b2⟩ := s_run e hn2 hc hM hA
    refine CP_X (F := F) (f := 12) rfl rfl ?_
    obtain ⟨y, vt, pr, g, rfl, hp⟩ := b2
    have z1 := tab_len n c (grun n A c).1
    have z2 : List.take n (tab n c (grun n A c).1) = tab n c (grun n A c).1 := take_len_g _ z1.symm
    have z3 := ivl_len (grun n A c).2.1
    have z4 : List.take (grun n A c).2.1.length (ivl (grun n A c).2.1) = ivl (grun n A c).2.1 := take_len_g _ z3.symm
    generalize (grun n A c).2.1 = piv at *
    generalize (grun n A c).2.2 = d at *
    generalize tab n c (grun n A c).1 = T at *
    generalize tab n c A = T0 at *
    rcases hp with ⟨rfl, rfl⟩ | ⟨vp, g1, g2, rfl, rfl⟩
    · clear hA
      refine go3 ?_
      trivial
    · clear hA
      refine go3 ?_
      trivial
end Go.S

end
section
set_option linter.unusedVariables false
set_option linter.unusedSimpArgs false
set_option maxRecDepth 100000
namespace Go.S
open Go Go.AM Go.RowKit Go.K
theorem tab_swp {n c : Nat} {A : Mt} {a k : Nat} (ha : a < n) (hk : k < n) : ((tab n c A).set a (rowf c (A k))).set k (rowf c (A a)) = tab n c (swp A a k) := by
  rw [tab_set ha, tab_set hk]
  refine congrArg (tab n c) ?_
  funext i y
  unfold setr swp
  by_cases h1 : i = k
  · subst h1
    rw [if_pos rfl]
    by_cases h2 : i = a
    · subst h2; rw [if_pos rfl]
    · rw [if_neg h2, if_pos rfl]
  · rw [if_neg h1]
    by_cases h2 : i = a
    · subst h2; rw [if_pos rfl, if_pos rfl]
    · rw [if_neg h2, if_neg h2, if_neg h1]
theorem s_refReduce {n c K : Nat} {A : Mt} (hn2 : n ≤ 200) (hc : c ≤ 200) (h0 : n = 0 → c = 0) (hK : 1 ≤ K) (hA : ∀ r, r < n → ∀ y, y < c → Lq (A r y) ≤ K) (hb : K * 5 ^ n < 1000000) :
    CP (CL F) 17 [rT (tab n c A)] = some (.tup [rT (tab n c (grun n A c).1), .lst (ui (ivl (grun n A c).2.1))]) := by
  refine CP_X (F := F) (f := 17) rfl rfl ?_
  have hW : CP (CL F) 41 [rT (tab n c A)] = some (eI c) := by
    have := s_Wide (tab n c A)
    rcases Nat.eq_zero_or_pos n with e | e
    · subst e; rw [h0 rfl] at *; exact this
    · rwa [tab_wide e] at this
  have z1 := tab_len n c A
  have z2 : List.take n (tab n c A) = tab n c A := take_len_g _ z1.symm
  have hlim : n ≤ 5864062014805 := by omega
  have hgb := fun j (hj : j ≤ c) => grun_bound hK hA hj
  have hgr := fun j => (grun_RR n A j).le
  have hgs : ∀ j, grun n A (j + 1) = gstep n j (grun n A j) := fun j => rfl
  have hg0 : grun n A 0 = (A, [], 1) := rfl
  have hw0 : List.length ([] : List Int) = 0 := rfl
  clear hA
  refine go3 ?_
  refine X_up c (fun j s => ∃ j7 j8 j9 j17 j36 j42 j76 j81 v w g, s = ⟨[(0, rT (tab n c A)), (2, .nil), (3, .nil), (4, .ref 0 v 1 0 n), (5, .ref 1 w 1 0 (grun n A j).2.1.length), (6, eI j), (7, j7), (8, j8), (9, j9), (17, j17), (36, j36), (42, j42), (76, j76), (81, j81)], some ⟨v, 1, em rR (tab n c (grun n A j).1)⟩ :: some ⟨w, 1, ui (ivl (grun n A j).2.1)⟩ :: g⟩) ?_ ?_ 0 (Nat.zero_le _) _ ⟨_, _, _, _, _, _, _, _, _, _, [], rfl⟩
  · rintro j s hj ⟨j7, j8, j9, j17, j36, j42, j76, j81, v, w, g, rfl⟩ rec
    rw [hgs j] at rec
    obtain ⟨gb, _⟩ := hgb j (by omega)
    have hle := hgr j
    have hgst : gstep n j (grun n A j) = if fnd n (grun n A j).1 j (grun n A j).2.1.length = n then grun n A j else (elimTo (pivR (grun n A j).1 (grun n A j).2.1.length (fnd n (grun n A j).1 j (grun n A j).2.1.length) j) (grun n A j).2.1.length j n, (grun n A j).2.1 ++ [j], (if (grun n A j).2.1.length = fnd n (grun n A j).1 j (grun n A j).2.1.length then (grun n A j).2.2 else -(grun n A j).2.2) * (grun n A j).1 (fnd n (grun n A j).1 j (grun n A j).2.1.length) j) := rfl
    rw [hgst] at rec
    obtain ⟨k1, k2, k3, k4⟩ := fnd_spec (n := n) (A := (grun n A j).1) (j := j) hle
    generalize K * 5 ^ n = M at *
    generalize fnd n (grun n A j).1 j (grun n A j).2.1.length = k at *
    have hpl := ivl_len (grun n A j).2.1
    have hps := ivl_snoc (grun n A j).2.1 j
    generalize grun n A j = s at *
    obtain ⟨E, piv, d⟩ := s
    simp only at *
    have hlt := lt_c hj
    have hi6 : j < 9223372036854775807 := by omega
    have hl := (em_len (f := rR) (tab n c E)).trans (tab_len n c _)
    have hpa : piv.length + 1 < 17592186044416 := by omega
    have hsn : (piv ++ [j]).length = piv.length + 1 := by simp
    have ht4 : List.take piv.length (ivl piv) = ivl piv := take_len_g _ hpl.symm
    clear hgb hgr hgs hgst hg0 z1 z2
    generalize ha : piv.length = a at *
    refine go3 ?_
    refine X_upto (k - a) (fun i s => ∃ j36, s = ⟨[(0, rT (tab n c A)), (2, .nil), (3, .nil), (4, .ref 0 v 1 0 n), (5, .ref 1 w 1 0 a), (6, eI j), (7, eI a), (8, eI (a + i : Nat)), (9, j9), (17, .bool true), (36, j36), (42, j42), (76, j76), (81, j81)], some ⟨v, 1, em rR (tab n c E)⟩ :: some ⟨w, 1, ui (ivl piv)⟩ :: g⟩) ?_ 0 (Nat.zero_le _) _ ⟨_, rfl⟩
    rintro i s hi ⟨j36, rfl⟩ rec2
    by_cases hin : a + i < n
    · have g1 := em_getN (f := rR) (tab n c E) (a + i) (by rw [tab_len]; exact hin)
      rw [tab_get hin] at g1
      have g2 := em_getN (f := rQ) (rowf c (E (a + i))) j (by rw [rowf_len]; exact hj)
      rw [rowf_get hj] at g2
      have hrl := rowf_len c (E (a + i))
      have sg := s_r08_Zero (E (a + i) j)
      have c1 : (((a + i : Nat) : Int) < (n : Int)) := by omega
      by_cases e : i < k - a
      · have z : E (a + i) j = 0 := k3 (a + i) (by omega) (by omega)
        rw [decide_eq_true z] at sg
        have hi7 : a + i < 9223372036854775807 := by omega
        have hw : wrap64 (((a + i : Nat) : Int) + 1) = ((a + (i + 1) : Nat) : Int) := i64_nat hi7
        generalize E (a + i) j = y at *
        generalize rowf c (E (a + i)) = r at *
        generalize a + i = ai at *
        clear k1 k2 k3 k4 z hi rec hlim gb
        refine go3 ?_
        exact rec2 _ e ⟨_, rfl⟩
      · have hik : a + i = k := by omega
        have z : E (a + i) j ≠ 0 := by rw [hik]; exact k4 (by omega)
        rw [decide_eq_false z] at sg
        have hkn : ¬ (((a + i : Nat) : Int) = (n : Int)) := by omega
        have hkn' : ¬ (a + i = n) := by omega
        subst hik
        rw [if_neg hkn'] at rec
        clear rec2 hi e k3 k4
        generalize a + i = k at *
        have han : a < n := by omega
        have g3 := em_getN (f := rR) (tab n c E) a (by rw [tab_len]; exact han)
        rw [tab_get han] at g3
        have s1 := tab_swp (c := c) (A := E) han hin
        have g4 : (em rR ((tab n c E).set a (rowf c (E k))))[k]? = some (rR (rowf c (E k))) := by
          rw [← em_set]
          by_cases h : a = k
          · subst h
            rw [List.getElem?_set_self (by rw [em_len, tab_len]; exact han)]
          · rw [List.getElem?_set_ne h]; exact g1
        have hB : swp E a k a = E k := by unfold swp; rw [if_pos rfl]
        have g5 := em_getN (f := rR) (tab n c (swp E a k)) a (by rw [tab_len]; exact han)
        rw [tab_get han, hB] at g5
        have m2 := s_r08_Inv (a := E k j) z
        have hkj := gb k hin j hj
        have m3 := s_r11_Scale (l := rowf c (E k)) (c := (E k j)⁻¹) (by rw [rowf_len]; omega) (M := M) (by omega) (fun q hq => by
          obtain ⟨y, hy, rfl⟩ := mem_rowf.1 hq
          exact gb k hin y hy) (by
          have := Lq_inv (E k j) z
          omega)
        have e1 : (rowf c (E k)).map (· * (E k j)⁻¹) = rowf c fun x => (E k j)⁻¹ * E k x := by
          rw [rowf_map]
          exact rowf_congr fun y _ => Rat.mul_comm _ _
        rw [e1] at m3
        have s2 : (tab n c (swp E a k)).set a (rowf c fun x => (E k j)⁻¹ * E k x) = tab n c (pivR E a k j) := tab_set han
        have c2 : ((a : Int) < (n : Int)) := by omega
        have hl2 : (em rR (tab n c (swp E a k))).length = n := by rw [em_len, tab_len]
        have bn : ∀ r, r < n → r ≠ a → ∀ y, y < c → Lq (pivR E a k j r y) ≤ M := fun r hr hne y hy => by
          unfold pivR setr
          rw [if_neg hne]
          unfold swp
          rw [if_neg hne]
          split
          · exact gb a han y hy
          · exact gb r hr y hy
        have ba : ∀ y, y < c → Lq (pivR E a k j a y) ≤ 2 * M := fun y hy => by
          unfold pivR setr
          rw [if_pos rfl]
          have := gb k hin y hy
          have := Lq_inv (E k j) z
          have := Lq_mul (E k j)⁻¹ (E k y)
          show Lq ((E k j)⁻¹ * E k y) ≤ 2 * M
          omega
        generalize (E k j)⁻¹ = iv at *
        generalize E k j = p at *
        generalize rowf c (E k) = rk at *
        generalize rowf c (E a) = ra at *
        generalize rowf c (fun x => iv * E k x) = rs at *
        generalize tab n c (swp E a k) = T1 at *
        generalize pivR E a k j = P at *
        clear k1 k2 gb hB e1 hkj z
        refine go3 ?_
        refine X_up n (fun i s => ∃ j76 j81, s = ⟨[(0, rT (tab n c A)), (2, .nil), (3, .nil), (4, .ref 0 v 1 0 n), (5, .ref 1 w 1 0 a), (6, eI j), (7, eI a), (8, eI k), (9, eI i), (17, .bool true), (36, .bool false), (42, .bool false), (76, j76), (81, j81)], some ⟨v, 1, em rR (tab n c (elimTo P a j i))⟩ :: some ⟨w, 1, ui (ivl piv)⟩ :: g⟩) ?_ ?_ 0 (Nat.zero_le _) _ ⟨_, _, by rw [elimTo_zero]; rfl⟩
        · rintro i s hi ⟨j76, j81, rfl⟩ rec3
          have hlt2 := lt_c hi
          have hl := (em_len (f := rR) (tab n c (elimTo P a j i))).trans (tab_len n c _)
          have hi7 : i < 9223372036854775807 := by omega
          clear rec m2 m3 s1 s2 g1 g2 g3 g4 g5 hl2
          by_cases hia : i = a
          · subst hia
            rw [elimTo_self] at rec3
            have c3 : ¬ ((i : Int) ≠ (i : Int)) := by omega
            have hw := i64_nat hi7
            clear bn ba
            refine go3 ?_
            exact rec3 _ ⟨_, _, rfl⟩
          · have c3 : ((i : Int) ≠ (a : Int)) := by omega
            have c4 : ¬ ((i : Int) = (a : Int)) := by omega
            have q1 := em_getN (f := rR) (tab n c (elimTo P a j i)) i (by rw [tab_len]; exact hi)
            rw [tab_get hi, elimTo_ge P (Nat.le_refl i)] at q1
            have q2 := em_getN (f := rQ) (rowf c (P i)) j (by rw [rowf_len]; exact hj)
            rw [rowf_get hj] at q2
            have q3 := em_getN (f := rR) (tab n c (elimTo P a j i)) a (by rw [tab_len]; exact han)
            rw [tab_get han, elimTo_at] at q3
            have rl1 := rowf_len c (P i)
            have b1 := bn i hi hia
            have q6 := s_r11_Less (a := rowf c (P i)) (b := rowf c (P a)) (c := P i j) (by rw [rowf_len]; omega) (by rw [rowf_len, rowf_len]) (M := 2 * M) (by omega) (fun q hq => by
              obtain ⟨y, hy, rfl⟩ := mem_rowf.1 hq
              have := b1 y hy
              omega) (fun q hq => by
              obtain ⟨y, hy, rfl⟩ := mem_rowf.1 hq
              exact ba y hy) (by have := b1 j hj; omega)
            have q7 : (tab n c (elimTo P a j i)).set i (lessR (rowf c (P i)) (P i j) (rowf c (P a))) = tab n c (elimTo P a j (i + 1)) := by
              have e : lessR (rowf c (P i)) (P i j) (rowf c (P a)) = rowf c fun x => elimTo P a j i i x + -(P i j) * elimTo P a j i a x := by
                unfold lessR
                rw [rowf_zip, elimTo_ge P (Nat.le_refl i), elimTo_at]
                exact rowf_congr fun y _ => by grind
              rw [e, elimTo_succ P hia, tab_set hi]
            generalize lessR (rowf c (P i)) (P i j) (rowf c (P a)) = rn at *
            generalize tab n c (elimTo P a j (i + 1)) = T3 at *
            generalize tab n c (elimTo P a j i) = T2 at *
            generalize rowf c (P i) = ri at *
            generalize rowf c (P a) = ra2 at *
            generalize P i j = zz at *
            have hw := i64_nat hi7
            clear bn ba b1
            refine go3 ?_
            exact rec3 _ ⟨_, _, rfl⟩
        · rintro s ⟨j76, j81, rfl⟩
          have hlt2 : ¬ ((n : Int) < (n : Int)) := nlt_c
          have hl := (em_len (f := rR) (tab n c (elimTo P a j n))).trans (tab_len n c _)
          have hw := i64_nat hi6
          clear bn ba m2 m3 s1 s2 g1 g2 g3 g4 g5 hl2
          subst ha
          refine go3 ?_
          rw [← hps, ← hsn]
          exact rec _ ⟨_, _, _, _, _, _, _, _, _, _, _, rfl⟩
    · have hik : a + i = k := by omega
      have hkn : k = n := by omega
      subst hkn
      rw [if_pos rfl] at rec
      rw [hik]
      have c1 : ¬ ((k : Int) < (k : Int)) := by omega
      have hw := i64_nat hi6
      clear k1 k2 k3 k4 hi rec2 hik hin gb hb hK h0 hpl hps
      subst ha
      refine go3 ?_
      exact rec _ ⟨_, _, _, _, _, _, _, _, _, _, _, rfl⟩
  · rintro s ⟨j7, j8, j9, j17, j36, j42, j76, j81, v, w, g, rfl⟩
    have hlt : ¬ ((c : Int) < (c : Int)) := nlt_c
    have z3 := tab_len n c (grun n A c).1
    have z4 : List.take n (tab n c (grun n A c).1) = tab n c (grun n A c).1 := take_len_g _ z3.symm
    have z5 := ivl_len (grun n A c).2.1
    have z6 : List.take (grun n A c).2.1.length (ivl (grun n A c).2.1) = ivl (grun n A c).2.1 := take_len_g _ z5.symm
    clear hgb hgr hgs hg0
    refine go3 ?_
    trivial
end Go.S

end
section
set_option linter.unusedVariables false
namespace Go.S
open Go Go.AM Go.RowKit Go.K
def runsTrue2 (F : Nat → Option AFunc) (n f : Nat) : Bool := match callN F n f [] [] with
  | some (.bool b, _) => b
  | _ => false
theorem CP_run2 {F : Nat → Option AFunc} {f : Nat} (n : Nat) (h : runsTrue2 F n f = true) : CP (CL F) f [] = some (.bool true) := by
  unfold runsTrue2 at h
  split at h
  · next b g hb =>
    subst h
    exact CP_raw (CL_of n hb) rfl
  · cases h
end Go.S

end
section
set_option linter.unusedVariables false
set_option linter.unusedSimpArgs false
set_option maxRecDepth 100000
namespace Go.S
open Go Go.AM Go.RowKit Go.K
theorem s_SameInts (l : List Int) (hl : l.length ≤ 1000000) : CP (CL F) 19 [.lst (ui l), .lst (ui l)] = some (.bool true) := by
  refine CP_X (F := F) (f := 19) rfl rfl ?_
  have h0 : ¬ ((l.length : Int) ≠ (l.length : Int)) := by omega
  refine go3 ?_
  refine X_up l.length (fun i s => ∃ j14 j25, s = ⟨[(0, .lst (ui l)), (1, .lst (ui l)), (4, .bool false), (5, eI i), (10, .bool false), (14, j14), (25, j25)], []⟩) ?_ ?_ 0 (Nat.zero_le _) _ ⟨_, _, rfl⟩
  · rintro i s hi ⟨j14, j25, rfl⟩ rec
    have hlt := lt_c hi
    have hi6 : i < 9223372036854775807 := by omega
    have g : (ui l)[i]? = some (.int .i64 (l.getD i 0)) := by simp [ui, List.getD, List.getElem?_eq_getElem hi]
    generalize l.getD i 0 = x at *
    have hx : ¬ (x ≠ x) := fun h => h rfl
    have hw := i64_nat hi6
    refine go3 ?_
    exact rec _ ⟨_, _, rfl⟩
  · rintro s ⟨j14, j25, rfl⟩
    have hlt : ¬ ((l.length : Int) < (l.length : Int)) := nlt_c
    refine go3 ?_
    trivial
theorem s_Rank {t : List (List Rat)} {s : AV} {l : List Int} {e : Int} (h : CP (CL F) 12 [eT t] = some (.tup [s, .lst (ui l), eI e])) : CP (CL F) 13 [eT t] = some (.tup [eI l.length, eI e]) := by
  refine CP_X (F := F) (f := 13) rfl rfl ?_
  refine go3 ?_
  trivial
theorem ent_size {t : List (List Rat)} {K : Nat} (h : ∀ r ∈ t, ∀ q ∈ r, Lq q ≤ K) (he : ∀ r ∈ t, r.length = wide t) : ∀ r, r < t.length → ∀ y, y < wide t → Lq (ent t r y) ≤ K := fun r hr y hy => h _ (getD_mem hr) _ (getD_mem (by rw [he _ (getD_mem hr)]; exact hy))
set_option maxHeartbeats 4000000
end Go.S

end
section
set_option linter.unusedVariables false
set_option linter.unusedSimpArgs false
set_option maxRecDepth 100000
namespace Go.S
open Go Go.AM Go.RowKit Go.K
theorem fz_tab {H : Heap} {b id v : Nat} {cs : List AV} {g : Heap} {t : List (List Rat)} {ks : List Nat} (R : RowsIn b g eQ cs t ks) (hH : ∀ k, H[b + k]? = g[k]?) (hb : H[id]? = some (some ⟨v, 1, cs⟩)) (m : Nat) : frz H (m + 5) (.ref id v 1 0 t.length) = some (eT t) := by
  have a1 := R.frz (fun x => E_eQ.pl x) hH (m + 1)
  have b1 : blk H id v = some ⟨v, 1, cs⟩ := by
    unfold blk
    rw [hb]
    exact if_pos rfl
  have c1 : sub cs 0 t.length = cs := by unfold sub; rw [List.drop_zero]; exact List.take_of_length_le (by rw [R.1]; omega)
  show (blk H id v).bind (fun b => ((sub b.xs 0 t.length).mapM (Go.AM.frz H (m + 4))).map AV.lst) = _
  rw [b1]
  show ((sub cs 0 t.length).mapM (Go.AM.frz H (m + 4))).map AV.lst = _
  rw [c1, a1]
  rfl
def ownC (b : Nat) (c j : Nat) : List AV := (List.range j).map fun k => AV.ref (b + (k + 1)) 0 3 0 c
def ownB (t : List (List Rat)) (j : Nat) : Heap := (List.range j).map fun k => some (⟨0, 3, em eQ (t.getD k default)⟩ : Blk)
theorem ownC_len (b c j : Nat) : (ownC b c j).length = j := by simp [ownC]
theorem ownB_len (t : List (List Rat)) (j : Nat) : (ownB t j).length = j := by simp [ownB]
theorem ownC_succ (b c j : Nat) : ownC b c (j + 1) = ownC b c j ++ [AV.ref (b + (j + 1)) 0 3 0 c] := by simp [ownC, List.range_succ]
theorem ownB_succ (t : List (List Rat)) (j : Nat) : ownB t (j + 1) = ownB t j ++ [some ⟨0, 3, em eQ (t.getD j default)⟩] := by simp [ownB, List.range_succ]
theorem s_own_raw {t : List (List Rat)} {c : Nat} (hl : t.length ≤ 1000000) (hc : 0 < c) (hc2 : c ≤ 1000000) (ht : ∀ r ∈ t, r.length = c) (h : Heap) :
    CL F 68 [eT t] h = some (.ref h.length 0 1 0 t.length, h ++ (some ⟨0, 1, ownC h.length c t.length⟩ :: ownB t t.length)) := by
  refine CL_X (F := F) (f := 68) rfl rfl ?_
  have h2 : t.length ≤ 11728124029610 := by omega
  refine go3 ?_
  refine X_up t.length (fun i s => ∃ j4 j5 j12, s = ⟨[(0, eT t), (2, .nil), (3, .ref h.length 0 1 0 t.length), (4, j4), (5, j5), (9, eT t), (10, eI t.length), (11, eI i), (12, j12)], h ++ (some ⟨0, 1, ownC h.length c i ++ List.replicate (t.length - i) .nil⟩ :: ownB t i)⟩) ?_ ?_ 0 (Nat.zero_le _) _ ⟨_, _, _, rfl⟩
  · rintro i s hi ⟨j4, j5, j12, rfl⟩ rec
    have hlt := lt_c hi
    have g1 := em_getN (f := eR) t i hi
    have hr := ht _ (getD_mem hi)
    have k1 := fun h => s_clone' (l := t.getD i default) (by omega) h (fun e => by rw [e] at hr; simp at hr; omega)
    simp only [ownC_succ, ownB_succ] at rec
    have hb := ownB_len t i
    obtain ⟨m, hm⟩ : ∃ m, t.length - i = m + 1 := ⟨t.length - i - 1, by omega⟩
    have a1 : (ownC h.length c i ++ List.replicate (t.length - i) AV.nil)[i]? = some .nil := by rw [hm, List.getElem?_append_right (by rw [ownC_len]; omega), ownC_len]; simp
    have a2 : (ownC h.length c i ++ List.replicate (t.length - i) AV.nil).set i (AV.ref (h.length + (i + 1)) 0 3 0 c) = ownC h.length c i ++ [AV.ref (h.length + (i + 1)) 0 3 0 c] ++ List.replicate (t.length - (i + 1)) .nil := by
      rw [hm, List.set_append_right _ _ (by rw [ownC_len]; omega), ownC_len, show t.length - (i + 1) = m by omega, Nat.sub_self]
      simp [List.replicate_succ]
    generalize t.getD i default = r at *
    have hw := i64_nat (n := i) (by omega)
    clear hm ht hc hc2
    refine go3 ?_
    exact rec _ ⟨eI i, eR r, .bool true, by simp⟩
  · rintro s ⟨j4, j5, j12, rfl⟩
    have hlt : ¬ ((t.length : Int) < (t.length : Int)) := nlt_c
    have he : List.replicate (t.length - t.length) AV.nil = [] := by simp
    clear ht
    refine go3 ?_
    trivial
theorem s_own_raw0 {t : List (List Rat)} (hl : t.length ≤ 1000000) (ht : ∀ r ∈ t, r = []) (h : Heap) :
    CL F 68 [eT t] h = some (.ref h.length 0 1 0 t.length, h ++ [some ⟨0, 1, List.replicate t.length .zero⟩]) := by
  refine CL_X (F := F) (f := 68) rfl rfl ?_
  have h2 : t.length ≤ 11728124029610 := by omega
  have k1 := fun h => s_clone_nil h
  have e0 : em eQ [] = [] := rfl
  refine go3 ?_
  refine X_up t.length (fun i s => ∃ j4 j5 j12, s = ⟨[(0, eT t), (2, .nil), (3, .ref h.length 0 1 0 t.length), (4, j4), (5, j5), (9, eT t), (10, eI t.length), (11, eI i), (12, j12)], h ++ [some ⟨0, 1, List.replicate i .zero ++ List.replicate (t.length - i) .nil⟩]⟩) ?_ ?_ 0 (Nat.zero_le _) _ ⟨_, _, _, rfl⟩
  · rintro i s hi ⟨j4, j5, j12, rfl⟩ rec
    have hlt := lt_c hi
    have g1 := em_getN (f := eR) t i hi
    rw [ht _ (getD_mem hi)] at g1
    obtain ⟨m, hm⟩ : ∃ m, t.length - i = m + 1 := ⟨t.length - i - 1, by omega⟩
    have a1 : (List.replicate i AV.zero ++ List.replicate (t.length - i) AV.nil)[i]? = some .nil := by rw [hm, List.getElem?_append_right (by simp)]; simp
    have a2 : (List.replicate i AV.zero ++ List.replicate (t.length - i) AV.nil).set i AV.zero = List.replicate (i + 1) AV.zero ++ List.replicate (t.length - (i + 1)) .nil := by
      rw [hm, List.set_append_right _ _ (by simp), show t.length - (i + 1) = m by omega, List.length_replicate, Nat.sub_self]
      rw [List.replicate_succ (n := m), List.set_cons_zero, List.replicate_succ' (n := i), List.append_assoc]
      rfl
    have hw := i64_nat (n := i) (by omega)
    clear hm ht
    refine go3 ?_
    exact rec _ ⟨_, _, _, rfl⟩
  · rintro s ⟨j4, j5, j12, rfl⟩
    have hlt : ¬ ((t.length : Int) < (t.length : Int)) := nlt_c
    have he : List.replicate (t.length - t.length) AV.nil = [] := by simp
    clear ht
    refine go3 ?_
    trivial
theorem own_rows {t : List (List Rat)} {c b : Nat} (ht : ∀ r ∈ t, r.length = c) : RowsIn (b + 1) (ownB t t.length) eQ (ownC b c t.length) t (List.range t.length) := by
  refine ⟨ownC_len _ _ _, by simp, fun i hi => ?_⟩
  have e1 : (ownC b c t.length).getD i default = AV.ref (b + (i + 1)) 0 3 0 c := by simp [ownC, List.getD, hi]
  have e3 : (List.range t.length).getD i default = i := by simp [List.getD, hi]
  rw [e1, e3]
  refine ⟨0, [], by rw [ht _ (getD_mem hi)]; congr 1; omega, by simp [ownB, hi]⟩
end Go.S

end
section
set_option linter.unusedVariables false
set_option linter.unusedSimpArgs false
set_option maxRecDepth 100000
namespace Go.S
open Go Go.AM Go.RowKit Go.K
def upd {α : Type} (n : Nat) (f g : Nat → α) (i : Nat) : List α := (List.range n).map fun k => if k < i then g k else f k
section
variable {α : Type} {n : Nat} {f g : Nat → α}
theorem upd_len (i : Nat) : (upd n f g i).length = n := by simp [upd]
theorem upd_zero : upd n f g 0 = (List.range n).map f := by simp [upd]
theorem upd_all : upd n f g n = (List.range n).map g := by
  unfold upd
  refine List.map_congr_left fun k hk => ?_
  rw [if_pos (by simpa using hk)]
theorem upd_get {i : Nat} (h : i < n) : (upd n f g i)[i]? = some (f i) := by simp [upd, h]
theorem upd_set {i : Nat} (h : i < n) : (upd n f g i).set i (g i) = upd n f g (i + 1) := by
  refine List.ext_getElem? fun k => ?_
  rw [List.getElem?_set]
  by_cases hk : i = k
  · subst hk
    rw [if_pos rfl, if_pos (by rw [upd_len]; exact h)]
    simp [upd, h]
  · rw [if_neg hk]
    unfold upd
    by_cases hn : k < n
    · simp only [List.getElem?_map, List.getElem?_range hn, Option.map_some]
      have : k < i ↔ k < i + 1 := by omega
      simp [this]
    · simp [List.getElem?_eq_none, hn]
end
def besideR (a b : List (List Rat)) : List (List Rat) := List.zipWith (· ++ ·) a b
theorem s_Beside_walk {a b : List (List Rat)} (ha : may a = true) (hb : may b = true) (h : b.length = a.length) {c d : Nat} (hc : 0 < c) (ea : ∀ r ∈ a, r.length = c) (eb : ∀ r ∈ b, r.length = d) (c1 : c ≤ 200) (d1 : d ≤ 200) (hm : may (besideR a b) = true) :
    CP (CL F) 103 [.lst (em eT [a, b])] = some (.tup [eT (besideR a b), eI 0]) := by
  have a1 : a.length ≤ 200 := by simp [may] at ha; exact ha.1.1
  have hlen : (besideR a b).length = a.length := by simp [besideR]; omega
  refine CP_X (F := F) (f := 103) rfl rfl ?_
  have hk := s_checks (l := [a, b]) (by simp) fun t ht => by simp at ht; rcases ht with rfl | rfl <;> omega
  rw [show [a, b].all may = true by simp [ha, hb]] at hk
  have hl : (em eT [a, b]).length = 2 := rfl
  have g0 : (em eT [a, b])[0]? = some (eT a) := rfl
  have hd : List.drop 1 (em eT [a, b]) = [eT b] := rfl
  have hok : okS 1 (em eT [a, b]) = true := rfl
  have hn : nth [b] (0 : Int) = b := rfl
  have hne2 : ((b.length : Int) = (a.length : Int)) := by omega
  let cf : Nat → AV := fun k => .ref (k + 1) 0 3 0 c
  let cg : Nat → AV := fun k => .ref (k + 1) 1 3 0 (c + d)
  let bf : Nat → Option Blk := fun k => some ⟨0, 3, em eQ (a.getD k default)⟩
  let bg : Nat → Option Blk := fun k => some ⟨1, 3, em eQ (a.getD k default ++ b.getD k default)⟩
  have ho : CL F 68 [eT a] [] = some (.ref 0 0 1 0 a.length, some ⟨0, 1, upd a.length cf cg 0⟩ :: upd a.length bf bg 0) := by
    rw [s_own_raw (by omega) hc (by omega) ea [], upd_zero, upd_zero]
    have e1 : ownC ([] : Heap).length c a.length = (List.range a.length).map cf := by simp [ownC, cf]
    rw [e1]
    rfl
  have hC := s_Check (t := besideR a b) (by omega)
  rw [hm, if_pos rfl] at hC
  have hfz : fz (some ⟨0, 1, upd a.length cf cg a.length⟩ :: upd a.length bf bg a.length) (.ref 0 0 1 0 a.length) = some (eT (besideR a b)) := by
    have R : RowsIn 1 (upd a.length bf bg a.length) eQ (upd a.length cf cg a.length) (besideR a b) (List.range a.length) := by
      refine ⟨by rw [upd_len, hlen], by simp [hlen], fun i hi => ?_⟩
      have hi' : i < a.length := by omega
      rw [upd_all, upd_all]
      have e1 : ((List.range a.length).map cg).getD i default = cg i := by simp [List.getD, hi']
      have e2 : (besideR a b).getD i default = a.getD i default ++ b.getD i default := by
        simp only [besideR, List.getD_eq_getElem?_getD]
        rw [List.getElem?_eq_getElem (by simp; omega), List.getElem_zipWith, List.getElem?_eq_getElem hi', List.getElem?_eq_getElem (by omega)]
        rfl
      have e3 : (List.range a.length).getD i default = i := by simp [List.getD, hi']
      rw [e1, e2, e3]
      refine ⟨1, [], ?_, by simp [bg, hi']⟩
      rw [List.length_append, ea _ (getD_mem hi'), eb _ (getD_mem (by omega))]
      show AV.ref (i + 1) 1 3 0 (c + d) = _
      rw [Nat.add_comm i 1]
    have := fz_tab (H := some ⟨0, 1, upd a.length cf cg a.length⟩ :: upd a.length bf bg a.length) (id := 0) (v := 0) R (fun k => by rw [Nat.add_comm]; rfl) rfl 2
    rwa [hlen] at this
  clear hm ha hb
  refine go3 ?_
  refine X_round ?_
  refine go3 ?_
  have step : ∀ i, i < a.length → ∃ ra rb, ra.length = c ∧ rb.length = d ∧ (em eR b)[i]? = some (eR rb) ∧ (upd a.length cf cg i)[i]? = some (.ref (i + 1) 0 3 0 c) ∧ (upd a.length cf cg i).set i (.ref (i + 1) 1 3 0 (c + d)) = upd a.length cf cg (i + 1) ∧
      (upd a.length bf bg i)[i]? = some (some ⟨0, 3, em eQ ra⟩) ∧ (upd a.length bf bg i).set i (some ⟨1, 3, em eQ (ra ++ rb)⟩) = upd a.length bf bg (i + 1) := fun i hi =>
    ⟨a.getD i default, b.getD i default, ea _ (getD_mem hi), eb _ (getD_mem (by omega)), em_getN (f := eR) b i (by omega), upd_get hi, upd_set hi, upd_get hi, upd_set hi⟩
  generalize upd a.length cf cg = C at *
  generalize upd a.length bf bg = D at *
  clear ho
  refine X_up a.length (fun i s => ∃ j7 j8 j35, s = ⟨[(0, .lst (em eT [a, b])), (2, .nil), (3, eI 0), (4, .ref 0 0 1 0 a.length), (6, .lst (em eR b)), (7, j7), (8, j8), (9, .undef), (12, .bool false), (15, .bool false), (21, .lst (em eT [b])), (22, eI 1), (23, eI 0), (24, .bool true), (31, .bool false), (32, .lst (em eR b)), (33, eI a.length), (34, eI i), (35, j35), (53, .undef)], some ⟨0, 1, C i⟩ :: D i⟩) ?_ ?_ 0 (Nat.zero_le _) _ ⟨_, _, _, rfl⟩
  · rintro i s hi ⟨j7, j8, j35, rfl⟩ rec
    have hlt := lt_c hi
    obtain ⟨ra, rb, l1, l2, g1, u1, u2, u3, u4⟩ := step i hi
    have ht : List.take c ra = ra := take_len_g _ l1.symm
    have hlim : c + d ≤ 2513169434916 := by omega
    have hw := i64_nat (n := i) (by omega)
    clear step hfz ea eb h c1 d1 hlen hc
    refine go3 ?_
    exact rec _ ⟨_, _, _, rfl⟩
  · rintro s ⟨j7, j8, j35, rfl⟩
    have hlt : ¬ ((a.length : Int) < (a.length : Int)) := nlt_c
    have hw : wrap64 (0 + 1) = 1 := by rw [show (0 : Int) + 1 = 1 from rfl, w64 (by omega) (by omega)]
    clear step ea eb h c1 d1 hc
    refine go3 ?_
    refine X_round ?_
    refine go3 ?_
    trivial
theorem besideR_nil {a b : List (List Rat)} (ha : ∀ r ∈ a, r = []) (h : b.length = a.length) : besideR a b = b := by
  refine List.ext_getElem (by simp [besideR]; omega) fun i h1 h2 => ?_
  simp only [besideR, List.getElem_zipWith]
  rw [ha _ (List.getElem_mem (by omega)), List.nil_append]
theorem s_Beside_walk0 {a b : List (List Rat)} (ha : may a = true) (hb : may b = true) (h : b.length = a.length) {d : Nat} (hd : 0 < d) (ea : ∀ r ∈ a, r = []) (eb : ∀ r ∈ b, r.length = d) (d1 : d ≤ 200) :
    CP (CL F) 103 [.lst (em eT [a, b])] = some (.tup [eT b, eI 0]) := by
  have a1 : a.length ≤ 200 := by simp [may] at ha; exact ha.1.1
  refine CP_X (F := F) (f := 103) rfl rfl ?_
  have hk := s_checks (l := [a, b]) (by simp) fun t ht => by simp at ht; rcases ht with rfl | rfl <;> omega
  rw [show [a, b].all may = true by simp [ha, hb]] at hk
  have hl : (em eT [a, b]).length = 2 := rfl
  have g0 : (em eT [a, b])[0]? = some (eT a) := rfl
  have hdr : List.drop 1 (em eT [a, b]) = [eT b] := rfl
  have hok : okS 1 (em eT [a, b]) = true := rfl
  have hn : nth [b] (0 : Int) = b := rfl
  have hne2 : ((b.length : Int) = (a.length : Int)) := by omega
  let cf : Nat → AV := fun k => .zero
  let cg : Nat → AV := fun k => .ref (k + 1) 0 3 0 d
  have ho : CL F 68 [eT a] [] = some (.ref 0 0 1 0 a.length, some ⟨0, 1, upd a.length cf cg 0⟩ :: ownB b 0) := by
    rw [s_own_raw0 (by omega) ea [], upd_zero]
    have e1 : (List.range a.length).map cf = List.replicate a.length .zero := by
      refine List.eq_replicate_iff.2 ⟨by simp, fun x hx => ?_⟩
      obtain ⟨k, _, rfl⟩ := List.mem_map.1 hx
      rfl
    rw [e1]
    rfl
  have hC := s_Check (t := b) (by omega)
  rw [hb, if_pos rfl] at hC
  have hfz : fz (some ⟨0, 1, upd a.length cf cg a.length⟩ :: ownB b a.length) (.ref 0 0 1 0 a.length) = some (eT b) := by
    have R := own_rows (b := 0) eb
    have e1 : upd a.length cf cg a.length = ownC 0 d b.length := by rw [upd_all, h]; simp [ownC, cg]
    rw [e1, ← h]
    exact fz_tab (H := some ⟨0, 1, ownC 0 d b.length⟩ :: ownB b b.length) (id := 0) (v := 0) R (fun k => by rw [Nat.add_comm]; rfl) rfl 2
  clear ha hb ea
  refine go3 ?_
  refine X_round ?_
  refine go3 ?_
  have step : ∀ i, i < a.length → ∃ rb, rb.length = d ∧ (em eR b)[i]? = some (eR rb) ∧ (upd a.length cf cg i)[i]? = some .zero ∧ (upd a.length cf cg i).set i (.ref (i + 1) 0 3 0 d) = upd a.length cf cg (i + 1) ∧
      ownB b (i + 1) = ownB b i ++ [some ⟨0, 3, em eQ rb⟩] := fun i hi =>
    ⟨b.getD i default, eb _ (getD_mem (by omega)), em_getN (f := eR) b i (by omega), upd_get hi, upd_set hi, ownB_succ b i⟩
  have bl := ownB_len b
  generalize upd a.length cf cg = C at *
  generalize ownB b = D at *
  clear ho
  refine X_up a.length (fun i s => ∃ j7 j8 j35, s = ⟨[(0, .lst (em eT [a, b])), (2, .nil), (3, eI 0), (4, .ref 0 0 1 0 a.length), (6, .lst (em eR b)), (7, j7), (8, j8), (9, .undef), (12, .bool false), (15, .bool false), (21, .lst (em eT [b])), (22, eI 1), (23, eI 0), (24, .bool true), (31, .bool false), (32, .lst (em eR b)), (33, eI a.length), (34, eI i), (35, j35), (53, .undef)], some ⟨0, 1, C i⟩ :: D i⟩) ?_ ?_ 0 (Nat.zero_le _) _ ⟨_, _, _, rfl⟩
  · rintro i s hi ⟨j7, j8, j35, rfl⟩ rec
    have hlt := lt_c hi
    obtain ⟨rb, l2, g1, u1, u2, u3⟩ := step i hi
    rw [u3] at rec
    have bli := bl i
    have hlim : d ≤ 2513169434916 := by omega
    obtain ⟨x, l, hrb⟩ : ∃ x l, em eQ rb = x :: l := by
      cases rb with
      | nil => simp at l2; omega
      | cons x l => exact ⟨_, _, rfl⟩
    have hne : (em eQ rb).isEmpty = false := by rw [hrb]; rfl
    have hw := i64_nat (n := i) (by omega)
    clear step hfz eb h d1 hd bl hrb u3
    refine go3 ?_
    exact rec _ ⟨_, _, _, rfl⟩
  · rintro s ⟨j7, j8, j35, rfl⟩
    have hlt : ¬ ((a.length : Int) < (a.length : Int)) := nlt_c
    have hw : wrap64 (0 + 1) = 1 := by rw [show (0 : Int) + 1 = 1 from rfl, w64 (by omega) (by omega)]
    clear step eb h d1 hd bl
    refine go3 ?_
    refine X_round ?_
    refine go3 ?_
    trivial
theorem s_Beside_walk00 {a b : List (List Rat)} (ha : may a = true) (hb : may b = true) (h : b.length = a.length) (ea : ∀ r ∈ a, r = []) (eb : ∀ r ∈ b, r = []) :
    CP (CL F) 103 [.lst (em eT [a, b])] = some (.tup [eT b, eI 0]) := by
  have a1 : a.length ≤ 200 := by simp [may] at ha; exact ha.1.1
  refine CP_X (F := F) (f := 103) rfl rfl ?_
  have hk := s_checks (l := [a, b]) (by simp) fun t ht => by simp at ht; rcases ht with rfl | rfl <;> omega
  rw [show [a, b].all may = true by simp [ha, hb]] at hk
  have hl : (em eT [a, b]).length = 2 := rfl
  have g0 : (em eT [a, b])[0]? = some (eT a) := rfl
  have hdr : List.drop 1 (em eT [a, b]) = [eT b] := rfl
  have hok : okS 1 (em eT [a, b]) = true := rfl
  have hn : nth [b] (0 : Int) = b := rfl
  have hne2 : ((b.length : Int) = (a.length : Int)) := by omega
  have ho := s_own_raw0 (by omega) ea []
  have hC := s_Check (t := b) (by omega)
  rw [hb, if_pos rfl] at hC
  have hfz : fz [some ⟨0, 1, List.replicate a.length AV.zero⟩] (.ref 0 0 1 0 a.length) = some (eT b) := by
    have e : em eR b = List.replicate a.length (AV.lst []) := by
      refine List.eq_replicate_iff.2 ⟨by rw [em_len, h], fun x hx => ?_⟩
      obtain ⟨r, hr, rfl⟩ := List.mem_map.1 hx
      rw [eb r hr]; rfl
    show (((sub (List.replicate a.length AV.zero) 0 a.length).mapM (Go.AM.frz _ 6)).map AV.lst) = _
    have c1 : sub (List.replicate a.length AV.zero) 0 a.length = List.replicate a.length AV.zero := by unfold sub; rw [List.drop_zero]; exact List.take_of_length_le (by simp)
    rw [c1, mapM_some (G := fun _ => AV.lst []) _ fun x hx => by rw [List.eq_of_mem_replicate hx]; rfl]
    show some (AV.lst _) = some (AV.lst (em eR b))
    rw [e]
    simp
  clear ha hb ea
  refine go3 ?_
  refine X_round ?_
  refine go3 ?_
  have step : ∀ i, i < a.length → (em eR b)[i]? = some (.lst []) ∧ (List.replicate a.length AV.zero)[i]? = some .zero ∧ (List.replicate a.length AV.zero).set i .zero = List.replicate a.length .zero := fun i hi =>
    ⟨by rw [em_getN (f := eR) b i (by omega), eb _ (getD_mem (by omega))]; rfl, by simp [hi], by
      refine List.ext_getElem (by simp) fun k h1 h2 => ?_
      rw [List.getElem_set]
      split <;> simp⟩
  clear ho
  refine X_up a.length (fun i s => ∃ j7 j8 j35, s = ⟨[(0, .lst (em eT [a, b])), (2, .nil), (3, eI 0), (4, .ref 0 0 1 0 a.length), (6, .lst (em eR b)), (7, j7), (8, j8), (9, .undef), (12, .bool false), (15, .bool false), (21, .lst (em eT [b])), (22, eI 1), (23, eI 0), (24, .bool true), (31, .bool false), (32, .lst (em eR b)), (33, eI a.length), (34, eI i), (35, j35), (53, .undef)], [some ⟨0, 1, List.replicate a.length .zero⟩]⟩) ?_ ?_ 0 (Nat.zero_le _) _ ⟨_, _, _, rfl⟩
  · rintro i s hi ⟨j7, j8, j35, rfl⟩ rec
    have hlt := lt_c hi
    obtain ⟨g1, u1, u2⟩ := step i hi
    have hw := i64_nat (n := i) (by omega)
    clear step hfz eb h
    refine go3 ?_
    exact rec _ ⟨_, _, _, rfl⟩
  · rintro s ⟨j7, j8, j35, rfl⟩
    have hlt : ¬ ((a.length : Int) < (a.length : Int)) := nlt_c
    have hw : wrap64 (0 + 1) = 1 := by rw [show (0 : Int) + 1 = 1 from rfl, w64 (by omega) (by omega)]
    clear step eb h
    refine go3 ?_
    refine X_round ?_
    refine go3 ?_
    trivial
theorem may_spec {t : List (List Rat)} : may t = true ↔ t.length ≤ 200 ∧ wide t ≤ 200 ∧ ∀ r ∈ t, r.length = wide t := by
  unfold may
  simp only [Bool.and_eq_true, decide_eq_true_eq, even_iff, and_assoc]
theorem s_Beside {a b : List (List Rat)} (ha : may a = true) (hb : may b = true) (h : b.length = a.length) (hw : wide a + wide b ≤ 200) :
    CP (CL F) 103 [.lst (em eT [a, b])] = some (.tup [eT (besideR a b), eI 0]) := by
  obtain ⟨a1, a2, a3⟩ := may_spec.1 ha
  obtain ⟨b1, b2, b3⟩ := may_spec.1 hb
  rcases Nat.eq_zero_or_pos (wide a) with e | e
  · have a4 : ∀ r ∈ a, r = [] := fun r hr => List.eq_nil_of_length_eq_zero (by rw [a3 r hr, e])
    rw [besideR_nil a4 h]
    rcases Nat.eq_zero_or_pos (wide b) with e2 | e2
    · exact s_Beside_walk00 ha hb h a4 fun r hr => List.eq_nil_of_length_eq_zero (by rw [b3 r hr, e2])
    · exact s_Beside_walk0 ha hb h e2 a4 b3 b2
  · refine s_Beside_walk ha hb h e a3 b3 a2 b2 ?_
    have hr : ∀ r ∈ besideR a b, r.length = wide a + wide b := fun r hr => by
      obtain ⟨i, hi, rfl⟩ := List.getElem_of_mem hr
      simp only [besideR, List.getElem_zipWith, List.length_append]
      rw [a3 _ (List.getElem_mem _), b3 _ (List.getElem_mem _)]
    have hl : (besideR a b).length = a.length := by simp [besideR]; omega
    refine may_spec.2 ⟨by omega, ?_⟩
    rcases Nat.eq_zero_or_pos a.length with z | z
    · have : besideR a b = [] := List.eq_nil_of_length_eq_zero (by omega)
      rw [this]
      exact ⟨by simp [wide], fun r h => by cases h⟩
    · have hw2 : wide (besideR a b) = wide a + wide b := by
        unfold wide
        rw [show (besideR a b).getD 0 [] = (besideR a b)[0]'(by omega) from by simp [List.getD, List.getElem?_eq_getElem (show 0 < (besideR a b).length by omega)]]
        exact hr _ (List.getElem_mem _)
      rw [hw2]
      exact ⟨hw, hr⟩
end Go.S

end
section
set_option linter.unusedVariables false
set_option linter.unusedSimpArgs false
set_option maxRecDepth 100000
namespace Go.S
open Go Go.AM Go.RowKit Go.K
theorem RowsIn.same {b : Nat} {g g' : Heap} {f : Rat → AV} {cs : List AV} {t : List (List Rat)} {ks : List Nat} (h : RowsIn b g f cs t ks) (h2 : ∀ k ∈ ks, g'[k]? = g[k]?) : RowsIn b g' f cs t ks := by
  refine ⟨h.1, h.2.1, fun i hi => ?_⟩
  obtain ⟨v, ys, h3, h4⟩ := h.2.2 i hi
  refine ⟨v, ys, h3, ?_⟩
  rw [h2 _ (getD_mem (by rw [h.2.1]; exact hi))]
  exact h4
theorem RowsIn.upd {b : Nat} {g g' : Heap} {f : Rat → AV} {cs : List AV} {t : List (List Rat)} {ks : List Nat} (h : RowsIn b g f cs t ks) (hN : ks.Nodup) {i : Nat} (hi : i < t.length) {c : AV} {r : List Rat} (h1 : RowAt b g' f c r (ks.getD i default)) (h2 : ∀ k ∈ ks, k ≠ ks.getD i default → g'[k]? = g[k]?) : RowsIn b g' f (cs.set i c) (t.set i r) ks := by
  have l1 := h.1
  have l2 := h.2.1
  refine ⟨by rw [List.length_set, List.length_set]; exact l1, by rw [List.length_set]; exact l2, fun j hj => ?_⟩
  rw [List.length_set] at hj
  by_cases e : i = j
  · subst e
    rw [getD_set_self (by omega), getD_set_self hi]
    exact h1
  · rw [getD_set_other e, getD_set_other e]
    obtain ⟨v, ys, h3, h4⟩ := h.2.2 j hj
    refine ⟨v, ys, h3, ?_⟩
    rw [h2 _ (getD_mem (by omega)) (nodup_getD hN (by omega) (by omega) (Ne.symm e))]
    exact h4
set_option maxHeartbeats 4000000
end Go.S

end
section
set_option linter.unusedVariables false
set_option linter.unusedSimpArgs false
set_option maxRecDepth 100000
namespace Go.S
open Go Go.AM Go.RowKit Go.K
def Sz (M : Nat) (t : List (List Rat)) : Prop := ∀ r ∈ t, ∀ q ∈ r, Lq q ≤ M
end Go.S

end
section
set_option linter.unusedVariables false
set_option linter.unusedSimpArgs false
namespace Go.S
theorem piv_ge {n j : Nat} {S : Mt} {piv : List Nat} (H : RR n j S piv) : ∀ i, i < piv.length → i ≤ piv.getD i default := by
  intro i
  induction i with
  | zero => intro _; exact Nat.zero_le _
  | succ i ih =>
    intro h
    have := ih (by omega)
    have := H.mono i (i + 1) (by omega) h
    omega
theorem piv_le {n : Nat} {S : Mt} {piv : List Nat} (H : RR n n S piv) (hl : piv.length = n) : ∀ d i, i + d + 1 = n → piv.getD i default ≤ i := by
  intro d
  induction d with
  | zero =>
    intro i h
    have := H.lt i (by omega)
    omega
  | succ d ih =>
    intro i h
    have h1 := ih (i + 1) (by omega)
    have h2 := H.mono i (i + 1) (by omega) (by omega)
    omega
theorem full_id {n : Nat} {S : Mt} {piv : List Nat} (H : RR n n S piv) (hl : piv.length = n) : ∀ i c, i < n → c < n → S i c = if i = c then 1 else 0 := by
  have hp : ∀ i, i < n → piv.getD i default = i := fun i hi => by
    have h1 := piv_ge H i (by omega)
    have h2 := piv_le H hl (n - 1 - i) i (by omega)
    omega
  intro i c hi hc
  have e := hp c hc
  by_cases h : i = c
  · subst h
    have := H.one i (by omega)
    rw [e] at this
    rw [if_pos rfl, this]
  · have := H.col c (by omega) i hi h
    rw [e] at this
    rw [if_neg h, this]
def gdet (n : Nat) (A : Mt) : Rat := if (grun n A n).2.1.length < n then 0 else (grun n A n).2.2
theorem det_mm {n : Nat} {A B : Mt} : det n (mm n A B) = gdet n A * det n B := by
  have H := grun_RR n A n
  have R := grun_Rop n A n
  unfold gdet
  generalize (grun n A n).2.2 = d at *
  generalize (grun n A n).1 = S at *
  generalize (grun n A n).2.1 = piv at *
  have L : LinR (fun (f : Nat → Rat) (j : Nat) => sm n fun k => f k * B k j) := ⟨fun f g k c => by
    show sm n (fun x => (f x + k * g x) * B x c) = sm n (fun x => f x * B x c) + k * sm n (fun x => g x * B x c)
    rw [← sm_mul, ← sm_add]
    exact sm_congr fun x _ => by grind⟩
  have h1 : det n (mm n A B) = d * det n (mm n S B) := R.det L
  rw [h1]
  by_cases hl : piv.length < n
  · rw [if_pos hl]
    have : det n (mm n S B) = 0 := det_row0 (r := piv.length) hl fun c hc => sm_zero' fun k hk => by
      rw [H.rest piv.length (Nat.le_refl _) hl k hk]; grind
    rw [this]; grind
  · rw [if_neg hl]
    have hl2 : piv.length = n := by have := H.le; omega
    have hS := full_id H hl2
    have : det n (mm n S B) = det n B := det_congr fun i c hi hc => by
      unfold mm
      rw [sm_one hi fun k hk hne => by rw [hS i k hi hk, if_neg (Ne.symm hne)]; grind, hS i i hi hi, if_pos rfl]; grind
    rw [this]
theorem det_gdet (n : Nat) (A : Mt) : det n A = gdet n A := by
  have h := det_mm (n := n) (A := A) (B := idm)
  have h1 : det n (mm n A idm) = det n A := det_congr fun i c hi hc => mm_one_r i hc
  have h2 : det n idm = 1 := det_id n fun i c hi hc => rfl
  rw [h1, h2] at h
  rw [h]; grind
end Go.S

end
section
set_option linter.unusedVariables false
set_option linter.unusedSimpArgs false
set_option maxRecDepth 100000
namespace Go.S
open Go Go.AM Go.RowKit Go.K
def PVI (g0 g : Heap) (piv : List Nat) (pr : AV) : Prop := (piv = [] ∧ pr = .nil) ∨ ∃ vp g1 g2, g = g1 ++ some ⟨vp, 1, ui (ivl piv)⟩ :: g2 ∧ pr = .ref (g0.length + (g1.length + 1) + 1) vp 1 0 piv.length
theorem PVI.len {g0 g : Heap} {piv : List Nat} {pr : AV} (h : PVI g0 g piv pr) : lenA false pr = some (eI piv.length) := by
  rcases h with ⟨rfl, rfl⟩ | ⟨vp, g1, g2, _, rfl⟩ <;> rfl
end Go.S

end
section
set_option linter.unusedVariables false
set_option linter.unusedSimpArgs false
set_option maxRecDepth 100000
namespace Go.S
open Go Go.AM Go.RowKit Go.K
theorem Sz.same {M : Nat} {t : List (List Rat)} (h : Sz M t) {c : Nat} (hr : ∀ r ∈ t, r.length = c) (hc : c ≤ 1000000) (hl : t.length ≤ 1000000) (hM : M < 100000000) : CP (CL F) 21 [eT t, eT t] = some (.bool true) := by
  have := s_mSame (a := t) (b := t) hl fun r h' => ⟨by rw [hr r h']; exact hc, fun q hq => Nat.lt_of_le_of_lt (h r h' q hq) hM⟩
  rwa [decide_eq_true rfl] at this
theorem Sz.idm (n : Nat) : Sz 1 (tab n n idm) := fun r hr q hq => by
  obtain ⟨i, hi, j, hj, rfl⟩ := mem_tab2 hr hq
  unfold Go.S.idm
  split
  · exact Lq_one
  · exact Lq_zero
set_option maxHeartbeats 4000000
end Go.S

end
section
set_option linter.unusedVariables false
set_option linter.unusedSimpArgs false
set_option maxRecDepth 100000
namespace Go.S
open Go Go.AM Go.RowKit Go.K
theorem Sz.ent {n c M : Nat} {A : Mt} (h : Sz M (tab n c A)) : ∀ r, r < n → ∀ y, y < c → Lq (A r y) ≤ M := fun r hr y hy => h _ (mem_tab.2 ⟨r, hr, rfl⟩) _ (mem_rowf.2 ⟨y, hy, rfl⟩)
set_option maxHeartbeats 4000000
end Go.S

end
section
set_option linter.unusedVariables false
set_option linter.unusedSimpArgs false
set_option maxRecDepth 100000
namespace Go.S
open Go Go.AM Go.RowKit Go.K
theorem ui_getN (l : List Int) (i : Nat) (h : i < l.length) : (ui l)[i]? = some (.int .i64 (l.getD i default)) := by
  simp [ui, List.getD, List.getElem?_eq_getElem h]
theorem s_Index (l : List Int) (x : Int) (hl : l.length ≤ 1000000) : ∃ z : Int, CP (CL F) 118 [.lst (ui l), .int .i64 x] = some (.int .i64 z) ∧ decide (0 ≤ z) = decide (x ∈ l) := by
  suffices H : CP (CL F) 118 [.lst (ui l), .int .i64 x] = some (.int .i64 (if l.findIdx (fun y => decide (x = y)) < l.length then (l.findIdx (fun y => decide (x = y)) : Int) else -1)) by
    refine ⟨_, H, ?_⟩
    have e : x ∈ l ↔ l.findIdx (fun y => decide (x = y)) < l.length := by
      rw [List.findIdx_lt_length]
      exact ⟨fun h => ⟨x, h, by simp⟩, fun ⟨y, hy, h⟩ => by simp at h; rw [h]; exact hy⟩
    by_cases h : l.findIdx (fun y => decide (x = y)) < l.length
    · rw [if_pos h, decide_eq_true (e.2 h)]; exact decide_eq_true (by omega)
    · rw [if_neg h, decide_eq_false (fun n => h (e.1 n))]; rfl
  refine CP_X (F := F) (f := 118) rfl rfl ?_
  refine go3 ?_
  refine X_upto l.length (fun i s => ∃ j5 j9 j16, (∀ j, j < i → x ≠ l.getD j default) ∧ s = ⟨[(0, .lst (ui l)), (1, .int .i64 x), (4, eI 0), (5, j5), (7, eI l.length), (8, eI i), (9, j9), (16, j16)], []⟩) ?_ 0 (Nat.zero_le _) _ ⟨_, _, _, fun j hj => by omega, rfl⟩
  rintro i s hi ⟨j5, j9, j16, hall, rfl⟩ rec
  by_cases hlt : i < l.length
  · have hlt2 := lt_c hlt
    have g := ui_getN l i hlt
    by_cases hx : x = l.getD i default
    · rw [findIdx_spec (p := fun y => decide (x = y)) hlt (decide_eq_true hx) fun j hj => decide_eq_false (hall j hj), if_pos hlt]
      generalize l.getD i default = y at *
      clear hall rec hi
      refine go3 ?_
      trivial
    · have hnext : ∀ j, j < i + 1 → x ≠ l.getD j default := fun j hj => by
        rcases Nat.lt_or_ge j i with h | h
        · exact hall j h
        · have : j = i := by omega
          subst this; exact hx
      have hi6 : i < 9223372036854775807 := by omega
      have hw := i64_nat hi6
      clear hall
      generalize hy : l.getD i default = y at *
      refine go3 ?_
      exact rec _ hlt ⟨_, _, _, hnext, rfl⟩
  · have hl3 : ¬ ((i : Int) < (l.length : Int)) := by omega
    have he := findIdx_none (l := l) (p := fun y => decide (x = y)) fun j hj => decide_eq_false (hall j (by omega))
    rw [if_neg he]
    clear hall rec he
    refine go3 ?_
    trivial
theorem s_Contains (l : List Int) (x : Int) (hl : l.length ≤ 1000000) : CP (CL F) 73 [.lst (ui l), .int .i64 x] = some (.bool (decide (x ∈ l))) := by
  refine CP_X (F := F) (f := 73) rfl rfl ?_
  obtain ⟨z, h, e⟩ := s_Index l x hl
  rw [← e]
  clear e
  refine go3 ?_
  trivial
end Go.S

end
section
set_option linter.unusedVariables false
set_option linter.unusedSimpArgs false
namespace Go.S
theorem det_last {n : Nat} : ∀ {A : Mt}, (∀ c, c < n → A n c = 0) → det (n + 1) A = A n n * det n A := by
  induction n with
  | zero =>
    intro A _
    show 0 + psg 0 * A 0 0 * 1 = A 0 0 * 1
    rw [show psg 0 = 1 from rfl]; grind
  | succ n ih =>
    intro A h
    rw [det_succ (n + 1) A, det_succ n A, ← sm_mul]
    show sm (n + 1) _ + psg (n + 1) * A 0 (n + 1) * det (n + 1) (cut A (n + 1)) = _
    have z : det (n + 1) (cut A (n + 1)) = 0 := det_row0 (r := n) (by omega) fun c hc => by
      show A (n + 1) (sk (n + 1) c) = 0
      rw [show sk (n + 1) c = c from by unfold sk; rw [if_pos (by omega)]]
      exact h c (by omega)
    have e : sm (n + 1) (fun j => psg j * A 0 j * det (n + 1) (cut A j)) = sm (n + 1) fun j => A (n + 1) (n + 1) * (psg j * A 0 j * det n (cut A j)) := sm_congr fun j hj => by
      have hi := ih (A := cut A j) fun c hc => by
        show A (n + 1) (sk j c) = 0
        exact h _ (by unfold sk; split <;> omega)
      have : cut A j n n = A (n + 1) (n + 1) := by
        show A (n + 1) (sk j n) = _
        rw [show sk j n = n + 1 from by unfold sk; rw [if_neg (by omega)]]
      rw [hi, this]; grind
    rw [e, z]; grind
theorem det_lastc {n : Nat} : ∀ {A : Mt}, (∀ r, r < n → A r n = 0) → det (n + 1) A = A n n * det n A := by
  induction n with
  | zero =>
    intro A _
    show 0 + psg 0 * A 0 0 * 1 = A 0 0 * 1
    rw [show psg 0 = 1 from rfl]; grind
  | succ n ih =>
    intro A h
    rw [det_succ (n + 1) A, det_succ n A, ← sm_mul]
    show sm (n + 1) _ + psg (n + 1) * A 0 (n + 1) * det (n + 1) (cut A (n + 1)) = _
    have e : sm (n + 1) (fun j => psg j * A 0 j * det (n + 1) (cut A j)) = sm (n + 1) fun j => A (n + 1) (n + 1) * (psg j * A 0 j * det n (cut A j)) := sm_congr fun j hj => by
      have sn : sk j n = n + 1 := by unfold sk; rw [if_neg (by omega)]
      have hi := ih (A := cut A j) fun r hr => by
        show A (r + 1) (sk j n) = 0
        rw [sn]; exact h _ (by omega)
      have : cut A j n n = A (n + 1) (n + 1) := by
        show A (n + 1) (sk j n) = _
        rw [sn]
      rw [hi, this]; grind
    rw [e, h 0 (by omega)]; grind
theorem det_zeros {n : Nat} : ∀ {A : Mt} {k : Nat}, k < n → (∀ i c, k ≤ i → i < n → c ≤ k → A i c = 0) → det n A = 0 := by
  induction n with
  | zero => intro A k h; omega
  | succ n ih =>
    intro A k hk h
    rw [det_succ]
    refine sm_zero' fun j hj => ?_
    cases k with
    | zero =>
      cases j with
      | zero => rw [h 0 0 (by omega) (by omega) (by omega)]; grind
      | succ j =>
        rw [ih (A := cut A (j + 1)) (k := 0) (by omega) fun i c _ hi hc => ?_]
        · grind
        · obtain rfl : c = 0 := by omega
          show A (i + 1) (sk (j + 1) 0) = 0
          exact h (i + 1) 0 (by omega) (by omega) (by omega)
    | succ k =>
      rw [ih (A := cut A j) (k := k) (by omega) fun i c hi hi2 hc => ?_]
      · grind
      · show A (i + 1) (sk j c) = 0
        exact h (i + 1) _ (by omega) (by omega) (by unfold sk; split <;> omega)
def rpl (i j : Nat) : Nat → Nat := fun c => if c = i then j else c
theorem det_idcol {k i j : Nat} {H : Mt} (hi : i < k) (h : ∀ r c, r < k → c < k → H r c = if r = c then 1 else 0) : det k (fun r c => H r (rpl i j c)) = H i j := by
  have e1 := det_scale (n := k) (A := setr (fun r c => H r (rpl i j c)) i fun c => if c = i then 1 else 0) (r := i) (H i j) hi
  have e2 : det k (setr (setr (fun r c => H r (rpl i j c)) i fun c => if c = i then 1 else 0) i fun c => H i j * setr (fun r c => H r (rpl i j c)) i (fun c => if c = i then 1 else 0) i c) = det k (fun r c => H r (rpl i j c)) := by
    refine det_congr fun r c hr hc => ?_
    by_cases hri : r = i
    · subst hri
      simp only [setr, if_true, rpl]
      by_cases hc2 : c = r
      · simp only [hc2, if_true]; grind
      · simp only [hc2, if_false]; rw [h r c hr hc, if_neg (Ne.symm hc2)]; grind
    · simp only [setr, hri, if_false]
  rw [e2] at e1
  rw [e1]
  generalize hB : setr (fun r c => H r (rpl i j c)) i (fun c => if c = i then 1 else 0) = B
  have e3 := (Rop.refl (n := k) B).elim (j := i) hi k (Nat.le_refl k)
  rw [e3.det1, det_id k fun r c hr hc => ?_]
  · grind
  · subst hB
    by_cases hri : r = i
    · subst hri
      simp only [elimTo, setr, if_true, hr, ne_eq, not_true_eq_false, and_false, if_false]
      by_cases hc2 : c = r
      · rw [if_pos hc2, if_pos hc2.symm]
      · rw [if_neg hc2, if_neg (Ne.symm hc2)]
    · simp only [elimTo, setr, hr, hri, ne_eq, not_false_eq_true, and_self, if_true, if_false, rpl]
      by_cases hc2 : c = i
      · subst hc2
        simp only [if_true, if_neg hri]
        grind
      · simp only [hc2, if_false]
        rw [h r c hr hc]
        grind
structure BI (n k : Nat) (A M : Mt) (pv : Rat) : Prop where
  nz : pv ≠ 0
  d : det k A = pv
  id : ∀ i c, i < n → c < k → M i c = if i = c then pv else 0
  c : ∀ l j, l < n → A l j = sm k (fun i => A l i * (M i j / pv)) + (if k ≤ l then M l j / pv else 0)
theorem BI.hid {n k : Nat} {A M : Mt} {pv : Rat} (H : BI n k A M pv) {i c : Nat} (hi : i < n) (hc : c < k) : M i c / pv = if i = c then 1 else 0 := by
  have h1 := H.nz
  rw [H.id i c hi hc]
  split <;> grind
theorem BI.low {n k : Nat} {A M : Mt} {pv : Rat} (H : BI n k A M pv) (hk : k ≤ n) {i : Nat} (hi : i < n) (hik : k ≤ i) (j : Nat) :
    det (k + 1) (fun r c => A (if r < k then r else i) (if c < k then c else j)) = M i j := by
  have e : det (k + 1) (fun r c => A (if r < k then r else i) (if c < k then c else j)) = det (k + 1) (mm (k + 1) (fun r m => if m < k then A (if r < k then r else i) m else if r = k then 1 else 0) fun m c => M (if m < k then m else i) (if c < k then c else j) / pv) := by
    refine det_congr fun r c hr hc => ?_
    have hl : (if r < k then r else i) < n := by split <;> omega
    rw [H.c _ _ hl]
    show _ = sm k (fun m => (if m < k then A (if r < k then r else i) m else if r = k then 1 else 0) * (M (if m < k then m else i) (if c < k then c else j) / pv)) + (if k < k then A (if r < k then r else i) k else if r = k then 1 else 0) * (M (if k < k then k else i) (if c < k then c else j) / pv)
    congr 1
    · refine sm_congr fun m hm => ?_
      rw [if_pos hm, if_pos hm]
    · rw [if_neg (Nat.lt_irrefl k), if_neg (Nat.lt_irrefl k)]
      by_cases h : r < k
      · rw [if_pos h, if_neg (by omega : ¬ k ≤ r), if_neg (by omega : ¬ r = k)]; grind
      · rw [if_neg h, if_pos hik, if_pos (by omega : r = k)]; grind
  rw [e, det_mm, ← det_gdet, det_lastc fun r hr => by rw [if_neg (Nat.lt_irrefl k), if_neg (by omega)]]
  rw [if_neg (Nat.lt_irrefl k), if_pos rfl, det_last fun c hc => by
    show M (if k < k then k else i) (if c < k then c else j) / pv = 0
    rw [if_neg (Nat.lt_irrefl k), if_pos hc, H.hid hi hc, if_neg (by omega)]]
  have d1 : det k (fun r m => if m < k then A (if r < k then r else i) m else if r = k then 1 else 0) = pv := by
    rw [← H.d]
    exact det_congr fun r c hr hc => by rw [if_pos hc, if_pos hr]
  have d2 : det k (fun m c => M (if m < k then m else i) (if c < k then c else j) / pv) = 1 := det_id k fun r c hr hc => by
    rw [if_pos hr, if_pos hc, H.hid (by omega) hc]
  rw [if_neg (Nat.lt_irrefl k), if_neg (Nat.lt_irrefl k), d1, d2]
  have := H.nz
  grind
theorem BI.high {n k : Nat} {A M : Mt} {pv : Rat} (H : BI n k A M pv) (hk : k ≤ n) {i : Nat} (hi : i < k) (j : Nat) :
    det k (fun r c => A r (rpl i j c)) = M i j := by
  have e : det k (fun r c => A r (rpl i j c)) = det k (mm k A fun m c => M m (rpl i j c) / pv) := by
    refine det_congr fun r c hr hc => ?_
    rw [H.c _ _ (by omega), if_neg (by omega)]
    unfold mm
    grind
  rw [e, det_mm, ← det_gdet, det_idcol (H := fun m c => M m c / pv) hi fun r c hr hc => H.hid (by omega) hc, H.d]
  have := H.nz
  grind
def bstp (k : Nat) (M : Mt) (pv : Rat) : Mt := fun i j => if i = k then M k j else (M k k * M i j - M i k * M k j) / pv
theorem BI.step {n k : Nat} {A M : Mt} {pv : Rat} (H : BI n k A M pv) (hk : k < n) (hp : M k k ≠ 0) : BI n (k + 1) A (bstp k M pv) (M k k) := by
  have hv := H.nz
  refine ⟨hp, ?_, fun i c hi hc => ?_, fun l j hl => ?_⟩
  · rw [← H.low (by omega) hk (Nat.le_refl k) k]
    refine det_congr fun r c hr hc => ?_
    have e1 : (if r < k then r else k) = r := by split <;> omega
    have e2 : (if c < k then c else k) = c := by split <;> omega
    rw [e1, e2]
  · unfold bstp
    by_cases hik : i = k
    · subst hik
      rw [if_pos rfl]
      by_cases hc2 : i = c
      · subst hc2; rw [if_pos rfl]
      · rw [if_neg hc2, H.id i c hi (by omega), if_neg hc2]
    · rw [if_neg hik]
      by_cases hc2 : c = k
      · subst hc2; rw [if_neg hik]; grind
      · rw [H.id i c hi (by omega), H.id k c hk (by omega), if_neg (by omega : ¬ k = c)]
        split <;> grind
  · have a1 := H.c l j hl
    have a2 := H.c l k hl
    have e1 : sm k (fun i => A l i * (bstp k M pv i j / M k k)) = sm k (fun i => A l i * (M i j / pv)) + -(M k j / M k k) * sm k (fun i => A l i * (M i k / pv)) := by
      rw [← sm_mul, ← sm_add]
      refine sm_congr fun i hi => ?_
      unfold bstp
      rw [if_neg (by omega)]
      grind
    have e2 : bstp k M pv k j = M k j := by unfold bstp; rw [if_pos rfl]
    show A l j = sm k _ + A l k * (bstp k M pv k j / M k k) + _
    rw [e1, e2]
    generalize sm k (fun i => A l i * (M i j / pv)) = S1 at *
    generalize sm k (fun i => A l i * (M i k / pv)) = S2 at *
    rcases Nat.lt_trichotomy l k with h | h | h
    · rw [if_neg (by omega)] at a1 a2
      rw [if_neg (by omega), a1, a2]
      grind
    · subst h
      rw [if_pos (Nat.le_refl _)] at a1 a2
      rw [if_neg (by omega), a1, a2]
      grind
    · rw [if_pos (by omega)] at a1 a2
      rw [if_pos (by omega), a1, a2]
      unfold bstp
      rw [if_neg (by omega)]
      grind
theorem BI.swp {n k : Nat} {A M : Mt} {pv : Rat} (H : BI n k A M pv) {r s : Nat} (hr : k ≤ r) (hr2 : r < n) (hs : k ≤ s) (hs2 : s < n) : BI n k (swp A r s) (swp M r s) pv := by
  have hk : ∀ B : Mt, ∀ i, i < k → Go.S.swp B r s i = B i := fun B i hi => by
    unfold Go.S.swp
    rw [if_neg (by omega), if_neg (by omega)]
  refine ⟨H.nz, ?_, fun i c hi hc => ?_, fun l j hl => ?_⟩
  · rw [← H.d]
    exact det_congr fun i c hi hc => by rw [hk A i hi]
  · by_cases hik : i < k
    · rw [hk M i hik, H.id i c hi hc]
    · unfold Go.S.swp
      rw [H.id _ c (by split <;> (try split) <;> omega) hc, if_neg (by split <;> (try split) <;> omega), if_neg (by omega)]
  · rw [sm_congr (g := fun i => Go.S.swp A r s l i * (M i j / pv)) fun i hi => by rw [hk M i hi]]
    unfold Go.S.swp
    rw [H.c _ j (by split <;> (try split) <;> omega)]
    congr 1
    by_cases hik : k ≤ l
    · rw [if_pos hik, if_pos (by split <;> (try split) <;> omega)]
    · rw [if_neg hik, if_neg (by split <;> (try split) <;> omega)]
theorem BI.none {n k : Nat} {A M : Mt} {pv : Rat} (H : BI n k A M pv) (hk : k < n) (h : ∀ i, k ≤ i → i < n → M i k = 0) : det n A = 0 := by
  have e : det n A = det n (mm n (fun l i => if i < k then A l i else if i = l then 1 else 0) fun i j => M i j / pv) := by
    refine det_congr fun l j hl hj => ?_
    rw [H.c l j hl]
    unfold mm
    have key : ∀ d, k + d ≤ n → sm (k + d) (fun i => (if i < k then A l i else if i = l then 1 else 0) * (M i j / pv)) = sm k (fun i => A l i * (M i j / pv)) + if k ≤ l ∧ l < k + d then M l j / pv else 0 := by
      intro d
      induction d with
      | zero =>
        intro _
        rw [if_neg (by omega), Nat.add_zero, sm_congr (g := fun i => A l i * (M i j / pv)) fun i hi => by rw [if_pos hi]]
        grind
      | succ d ih =>
        intro hd
        show sm (k + d) _ + (if k + d < k then A l (k + d) else if k + d = l then 1 else 0) * (M (k + d) j / pv) = _
        rw [ih (by omega), if_neg (by omega : ¬ k + d < k)]
        by_cases h1 : k + d = l
        · rw [if_pos h1, if_neg (by omega), if_pos (by omega), h1]; grind
        · rw [if_neg h1]
          by_cases h2 : k ≤ l ∧ l < k + d
          · rw [if_pos h2, if_pos (by omega)]; grind
          · rw [if_neg h2, if_neg (by omega)]; grind
    have := key (n - k) (by omega)
    rw [show k + (n - k) = n by omega] at this
    rw [this]
    congr 1
    by_cases h1 : k ≤ l
    · rw [if_pos h1, if_pos ⟨h1, hl⟩]
    · rw [if_neg h1, if_neg (by omega)]
  rw [e, det_mm, det_zeros (k := k) hk fun i c hi hi2 hc => by
    by_cases h1 : c = k
    · rw [h1, h i hi hi2]; grind
    · rw [H.hid hi2 (by omega), if_neg (by omega)]]
  grind
def isI (x : Rat) : Prop := ∃ z : Int, x = z
theorem BI.int {n k : Nat} {A M : Mt} {pv : Rat} (H : BI n k A M pv) (hk : k ≤ n) (h : ∀ i, i < n → ∀ j, isI (A i j)) {i : Nat} (hi : i < n) (j : Nat) : isI (M i j) := by
  by_cases hik : k ≤ i
  · rw [← H.low hk hi hik j]
    exact det_int _ fun r c hr hc => h _ (by split <;> omega) _
  · rw [← H.high hk (by omega) j]
    exact det_int _ fun r c hr hc => h _ (by omega) _
structure BS where
  M : Mt
  neg : Bool
  pv : Rat
def sgb (b : Bool) : Rat := if b then -1 else 1
structure BP (n : Nat) (A B : Mt) (neg : Bool) : Prop where
  all : ∀ P : (Nat → Rat) → Prop, (∀ i, i < n → P (A i)) ↔ (∀ i, i < n → P (B i))
  det : ∀ γ : Nat → Nat, Go.S.det n (fun i c => B i (γ c)) = sgb neg * Go.S.det n (fun i c => A i (γ c))
theorem BP.refl (n : Nat) (A : Mt) : BP n A A false := ⟨fun _ => Iff.rfl, fun γ => by unfold sgb; rw [if_neg (by decide)]; grind⟩
theorem BP.swp {n : Nat} {A B : Mt} {neg : Bool} (H : BP n A B neg) {r s : Nat} (hr : r < n) (hs : s < n) (h : r ≠ s) : BP n A (swp B r s) (!neg) := by
  refine ⟨fun P => (H.all P).trans ⟨fun h2 i hi => ?_, fun h2 i hi => ?_⟩, fun γ => ?_⟩
  · unfold Go.S.swp
    exact h2 _ (by split <;> (try split) <;> omega)
  · have h3 := h2 (if i = r then s else if i = s then r else i) (by split <;> (try split) <;> omega)
    unfold Go.S.swp at h3
    by_cases h4 : i = r
    · subst h4; simp only [if_true, Ne.symm h, if_false] at h3; exact h3
    · by_cases h5 : i = s
      · subst h5; simp only [Ne.symm h, if_true, if_false] at h3; exact h3
      · simp only [h4, h5, if_false] at h3; exact h3
  · have e := det_swp (A := fun i c => B i (γ c)) h hr hs
    have e2 : Go.S.swp (fun i c => B i (γ c)) r s = fun i c => Go.S.swp B r s i (γ c) := rfl
    rw [e2] at e
    rw [e, H.det γ]
    unfold sgb
    cases neg <;> simp <;> grind
end Go.S

end
section
set_option linter.unusedVariables false
set_option linter.unusedSimpArgs false
namespace Go.S
section
variable {α : Type} [Inhabited α]
def rwg (c : Nat) (f : Nat → α) : List α := (List.range c).map f
theorem rwg_congr {c : Nat} {f g : Nat → α} (h : ∀ j, j < c → f j = g j) : rwg c f = rwg c g := List.map_congr_left fun j hj => h j (by simpa using hj)
theorem rwg_set {c j : Nat} {f : Nat → α} {x : α} (h : j < c) : (rwg c f).set j x = rwg c fun y => if y = j then x else f y := by
  refine List.ext_getElem (by simp [rwg]) fun k h1 h2 => ?_
  rw [List.getElem_set]
  by_cases e : j = k
  · subst e; simp [rwg]
  · simp [rwg, e, Ne.symm e]
end
end Go.S

end
section
set_option linter.unusedVariables false
set_option linter.unusedSimpArgs false
namespace Go.S
open Go.K
abbrev Zt := Nat → Nat → Int
def nz (M : Mt) : Zt := fun i j => (M i j).num
structure ZS where
  Z : Zt
  neg : Bool
  pv : Int
def swz (A : Zt) (r s : Nat) : Zt := fun i => A (if i = r then s else if i = s then r else i)
structure ZN (n c k : Nat) (s : ZS) (r : Nat) (t : ZS) : Prop where
  kr : k ≤ r
  rn : r < n
  z : ∀ i, k ≤ i → i < r → s.Z i k = 0
  p : s.Z r k ≠ 0
  v : s.pv ≠ 0
  neg : t.neg = if k = r then s.neg else !s.neg
  pv : t.pv = s.Z r k
  at_ : ∀ j, t.Z k j = s.Z r j
  d : ∀ i, i < n → i ≠ k → ∀ j, s.pv * t.Z i j = s.Z r k * swz s.Z k r i j - swz s.Z k r i k * s.Z r j
end Go.S

end
section
set_option linter.unusedVariables false
set_option linter.unusedSimpArgs false
namespace Go.S
def bsd (n : Nat) (A B : Mt) : Mt := fun i j => if j < n then A i j else B i (j - n)
end Go.S

end
section
set_option linter.unusedVariables false
set_option linter.unusedSimpArgs false
set_option maxRecDepth 100000
namespace Go.S
open Go Go.AM Go.RowKit Go.K
def shp16 (a b : List (List Rat)) (sq : Bool) : Bool := may a && may b && decide (b.length = a.length) && (!sq || decide (wide a = a.length))
theorem shp16_iff {a b : List (List Rat)} {sq : Bool} : shp16 a b sq = true ↔ may a = true ∧ may b = true ∧ b.length = a.length ∧ (sq = true → wide a = a.length) := by
  unfold shp16
  cases sq <;> simp [and_assoc]
set_option maxHeartbeats 2000000
theorem s_shaped16 {a b : List (List Rat)} (ha : a.length ≤ 1000000) (hb : b.length ≤ 1000000) (sq : Bool) : CP (CL F) 87 [eT a, eT b, .bool sq] = some (eI (if shp16 a b sq = true then 0 else 8)) := by
  refine CP_X (F := F) (f := 87) rfl rfl ?_
  have k0 := s_Size a
  have k1 := s_Check (t := a) ha
  have k2 := s_Check (t := b) hb
  have z8 : ¬ ((8 : Int) = 0) := by decide
  cases h1 : may a with
  | false =>
    rw [show shp16 a b sq = false from by unfold shp16; rw [h1]; rfl, if_neg (by decide)]
    rw [h1, if_neg (by decide)] at k1
    clear h1 k2
    refine go3 ?_
    trivial
  | true =>
    rw [h1, if_pos rfl] at k1
    cases h2 : may b with
    | false =>
      rw [show shp16 a b sq = false from by unfold shp16; rw [h1, h2]; rfl, if_neg (by decide)]
      rw [h2, if_neg (by decide)] at k2
      clear h1 h2
      refine go3 ?_
      trivial
    | true =>
      rw [h2, if_pos rfl] at k2
      by_cases h3 : b.length = a.length
      · have c0 := eq_true (show ((b.length : Int) = (a.length : Int)) by omega)
        cases sq with
        | false =>
          rw [shp16_iff.2 ⟨h1, h2, h3, fun h => by cases h⟩, if_pos rfl]
          clear h1 h2 h3
          refine go3 ?_
          trivial
        | true =>
          by_cases h4 : wide a = a.length
          · rw [shp16_iff.2 ⟨h1, h2, h3, fun _ => h4⟩, if_pos rfl]
            have c1 := eq_true (show ((wide a : Int) = (a.length : Int)) by omega)
            clear h1 h2 h3 h4
            refine go3 ?_
            trivial
          · have hf : shp16 a b true = false := by
              rw [← Bool.not_eq_true, shp16_iff]
              exact fun h => h4 (h.2.2.2 rfl)
            rw [hf, if_neg (by decide)]
            have c1 := eq_false (show ¬ ((wide a : Int) = (a.length : Int)) by omega)
            clear h1 h2 h3 h4 hf
            refine go3 ?_
            trivial
      · have hf : shp16 a b sq = false := by
          rw [← Bool.not_eq_true, shp16_iff]
          exact fun h => h3 h.2.2.1
        rw [hf, if_neg (by decide)]
        have c0 := eq_false (show ¬ ((b.length : Int) = (a.length : Int)) by omega)
        clear h1 h2 h3 hf
        refine go3 ?_
        trivial
theorem s_Why_bad {a b : List (List Rat)} (ha : a.length ≤ 1000000) (hb : b.length ≤ 1000000) (h : shp16 a b false = false) : CP (CL F) 53 [eT a, eT b] = some (.tup [.agg [eI 0, .lst [], .bool false], eI 8]) := by
  refine CP_X (F := F) (f := 53) rfl rfl ?_
  have k := s_shaped16 ha hb false
  rw [h, if_neg (by decide)] at k
  clear h
  refine go3 ?_
  trivial
def freeP (piv : List Nat) (c : Nat) : List Nat := (List.range c).filter fun j => decide (j ∉ piv)
theorem freeP_succ (piv : List Nat) (c : Nat) : freeP piv (c + 1) = if c ∈ piv then freeP piv c else freeP piv c ++ [c] := by
  unfold freeP
  rw [List.range_succ, List.filter_append]
  split
  · next h => simp [h]
  · next h => simp [h]
theorem besideR_tab {n c m : Nat} (A B : Mt) : besideR (tab n c A) (tab n m B) = tab n (c + m) (bsd c A B) := by
  unfold besideR
  refine List.ext_getElem (by simp [tab]) fun i h1 h2 => ?_
  simp only [List.getElem_zipWith, tab, List.getElem_map, List.getElem_range]
  exact rowf_app c m (A i) (B i)
theorem s_Why {n c m M : Nat} {A B : Mt} (hn : n ≤ 100) (hc : c ≤ 100) (hm : m ≤ 100) (h0 : n = 0 → c = 0 ∧ m = 0) (hM : M < 1000000) (hA : GB n c M A) (hB : GB n (c + m) M (bsd c A B)) :
    CP (CL F) 53 [eT (tab n c A), eT (tab n m B)] = some (.tup [.agg [eI (grun n A c).2.1.length, .lst (ui (ivl (freeP (grun n A c).2.1 c))), .bool (decide ((grun n A c).2.1.length < (grun n (bsd c A B) (c + m)).2.1.length))], eI 0]) := by
  have wt : ∀ (k : Nat) (E : Mt), (n = 0 → k = 0) → wide (tab n k E) = k := fun k E h => by
    rcases Nat.eq_zero_or_pos n with e | e
    · subst e; rw [h rfl]; rfl
    · exact tab_wide e
  have k1 := s_shaped16 (a := tab n c A) (b := tab n m B) (by rw [tab_len]; omega) (by rw [tab_len]; omega) false
  rw [shp16_iff.2 ⟨tab_may (by omega) (by omega), tab_may (by omega) (by omega), by rw [tab_len, tab_len], fun h => by cases h⟩, if_pos rfl] at k1
  have k2 := s_Reduce (by omega) (by omega) (fun h => (h0 h).1) hM hA
  have k3 := s_Beside (a := tab n c A) (b := tab n m B) (tab_may (by omega) (by omega)) (tab_may (by omega) (by omega)) (by rw [tab_len, tab_len]) (by rw [wt c A fun h => (h0 h).1, wt m B fun h => (h0 h).2]; omega)
  rw [besideR_tab] at k3
  have k4 := s_Rank (s_Reduce (by omega) (by omega) (fun h => by obtain ⟨a, b⟩ := h0 h; omega) hM hB)
  rw [ivl_len] at k4
  have k5 := s_Size (tab n c A)
  rw [wt c A fun h => (h0 h).1, tab_len] at k5
  have fp : ∀ (a b : List (List Rat)) (h : Heap), fzR (Go.AM.frz h 6) (some (some ⟨0, 1, [eT a, eT b]⟩)) 0 0 2 = some (.lst (em eT [a, b])) := fun a b h => em_fz6 (h := h) (v := 0) (off := 0) (len := 2) E_eT [a, b]
  have up : ∀ (a b : List (List Rat)) (h : Heap) (i : Nat), usR (used h 6) (some (some ⟨0, 1, [eT a, eT b]⟩)) i 0 0 2 = [i] := fun a b h i => em_us6 (h := h) (id := i) (v := 0) (off := 0) (len := 2) E_eT [a, b]
  have pl := ivl_len (grun n A c).2.1
  have ple := (grun_RR n A c).le
  generalize (grun n A c).2.1 = piv at *
  generalize (grun n (bsd c A B) (c + m)).2.1.length = r2 at *
  generalize tab n c (grun n A c).1 = SA at *
  generalize tab n (c + m) (bsd c A B) = TAB at *
  generalize tab n c A = TA at *
  generalize tab n m B = TB at *
  have ct := fun j : Nat => s_Contains (ivl piv) (j : Int) (by rw [pl]; omega)
  have mem : ∀ j : Nat, decide ((j : Int) ∈ ivl piv) = decide (j ∈ piv) := fun j => by
    unfold ivl
    rw [Bool.eq_iff_iff, decide_eq_true_eq, decide_eq_true_eq, List.mem_map]
    constructor
    · rintro ⟨x, hx, e⟩
      obtain rfl : x = j := by omega
      exact hx
    · exact fun h => ⟨j, h, rfl⟩
  simp only [mem] at ct
  clear mem wt hA hB h0 ple
  obtain ⟨cl, hcl⟩ : ∃ cl : Bool, cl = decide (piv.length < r2) := ⟨_, rfl⟩
  rw [← hcl]
  have d0 : decide ((piv.length : Int) < (r2 : Int)) = cl := by rw [hcl]; simp
  clear hcl
  refine CP_X (F := F) (f := 53) rfl rfl ?_
  refine go3 ?_
  clear k1 k2 k3 k4 k5 fp up d0
  refine X_up c (fun j s => ∃ j15 j67 j72 g fv, PV g (freeP piv j) fv ∧ s = ⟨[(0, eT TA), (1, eT TB), (4, .ptr 0 0 0 0), (5, eI 0), (6, eI 0), (8, .lst (ui (ivl piv))), (9, eI 0), (10, eT TAB), (11, eI r2), (12, .ptr 2 0 0 0), (14, eI c), (15, j15), (20, .bool false), (30, .bool false), (41, .bool false), (50, .bool false), (65, eI c), (66, eI j), (67, j67), (72, j72)], some ⟨0, 3, [.agg [.int .i64 0, .nil, .bool false]]⟩ :: none :: some ⟨0, 3, [.agg [eI piv.length, fv, .bool cl]]⟩ :: g⟩) ?_ ?_ 0 (Nat.zero_le _) _ ⟨_, _, _, [], _, .inl ⟨rfl, rfl⟩, rfl⟩
  · rintro j s hj ⟨j15, j67, j72, g, fv, hpv, rfl⟩ rec
    have hlt := lt_c hj
    have cj := ct j
    have hfs := freeP_succ piv j
    have hj6 : j < 9223372036854775807 := by omega
    have hflen : (freeP piv j).length ≤ j := by
      have := List.length_filter_le (fun j => decide (j ∉ piv)) (List.range j)
      rw [List.length_range] at this
      exact this
    by_cases hmem : j ∈ piv
    · rw [decide_eq_true hmem] at cj
      rw [if_pos hmem] at hfs
      rw [hfs] at rec
      have hw := i64_nat hj6
      clear ct hmem hflen
      refine go3 ?_
      exact rec _ ⟨_, _, _, _, _, hpv, rfl⟩
    · rw [decide_eq_false hmem] at cj
      rw [if_neg hmem] at hfs
      rw [hfs] at rec
      have z1 : (ui [(j : Int)]).isEmpty = false := rfl
      have z3 := ivl_snoc (freeP piv j) j
      have z2 := ivl_len (freeP piv j)
      have z4 : List.take (freeP piv j).length (ivl (freeP piv j)) = ivl (freeP piv j) := take_len_g _ z2.symm
      have z5 : (freeP piv j ++ [j]).length = (freeP piv j).length + 1 := by simp
      have hlim : (freeP piv j).length + 1 < 17592186044416 := by omega
      have hw := i64_nat hj6
      generalize freeP piv j = f at *
      rcases hpv with ⟨rfl, rfl⟩ | ⟨vp, g1, g2, rfl, rfl⟩
      · clear ct hmem hflen
        refine go3 ?_
        exact rec _ ⟨_, _, _, _, _, .inr ⟨0, g ++ [some ⟨0, 1, ui [(j : Int)]⟩], [], by simp [ivl], by simp⟩, rfl⟩
      · clear ct hmem hflen
        refine go3 ?_
        exact rec _ ⟨_, _, _, _, _, .inr ⟨vp + 1, g1, _, by rw [z3], by rw [z5]⟩, rfl⟩
  · rintro s ⟨j15, j67, j72, g, fv, hpv, rfl⟩
    have hlt : ¬ ((c : Int) < (c : Int)) := nlt_c
    have z2 := ivl_len (freeP piv c)
    have z4 : List.take (freeP piv c).length (ivl (freeP piv c)) = ivl (freeP piv c) := take_len_g _ z2.symm
    generalize freeP piv c = f at *
    rcases hpv with ⟨rfl, rfl⟩ | ⟨vp, g1, g2, rfl, rfl⟩
    · clear ct
      refine go3 ?_
      trivial
    · clear ct
      refine go3 ?_
      trivial
end Go.S

end
section
set_option linter.unusedVariables false
set_option linter.unusedSimpArgs false
set_option maxRecDepth 100000
namespace Go.S
open Go Go.AM Go.RowKit Go.K
abbrev eRZ (l : List Int) : AV := .lst (em eZ l)
end Go.S

end
section
set_option linter.unusedVariables false
set_option linter.unusedSimpArgs false
set_option maxRecDepth 100000
namespace Go.S
open Go Go.AM Go.RowKit Go.K
abbrev aB (tb : AV) (pv : Int) (neg : Bool) : AV := .agg [tb, .bool (decide (pv < 0)), eN (ab pv), .bool neg]
structure WB (n c : Nat) (Z : Zt) (neg : Bool) (pv : Int) (G : Heap) (key : Nat → Nat) (vt b : Nat) : Prop where
  work : G[0]? = some (some ⟨0, 4, [aB (.ref (b + 3) vt 1 0 n) pv neg]⟩)
  tab : G[3]? = some (some ⟨vt, 1, rwg n fun i => .ref (b + key i) 0 2 0 c⟩)
  row : ∀ i, i < n → G[key i]? = some (some ⟨0, 2, em eZ (rwg c (Z i))⟩)
  ne : ∀ i, i < n → key i ≠ 0 ∧ key i ≠ 3
  inj : ∀ i j, i < n → j < n → key i = key j → i = j
theorem app_get {G : Heap} {i : Nat} {x : Option Blk} (h : G[i]? = some x) (l : Heap) : (G ++ l)[i]? = some x := by
  rw [List.getElem?_append_left (List.getElem?_eq_some_iff.1 h).1]; exact h
theorem WB.grow {n c : Nat} {Z : Zt} {neg : Bool} {pv : Int} {G : Heap} {key : Nat → Nat} {vt b : Nat} (H : WB n c Z neg pv G key vt b) (l : Heap) : WB n c Z neg pv (G ++ l) key vt b :=
  ⟨app_get H.work l, app_get H.tab l, fun i hi => app_get (H.row i hi) l, H.ne, H.inj⟩
theorem WB.congr {n c : Nat} {Z Z' : Zt} {neg : Bool} {pv : Int} {G : Heap} {key : Nat → Nat} {vt b : Nat} (H : WB n c Z neg pv G key vt b) (h : ∀ i, i < n → ∀ j, j < c → Z' i j = Z i j) : WB n c Z' neg pv G key vt b :=
  ⟨H.work, H.tab, fun i hi => by rw [rwg_congr (h i hi)]; exact H.row i hi, H.ne, H.inj⟩
end Go.S

end
section
set_option linter.unusedVariables false
set_option linter.unusedSimpArgs false
set_option maxRecDepth 100000
namespace Go.S
open Go Go.AM Go.RowKit Go.K
def key0 (i : Nat) : Nat := if i = 0 then 1 else 2 * i + 2
theorem WB.snoc {i c : Nat} {Z : Zt} {neg : Bool} {pv : Int} {G : Heap} {v b : Nat} (H : WB i c Z neg pv G key0 v b) (hl : G.length = 2 * i + 2) (hi : 0 < i) (y : Option Blk) :
    WB (i + 1) c Z neg pv ((G.set 3 (some ⟨v + 1, 1, rwg (i + 1) fun i => .ref (b + key0 i) 0 2 0 c⟩)).set 0 (some ⟨0, 4, [aB (.ref (b + 3) (v + 1) 1 0 (i + 1)) pv neg]⟩) ++ [some ⟨0, 2, em eZ (rwg c (Z i))⟩, y]) key0 (v + 1) b := by
  have l0 : 0 < G.length := by omega
  have ne : ∀ j, j < i + 1 → key0 j ≠ 0 ∧ key0 j ≠ 3 := fun j hj => by unfold key0; split <;> omega
  refine ⟨app_get ?_ _, app_get ?_ _, fun j hj => ?_, ne, fun a b ha hb h => ?_⟩
  · rw [List.getElem?_set_self (by rw [List.length_set]; exact l0)]
  · rw [List.getElem?_set_ne (by omega), List.getElem?_set_self (by omega)]
  · by_cases e : j = i
    · subst e
      have : key0 j = ((G.set 3 (some ⟨v + 1, 1, rwg (j + 1) fun i => .ref (b + key0 i) 0 2 0 c⟩)).set 0 (some ⟨0, 4, [aB (.ref (b + 3) (v + 1) 1 0 (j + 1)) pv neg]⟩)).length := by
        rw [List.length_set, List.length_set, hl]
        unfold key0
        rw [if_neg (by omega)]
      rw [this, get_app0]
      rfl
    · refine app_get ?_ _
      have := ne j hj
      rw [List.getElem?_set_ne (Ne.symm this.1), List.getElem?_set_ne (Ne.symm this.2)]
      exact H.row j (by omega)
  · unfold key0 at h
    split at h <;> split at h <;> omega
theorem WB.one (c : Nat) (Z : Zt) (b : Nat) : WB 1 c Z false 1 [some ⟨0, 4, [.agg [.ref (b + 3) 0 1 0 1, .bool false, eN (ab 1), .bool false]]⟩, some ⟨0, 2, em eZ (rwg c (Z 0))⟩, some ⟨0, 1, [.ref (b + 1) 0 2 0 c]⟩, some ⟨0, 1, [.ref (b + 1) 0 2 0 c]⟩] key0 0 b :=
  ⟨rfl, rfl, fun i hi => by
    obtain rfl : i = 0 := by omega
    rfl, fun i hi => by
    obtain rfl : i = 0 := by omega
    exact ⟨by decide, by decide⟩, fun i j hi hj _ => by omega⟩
theorem WB.swap {n c : Nat} {Z : Zt} {neg : Bool} {pv : Int} {G : Heap} {key : Nat → Nat} {v b : Nat} (H : WB n c Z neg pv G key v b) {k r : Nat} (hk : k < n) (hr : r < n) (neg' : Bool) :
    WB n c (swz Z k r) neg' pv ((G.set 3 (some ⟨v, 1, ((rwg n fun i => .ref (b + key i) 0 2 0 c).set r (.ref (b + key k) 0 2 0 c)).set k (.ref (b + key r) 0 2 0 c)⟩)).set 0 (some ⟨0, 4, [aB (.ref (b + 3) v 1 0 n) pv neg']⟩)) (fun j => key (if j = k then r else if j = r then k else j)) v b := by
  have l0 := (List.getElem?_eq_some_iff.1 H.work).1
  have l3 := (List.getElem?_eq_some_iff.1 H.tab).1
  have sl : ∀ j, j < n → (if j = k then r else if j = r then k else j) < n := fun j hj => by split <;> (try split) <;> omega
  refine ⟨?_, ?_, fun j hj => ?_, fun j hj => H.ne _ (sl j hj), fun i j hi hj h => ?_⟩
  · rw [List.getElem?_set_self (by rw [List.length_set]; exact l0)]
  · rw [List.getElem?_set_ne (by omega), List.getElem?_set_self l3, rwg_set hr, rwg_set hk]
    congr 4
    funext j
    by_cases e1 : j = k
    · rw [if_pos e1, if_pos e1]
    · rw [if_neg e1, if_neg e1]
      by_cases e2 : j = r
      · rw [if_pos e2, if_pos e2]
      · rw [if_neg e2, if_neg e2]
  · have ne := H.ne _ (sl j hj)
    rw [List.getElem?_set_ne (Ne.symm ne.1), List.getElem?_set_ne (Ne.symm ne.2)]
    exact H.row _ (sl j hj)
  · have := H.inj _ _ (sl i hi) (sl j hj) h
    split at this <;> split at this <;> (try split at this) <;> (try split at this) <;> omega
end Go.S

end
section
set_option linter.unusedVariables false
set_option linter.unusedSimpArgs false
set_option maxRecDepth 100000
namespace Go.S
open Go Go.AM Go.RowKit Go.K
theorem WB.eqs {n c : Nat} {Z Z' : Zt} {neg : Bool} {pv : Int} {G : Heap} {key : Nat → Nat} {vt b : Nat} (H : WB n c Z neg pv G key vt b) (h : ∀ i, i < n → Z' i = Z i) : WB n c Z' neg pv G key vt b :=
  H.congr fun i hi j _ => by rw [h i hi]
set_option maxHeartbeats 1000000
end Go.S

end
section
set_option linter.unusedVariables false
set_option linter.unusedSimpArgs false
set_option maxRecDepth 100000
namespace Go.S
open Go Go.AM Go.RowKit Go.K
abbrev XZ := Bool × List Int
def XZ.ok (x : XZ) : Prop := (∀ y ∈ x.2, 0 ≤ y) ∧ x.2.length < 17592186044416
instance : Inhabited XZ := ⟨(false, [])⟩
end Go.S

end
section
set_option linter.unusedVariables false
set_option linter.unusedSimpArgs false
set_option maxRecDepth 100000
namespace Go.S
open Go Go.AM Go.RowKit Go.K
def XR (b c0 K0 : Nat) (g : Heap) (c : AV) (r : List Int) : Prop := (r = [] ∧ c = .nil) ∨ ∃ k v, k < K0 ∧ c = .ref (b + (c0 + (k + 1))) v 2 0 r.length ∧ g[k]? = some (some ⟨v, 2, em eZ r⟩)
theorem XR.grow {b c0 K0 : Nat} {g : Heap} {c : AV} {r : List Int} (h : XR b c0 K0 g c r) (l : Heap) : XR b c0 K0 (g ++ l) c r := by
  rcases h with h | ⟨k, v, h1, h2, h3⟩
  · exact .inl h
  · exact .inr ⟨k, v, h1, h2, app_get h3 l⟩
theorem XR.le {b c0 K0 K1 : Nat} {g : Heap} {c : AV} {r : List Int} (h : XR b c0 K0 g c r) (hk : K0 ≤ K1) : XR b c0 K1 g c r := by
  rcases h with h | ⟨k, v, h1, h2, h3⟩
  · exact .inl h
  · exact .inr ⟨k, v, by omega, h2, h3⟩
theorem XR.set {b c0 K0 : Nat} {g : Heap} {c : AV} {r : List Int} (h : XR b c0 K0 g c r) {j : Nat} (hj : K0 ≤ j) (x : Option Blk) : XR b c0 K0 (g.set j x) c r := by
  rcases h with h | ⟨k, v, h1, h2, h3⟩
  · exact .inl h
  · exact .inr ⟨k, v, h1, h2, by rw [List.getElem?_set_ne (by omega)]; exact h3⟩
theorem XR.frz {h0 G g : Heap} {b c0 K0 : Nat} {c : AV} {r : List Int} {x : Option Blk} (h : XR b c0 K0 g c r) (hb : h0.length = b) (hc : G.length = c0) (n : Nat) : Go.AM.frz (h0 ++ (G ++ (x :: g))) (n + 3) c = some (eRZ r) := by
  rcases h with ⟨rfl, rfl⟩ | ⟨k, v, h1, rfl, h3⟩
  · rfl
  · have hbk : blk (h0 ++ (G ++ (x :: g))) (b + (c0 + (k + 1))) v = some ⟨v, 2, em eZ r⟩ := by
      unfold blk
      rw [← hb, ← hc, get_app, get_app, List.getElem?_cons_succ, h3]
      exact if_pos rfl
    show (blk _ _ v).bind (fun b => ((sub b.xs 0 r.length).mapM (Go.AM.frz _ (n + 2))).map AV.lst) = _
    rw [hbk]
    show ((sub (em eZ r) 0 r.length).mapM (Go.AM.frz _ (n + 2))).map AV.lst = _
    rw [sub_full, mapM_some (G := fun x => x) _ fun x hx => by
      obtain ⟨z, _, rfl⟩ := List.mem_map.1 hx
      exact (frz_plain1 (E_eZ.pl z)).1]
    simp
end Go.S

end
section
set_option linter.unusedVariables false
set_option linter.unusedSimpArgs false
set_option maxRecDepth 100000
namespace Go.S
open Go Go.AM Go.RowKit Go.K
theorem s_works16 : CP (CL F) 42 [] = some (.bool true) := CP_run2 300 (by decide +kernel)
end Go.S

end
section
set_option linter.unusedVariables false
set_option linter.unusedSimpArgs false
set_option maxRecDepth 100000
namespace Go.S
open Go Go.AM Go.RowKit Go.K
theorem s_rBeside {n c m : Nat} {A B : Mt} (hn : n ≤ 1000) (hc : c ≤ 1000) (hm : m ≤ 1000) : CP (CL F) 90 [rT (tab n c A), rT (tab n m B)] = some (rT (tab n (c + m) (bsd c A B))) := by
  refine CP_X (F := F) (f := 90) rfl rfl ?_
  have tl := tab_len n c A
  have gA : ∀ i, i < n → (em rR (tab n c A))[i]? = some (rR (rowf c (A i))) := fun i hi => by
    have := em_getN (f := rR) (tab n c A) i (by rw [tab_len]; exact hi)
    rwa [tab_get hi] at this
  have gB : ∀ i, i < n → (em rR (tab n m B))[i]? = some (rR (rowf m (B i))) := fun i hi => by
    have := em_getN (f := rR) (tab n m B) i (by rw [tab_len]; exact hi)
    rwa [tab_get hi] at this
  have ap : ∀ i, rowf c (A i) ++ rowf m (B i) = rowf (c + m) (bsd c A B i) := fun i => rowf_app c m _ _
  have sn : ∀ i, tab i (c + m) (bsd c A B) ++ [rowf (c + m) (bsd c A B i)] = tab (i + 1) (c + m) (bsd c A B) := fun i => by simp [tab, List.range_succ]
  generalize tab n c A = TA at *
  generalize tab n m B = TB at *
  generalize bsd c A B = E at *
  refine go3 ?_
  refine X_up n (fun i s => ∃ j11 v g, s = ⟨[(0, rT TA), (1, rT TB), (4, .nil), (5, .ref 0 v 1 0 i), (6, eI i), (11, j11)], some ⟨v, 1, em rR (tab i (c + m) E)⟩ :: g⟩) ?_ ?_ 0 (Nat.zero_le _) _ ⟨_, _, [], rfl⟩
  · rintro i s hi ⟨j11, v, g, rfl⟩ rec
    have hlt := lt_c hi
    have g1 := gA i hi
    have g2 := gB i hi
    have s1 := sn i
    have a1 := ap i
    have bl := tab_len i (c + m) E
    have bt : List.take i (tab i (c + m) E) = tab i (c + m) E := take_len_g _ bl.symm
    have l1 := rowf_len c (A i)
    have l2 := rowf_len m (B i)
    have l3 := rowf_len (c + m) (E i)
    have t1 : List.take c (rowf c (A i)) = rowf c (A i) := take_len_g _ l1.symm
    have t3 : List.take (c + m) (rowf (c + m) (E i)) = rowf (c + m) (E i) := take_len_g _ l3.symm
    have lim1 : c ≤ 2513169434916 := by omega
    have lim2 : c + m ≤ 2513169434916 := by omega
    have hlim : i < 5864062014805 := by omega
    have hi6 : i < 9223372036854775807 := by omega
    generalize rowf (c + m) (E i) = Re at *
    generalize rowf c (A i) = Ra at *
    generalize rowf m (B i) = Rb at *
    generalize tab i (c + m) E = T1 at *
    generalize tab (i + 1) (c + m) E = T2 at *
    have hw := i64_nat hi6
    clear gA gB ap sn
    refine go3 ?_
    exact rec _ ⟨_, _, _, rfl⟩
  · rintro s ⟨j11, v, g, rfl⟩
    have hlt : ¬ ((n : Int) < (n : Int)) := nlt_c
    have bl := tab_len n (c + m) E
    have bt : List.take n (tab n (c + m) E) = tab n (c + m) E := take_len_g _ bl.symm
    generalize tab n (c + m) E = T1 at *
    clear gA gB ap sn
    refine go3 ?_
    trivial
theorem s_rWhy {n c m K : Nat} {A B : Mt} (hn : n ≤ 100) (hc : c ≤ 100) (hm : m ≤ 100) (h0 : n = 0 → c = 0 ∧ m = 0) (hK : 1 ≤ K) (hA : ∀ r, r < n → ∀ y, y < c → Lq (A r y) ≤ K) (hB : ∀ r, r < n → ∀ y, y < c + m → Lq (bsd c A B r y) ≤ K) (hb : K * 5 ^ n < 1000000) :
    CP (CL F) 54 [rT (tab n c A), rT (tab n m B)] = some (.tup [eI (grun n A c).2.1.length, .lst (ui (ivl (freeP (grun n A c).2.1 c))), .bool (decide ((grun n A c).2.1.length < (grun n (bsd c A B) (c + m)).2.1.length))]) := by
  refine CP_X (F := F) (f := 54) rfl rfl ?_
  have k1 := s_refReduce (by omega) (by omega) (fun h => (h0 h).1) hK hA hb
  have k2 := s_rBeside (n := n) (c := c) (m := m) (A := A) (B := B) (by omega) (by omega) (by omega)
  have k3 := s_refReduce (by omega) (by omega) (fun h => by obtain ⟨a, b⟩ := h0 h; omega) hK hB hb
  have k4 : CP (CL F) 41 [rT (tab n c A)] = some (eI c) := by
    have := s_Wide (tab n c A)
    rcases Nat.eq_zero_or_pos n with e | e
    · subst e; rw [(h0 rfl).1] at *; exact this
    · rwa [tab_wide e] at this
  have pl := ivl_len (grun n A c).2.1
  have ple := (grun_RR n A c).le
  have pl2 := ivl_len (grun n (bsd c A B) (c + m)).2.1
  generalize (grun n A c).2.1 = piv at *
  generalize (grun n (bsd c A B) (c + m)).2.1 = piv2 at *
  generalize tab n c (grun n A c).1 = SA at *
  generalize tab n (c + m) (grun n (bsd c A B) (c + m)).1 = SB at *
  generalize tab n (c + m) (bsd c A B) = TAB at *
  generalize tab n c A = TA at *
  generalize tab n m B = TB at *
  have gp : ∀ i, i < piv.length → (ui (ivl piv))[i]? = some (eI (piv.getD i default : Nat)) := fun i hi => by
    have : (ivl piv)[i]? = some ((piv.getD i default : Nat) : Int) := by
      unfold ivl
      rw [List.getElem?_map, List.getElem?_eq_getElem hi]
      simp [List.getD, List.getElem?_eq_getElem hi]
    unfold ui
    rw [List.getElem?_map, this]
    rfl
  obtain ⟨cl, hcl⟩ : ∃ cl : Bool, cl = decide (piv.length < piv2.length) := ⟨_, rfl⟩
  rw [← hcl]
  have d0 : decide ((piv.length : Int) < (piv2.length : Int)) = cl := by rw [hcl]; simp
  clear hcl hA hB h0 hb hK
  refine go3 ?_
  clear k1 k2 k3
  refine X_up c (fun j s => ∃ j13 j14 j31 j37 j49 v g, s = ⟨[(0, rT TA), (1, rT TB), (4, eI 0), (5, .nil), (6, .bool false), (8, .lst (ui (ivl piv))), (10, .lst (ui (ivl piv2))), (11, .ref 0 v 1 0 (freeP piv j).length), (12, eI j), (13, j13), (14, j14), (31, j31), (37, j37), (49, j49)], some ⟨v, 1, ui (ivl (freeP piv j))⟩ :: g⟩) ?_ ?_ 0 (Nat.zero_le _) _ ⟨_, _, _, _, _, _, [], rfl⟩
  · rintro j s hj ⟨j13, j14, j31, j37, j49, v, g, rfl⟩ rec
    have hlt := lt_c hj
    have hfs := freeP_succ piv j
    have hj6 : j < 9223372036854775807 := by omega
    have hflen : (freeP piv j).length ≤ j := by
      have := List.length_filter_le (fun j => decide (j ∉ piv)) (List.range j)
      rw [List.length_range] at this
      exact this
    clear d0
    refine go3 ?_
    refine X_up piv.length (fun i s => ∃ j37, s = ⟨[(0, rT TA), (1, rT TB), (4, eI 0), (5, .nil), (6, .bool false), (8, .lst (ui (ivl piv))), (10, .lst (ui (ivl piv2))), (11, .ref 0 v 1 0 (freeP piv j).length), (12, eI j), (13, .bool (decide (j ∉ piv.take i))), (14, eI i), (31, .bool true), (37, j37), (49, j49)], some ⟨v, 1, ui (ivl (freeP piv j))⟩ :: g⟩) ?_ ?_ 0 (Nat.zero_le _) _ ⟨_, by simp; rfl⟩
    · clear rec hfs k4
      rintro i s hi ⟨j37, rfl⟩ rec2
      have hlt2 := lt_c hi
      have q1 := gp i hi
      have hts := take_succ_getD piv i hi
      have hi6 : i < 9223372036854775807 := by omega
      by_cases h1 : j ∈ piv.take i
      · have e1 : decide (j ∉ piv.take i) = false := decide_eq_false fun h => h h1
        have e2 : decide (j ∉ piv.take (i + 1)) = false := decide_eq_false fun h => h (by rw [hts]; exact List.mem_append_left _ h1)
        rw [e1]
        rw [e2] at rec2
        have hw := i64_nat hi6
        clear gp h1 e1 e2 hts hflen
        refine go3 ?_
        exact rec2 _ ⟨_, rfl⟩
      · have e1 : decide (j ∉ piv.take i) = true := decide_eq_true h1
        rw [e1]
        by_cases h2 : piv.getD i default = j
        · have e2 : decide (j ∉ piv.take (i + 1)) = false := decide_eq_false fun h => h (by rw [hts, h2]; simp)
          rw [e2] at rec2
          have c1 := eq_true (show (((piv.getD i default : Nat) : Int) = (j : Int)) by omega)
          have hw := i64_nat hi6
          generalize piv.getD i default = pi at *
          clear gp h1 e1 e2 hts hflen h2
          refine go3 ?_
          exact rec2 _ ⟨_, rfl⟩
        · have e2 : decide (j ∉ piv.take (i + 1)) = true := decide_eq_true (by
            rw [hts, List.mem_append, List.mem_singleton]
            rintro (h | h)
            · exact h1 h
            · exact h2 h.symm)
          rw [e2] at rec2
          have c1 := eq_false (show ¬ (((piv.getD i default : Nat) : Int) = (j : Int)) by omega)
          have hw := i64_nat hi6
          generalize piv.getD i default = pi at *
          clear gp h1 e1 e2 hts hflen h2
          refine go3 ?_
          exact rec2 _ ⟨_, rfl⟩
    · rintro s ⟨j37, rfl⟩
      have hlt2 : ¬ ((piv.length : Int) < (piv.length : Int)) := nlt_c
      rw [List.take_length]
      by_cases hmem : j ∈ piv
      · rw [decide_eq_false fun h => h hmem]
        rw [if_pos hmem] at hfs
        rw [hfs] at rec
        have hw := i64_nat hj6
        clear hmem hflen gp
        refine go3 ?_
        exact rec _ ⟨_, _, _, _, _, _, _, rfl⟩
      · rw [decide_eq_true hmem]
        rw [if_neg hmem] at hfs
        rw [hfs] at rec
        have z3 := ivl_snoc (freeP piv j) j
        have z2 := ivl_len (freeP piv j)
        have z4 : List.take (freeP piv j).length (ivl (freeP piv j)) = ivl (freeP piv j) := take_len_g _ z2.symm
        have z5 : (freeP piv j ++ [j]).length = (freeP piv j).length + 1 := by simp
        have hlim : (freeP piv j).length < 17592186044416 := by omega
        have hlim2 : (freeP piv j).length + 1 < 17592186044416 := by omega
        have hw := i64_nat hj6
        generalize freeP piv j = f at *
        clear hmem hflen gp
        refine go3 ?_
        exact rec _ ⟨_, _, _, _, _, _, _, by rw [z3, z5]⟩
  · rintro s ⟨j13, j14, j31, j37, j49, v, g, rfl⟩
    have hlt : ¬ ((c : Int) < (c : Int)) := nlt_c
    have z2 := ivl_len (freeP piv c)
    have z4 : List.take (freeP piv c).length (ivl (freeP piv c)) = ivl (freeP piv c) := take_len_g _ z2.symm
    generalize freeP piv c = f at *
    clear gp
    refine go3 ?_
    trivial
structure In16 (p q : List (List Rat)) (n c m : Nat) (A B : Mt) : Prop where
  hp : p = tab n c A
  hq : q = tab n m B
  h0 : n = 0 → c = 0 ∧ m = 0
  hA : ∀ r, r < n → ∀ y, y < c → Lq (A r y) ≤ 1
  hB : ∀ r, r < n → ∀ y, y < m → Lq (B r y) ≤ 1
theorem In16.mk' {p q : List (List Rat)} (h : shp16 p q false = true) (hp : ∀ r ∈ p, ∀ x ∈ r, Lq x ≤ 1) (hq : ∀ r ∈ q, ∀ x ∈ r, Lq x ≤ 1) : In16 p q p.length (wide p) (wide q) (ent p) (ent q) := by
  obtain ⟨m1, m2, hl, _⟩ := shp16_iff.1 h
  have e1 := (may_iff.1 m1).2.2
  have e2 := (may_iff.1 m2).2.2
  refine ⟨(tab_of e1).symm, ?_, fun h => ?_, ent_size hp e1, ?_⟩
  · rw [← hl]; exact (tab_of e2).symm
  · have a : p = [] := List.eq_nil_of_length_eq_zero h
    have b : q = [] := List.eq_nil_of_length_eq_zero (by omega)
    rw [a, b]
    exact ⟨rfl, rfl⟩
  · rw [← hl]; exact ent_size hq e2
theorem In16.hAB {p q : List (List Rat)} {n c m : Nat} {A B : Mt} (I : In16 p q n c m A B) : ∀ r, r < n → ∀ y, y < c + m → Lq (bsd c A B r y) ≤ 1 := fun r hr y hy => by
  unfold bsd
  split
  · next h => exact I.hA r hr y h
  · exact I.hB r hr _ (by omega)
theorem GB_le {n c K M : Nat} {A : Mt} (hK : 1 ≤ K) (hA : ∀ r, r < n → ∀ y, y < c → Lq (A r y) ≤ K) (h : K * 5 ^ n ≤ M) : GB n c M A := fun j hj => by
  obtain ⟨g1, g2⟩ := grun_GB hK hA j hj
  exact ⟨fun r hr y hy => Nat.le_trans (g1 r hr y hy) h, Nat.le_trans g2 h⟩
set_option maxHeartbeats 2000000
theorem law_SolveWhy {t : List (List XQ)} (ht : ∀ l ∈ t, ∀ x ∈ l, x.ok) {u' : List (List XQ)} (hu : ∀ l ∈ u', ∀ x ∈ l, x.ok) : CP (CL F) 9 [.lst (em eXL t), .lst (em eXL u')] = some (.bool true) := by
  refine CP_X (F := F) (f := 9) rfl rfl ?_
  obtain ⟨p, p1, p2, p3⟩ := s_Few12 ht (most := 4) (by decide)
  replace p3 : CP (CL F) 11 [.lst (em eXL t), eI 4] = some (.tup [eT p, rT p]) := p3
  obtain ⟨q, q1, q2, q3⟩ := s_Few12 hu (most := 4) (by decide)
  replace q3 : CP (CL F) 11 [.lst (em eXL u'), eI 4] = some (.tup [eT q, rT q]) := q3
  have lp : p.length ≤ 4 := by omega
  have lq : q.length ≤ 4 := by omega
  have wp : ∀ l : List (List Rat), (∀ r ∈ l, r.length ≤ 4 ∧ ∀ x ∈ r, Lq x ≤ 1) → wide l ≤ 4 := fun l h => by
    unfold wide
    cases l with
    | nil => simp
    | cons r l => exact (h r (List.mem_cons_self ..)).1
  have w1 := wp p p2
  have w2 := wp q q2
  have k1 := s_Check (t := p) (by omega)
  have k2 := s_Check (t := q) (by omega)
  have w := s_works16
  clear wp
  cases hs : shp16 p q false with
  | false =>
    have y1 := s_Why_bad (a := p) (b := q) (by omega) (by omega) hs
    have h00 : wrap64 (0 + 0) = 0 := by rw [show (0 : Int) + 0 = 0 from rfl, w64 (by omega) (by omega)]
    cases h1 : may p with
    | false =>
      rw [h1, if_neg (by decide)] at k1
      clear hs h1 k2 p1 p2 q1 q2 ht hu
      refine go3 ?_
      trivial
    | true =>
      rw [h1, if_pos rfl] at k1
      cases h2 : may q with
      | false =>
        rw [h2, if_neg (by decide)] at k2
        clear hs h1 h2 p1 p2 q1 q2 ht hu
        refine go3 ?_
        trivial
      | true =>
        rw [h2, if_pos rfl] at k2
        have hl : q.length ≠ p.length := fun h => by
          rw [shp16_iff.2 ⟨h1, h2, h, fun h => by cases h⟩] at hs
          cases hs
        have c0 := eq_false (show ¬ ((q.length : Int) = (p.length : Int)) by omega)
        clear hs h1 h2 p1 p2 q1 q2 hl ht hu
        refine go3 ?_
        trivial
  | true =>
    obtain ⟨m1, m2, hl, _⟩ := shp16_iff.1 hs
    rw [m1, if_pos rfl] at k1
    rw [m2, if_pos rfl] at k2
    have I := In16.mk' hs (fun r hr => (p2 r hr).2) (fun r hr => (q2 r hr).2)
    have c0 := eq_true (show ((q.length : Int) = (p.length : Int)) by omega)
    generalize ent p = A at *
    generalize ent q = B at *
    generalize hn : p.length = n at *
    generalize wide p = c at *
    generalize wide q = m at *
    have hpow : 1 * 5 ^ n ≤ 625 := by
      have : 5 ^ n ≤ 5 ^ 4 := Nat.pow_le_pow_right (by decide) lp
      omega
    have y1 := s_Why (n := n) (c := c) (m := m) (A := A) (B := B) (by omega) (by omega) (by omega) I.h0 (M := 625) (by decide) (GB_le (Nat.le_refl 1) I.hA hpow) (GB_le (Nat.le_refl 1) I.hAB hpow)
    have y2 := s_rWhy (n := n) (c := c) (m := m) (A := A) (B := B) (K := 1) (by omega) (by omega) (by omega) I.h0 (Nat.le_refl 1) I.hA I.hAB (by omega)
    rw [← I.hp, ← I.hq] at y1 y2
    have hflen : (freeP (grun n A c).2.1 c).length ≤ c := by
      have := List.length_filter_le (fun j => decide (j ∉ (grun n A c).2.1)) (List.range c)
      rw [List.length_range] at this
      exact this
    have si := s_SameInts (ivl (freeP (grun n A c).2.1 c)) (by rw [ivl_len]; omega)
    generalize ivl (freeP (grun n A c).2.1 c) = fr at *
    generalize (grun n A c).2.1.length = r1 at *
    generalize decide (r1 < (grun n (bsd c A B) (c + m)).2.1.length) = cl at *
    have ql : q.length = n := hl
    clear hs m1 m2 I p1 p2 q1 q2 hpow hflen ht hu hl
    refine go3 ?_
    trivial
end Go.S

end
