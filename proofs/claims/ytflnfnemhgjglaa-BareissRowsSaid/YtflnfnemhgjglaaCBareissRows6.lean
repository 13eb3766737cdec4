/- A part of the proof of the law BareissRows: an abstract machine for the functions' code with its soundness, words, lemmas (assembled by a program). -/
import Derived.Test.YtflnfnemhgjglaaCBareissRows5
set_option linter.unusedVariables false
set_option linter.unusedSimpArgs false
set_option linter.unusedSectionVars false
section
set_option linter.unusedVariables false
set_option linter.unusedSimpArgs false
set_option maxRecDepth 100000
namespace Go.S
open Go Go.AM Go.RowKit Go.K
theorem fewz_len (most : Nat) (t : List (List XZ)) : (fewz most t).length ≤ most := by unfold fewz; simp; omega
theorem fewz_row {most : Nat} {t : List (List XZ)} {r : List Int} (h : r ∈ fewz most t) : r.length ≤ most ∧ ∀ z ∈ r, L z ≤ 2 := by
  unfold fewz at h
  obtain ⟨l, _, rfl⟩ := List.mem_map.1 h
  refine ⟨by simp; omega, fun z hz => ?_⟩
  obtain ⟨x, _, rfl⟩ := List.mem_map.1 hz
  exact clz_L x
theorem getD_out {α : Type} {l : List α} {i : Nat} {d : α} (h : l.length ≤ i) : l.getD i d = d := by rw [List.getD_eq_getElem?_getD, List.getElem?_eq_none h]; rfl
theorem eng_size {t : List (List Int)} {K : Nat} (h : ∀ r ∈ t, ∀ z ∈ r, L z ≤ K) (i j : Nat) : L (eng t i j) ≤ K := by
  unfold eng
  by_cases hi : i < t.length
  · have hm := getD_mem (l := t) hi
    by_cases hj : j < (t.getD i default).length
    · exact h _ hm _ (getD_mem hj)
    · rw [show (t.getD i default).getD j default = 0 from getD_out (by omega), L_zero]; omega
  · have e : t.getD i default = [] := getD_out (by omega)
    rw [e]
    show L 0 ≤ K
    rw [L_zero]; omega
theorem zB_4 {n : Nat} (h : n ≤ 6) : 2 + zB 2 n < 10000000 ∧ zB 2 n < 1000000 := by
  match n, h with
  | 0, _ => decide
  | 1, _ => decide
  | 2, _ => decide
  | 3, _ => decide
  | 4, _ => decide
  | 5, _ => decide
  | 6, _ => decide
theorem two_pow_6 {n : Nat} (h : n ≤ 6) : 2 ^ n * (2 + 2) < 100000000 := by
  have : 2 ^ n ≤ 2 ^ 6 := Nat.pow_le_pow_right (by decide) h
  omega
end Go.S

end
section
set_option linter.unusedVariables false
set_option linter.unusedSimpArgs false
set_option maxRecDepth 100000
namespace Go.S
open Go Go.AM Go.RowKit Go.K
theorem zdet_swz {n : Nat} {A : Zt} {i j : Nat} (h : i ≠ j) (hi : i < n) (hj : j < n) : zdet n (swz A i j) = -zdet n A := by
  refine zinj ?_
  rw [Rat.intCast_neg, zdet_cast, zdet_cast]
  exact det_swp (A := zq A) h hi hj
theorem zdet_more {n : Nat} {A : Zt} {i j : Nat} (h : i ≠ j) (hi : i < n) (hj : j < n) : zdet n (setg A i fun y => A i y + A j y) = zdet n A := by
  refine zinj ?_
  rw [zdet_cast, zdet_cast, ← det_more (A := zq A) 1 h hi hj]
  refine det_congr fun r c _ _ => ?_
  show (((setg A i fun y => A i y + A j y) r c : Int) : Rat) = setr (zq A) i (fun c => zq A i c + 1 * zq A j c) r c
  unfold setg setr zq
  split
  · rw [Rat.intCast_add]; grind
  · rfl
theorem s_AmongZ {x : Int} {m : Nat} (hm : 0 < m) (hm2 : m < 1000000) : ∃ k : Nat, k < m ∧ CP (CL F) 15 [eI x, eI m] = some (eI k) := by
  obtain ⟨w, hw⟩ : ∃ w : Nat, IntKind.u64.wrap x = w := ⟨(IntKind.u64.wrap x).toNat, by
    have : 0 ≤ IntKind.u64.wrap x := by rw [wu64_mod]; omega
    omega⟩
  refine ⟨w % m, Nat.mod_lt _ hm, ?_⟩
  refine CP_X (F := F) (f := 15) rfl rfl ?_
  have h1 : ¬ ((m : Int) < 1) := by omega
  have h2 : (m : Int) ≠ 0 := by omega
  have h3 : ¬ (m : Int) = 0 := by omega
  have w2 : IntKind.u64.wrap (m : Int) = m := wu64 (by omega) (by omega)
  have w3 : Int.tmod (w : Int) (m : Int) = ((w % m : Nat) : Int) := rfl
  have w4 : wrap64 (((w % m : Nat) : Int)) = ((w % m : Nat) : Int) := by
    have := Nat.mod_lt w hm
    exact w64 (by omega) (by omega)
  refine go3 ?_
  trivial
theorem mapM_set {f : AV → Option AV} {xs ys : List AV} (h : xs.mapM f = some ys) {i : Nat} {x y : AV} (hx : f x = some y) : (xs.set i x).mapM f = some (ys.set i y) := by
  induction xs generalizing ys i with
  | nil =>
    cases h
    rfl
  | cons a xs ih =>
    rw [List.mapM_cons] at h
    cases ha : f a with
    | none => rw [ha] at h; cases h
    | some a' =>
      cases hb : xs.mapM f with
      | none => rw [ha, hb] at h; cases h
      | some ys' =>
        rw [ha, hb] at h
        cases h
        cases i with
        | zero => rw [List.set_cons_zero, List.mapM_cons, hx, hb]; rfl
        | succ i => rw [List.set_cons_succ, List.mapM_cons, ha, ih hb]; rfl
theorem flatMap_set_nil {f : AV → List Nat} {xs : List AV} (h : ∀ x ∈ xs, f x = []) {i : Nat} (hi : i < xs.length) (x : AV) : (xs.set i x).flatMap f = f x := by
  induction xs generalizing i with
  | nil => simp at hi
  | cons a xs ih =>
    cases i with
    | zero =>
      rw [List.set_cons_zero, List.flatMap_cons]
      rw [List.flatMap_eq_nil_iff.2 fun y hy => h y (List.mem_cons_of_mem _ hy), List.append_nil]
    | succ i =>
      rw [List.set_cons_succ, List.flatMap_cons, h a (List.mem_cons_self ..), List.nil_append]
      exact ih (fun y hy => h y (List.mem_cons_of_mem _ hy)) (by simpa using hi)
theorem z_rows_mapM (h : Heap) (m : Nat) (T : List (List Int)) : (em eRZ T).mapM (Go.AM.frz h (m + 2)) = some (em eRZ T) := by
  rw [mapM_some (G := fun x => x) _ fun x hx => by
    obtain ⟨r, _, rfl⟩ := List.mem_map.1 hx
    rfl]
  simp
theorem fz_mix {h : Heap} {T : List (List Int)} {i n w v id : Nat} {r : List Int} (hb : blk h id v = some ⟨v, 2, em eZ r⟩) (hr : r.length = n) (hT : T.length = n) :
    fzR (Go.AM.frz h 6) (some (some ⟨w, 1, (em eRZ T).set i (.ref id v 2 0 n)⟩)) w 0 n = some (eTZ (T.set i r)) := by
  show (if w = w then ((sub ((em eRZ T).set i (.ref id v 2 0 n)) 0 n).mapM (Go.AM.frz h 6)).map AV.lst else none) = _
  rw [if_pos rfl]
  have e : sub ((em eRZ T).set i (.ref id v 2 0 n)) 0 n = (em eRZ T).set i (.ref id v 2 0 n) := by
    unfold sub
    rw [List.drop_zero]
    exact List.take_of_length_le (by rw [List.length_set, em_len]; omega)
  have e1 : Go.AM.frz h 6 (.ref id v 2 0 n) = some (eRZ r) := by
    show (blk h id v).bind (fun b => ((sub b.xs 0 n).mapM (Go.AM.frz h 5)).map AV.lst) = _
    rw [hb]
    show ((sub (em eZ r) 0 n).mapM (Go.AM.frz h 5)).map AV.lst = _
    rw [← hr, sub_full, mapM_some (G := fun x => x) _ fun x hx => by
      obtain ⟨z, _, rfl⟩ := List.mem_map.1 hx
      exact (frz_plain1 (n := 3) (E_eZ.pl z)).1]
    simp
  rw [e, mapM_set (z_rows_mapM h 4 T) e1, show (em eRZ T).set i (eRZ r) = em eRZ (T.set i r) from em_set T i r]
  rfl
theorem us_mix {h : Heap} {T : List (List Int)} {i n w v id j : Nat} {r : List Int} (hb : blk h id v = some ⟨v, 2, em eZ r⟩) (hT : T.length = n) (hi : i < n) :
    usR (used h 6) (some (some ⟨w, 1, (em eRZ T).set i (.ref id v 2 0 n)⟩)) j w 0 n = [j, id] := by
  show j :: (if w = w then (sub ((em eRZ T).set i (.ref id v 2 0 n)) 0 n).flatMap (used h 6) else []) = _
  rw [if_pos rfl]
  have e : sub ((em eRZ T).set i (.ref id v 2 0 n)) 0 n = (em eRZ T).set i (.ref id v 2 0 n) := by
    unfold sub
    rw [List.drop_zero]
    exact List.take_of_length_le (by rw [List.length_set, em_len]; omega)
  have e1 : used h 6 (.ref id v 2 0 n) = [id] := by
    show id :: (match blk h id v with | some b => (sub b.xs 0 n).flatMap (used h 5) | none => []) = _
    rw [hb]
    show id :: (sub (em eZ r) 0 n).flatMap (used h 5) = _
    rw [List.flatMap_eq_nil_iff.2 fun x hx => by
      obtain ⟨z, _, rfl⟩ := List.mem_map.1 (List.mem_of_mem_drop (List.mem_of_mem_take hx))
      exact (frz_plain1 (n := 3) (E_eZ.pl z)).2]
  rw [e, flatMap_set_nil (fun x hx => by
    obtain ⟨z, _, rfl⟩ := List.mem_map.1 hx
    rfl) (by rw [em_len]; omega), e1]
theorem law_BareissRows {t : List (List XZ)} (ht : ∀ l ∈ t, ∀ x ∈ l, x.ok) {p : Int} (hp0 : (Lit.int .i64 p).wf = true) {q : Int} (hq0 : (Lit.int .i64 q).wf = true) : CP (CL F) 4 [.lst (em eXZL t), eI p, eI q] = some (.bool true) := by
  refine CP_X (F := F) (f := 4) rfl rfl ?_
  have f1 := s_Few15 ht (most := 5) (by decide)
  replace f1 : CP (CL F) 7 [.lst (em eXZL t), eI 5] = _ := f1
  have fl := fewz_len 5 t
  have fr := fun r (h : r ∈ fewz 5 t) => fewz_row h
  generalize fewz 5 t = a at *
  have w := s_works15
  by_cases hs : ∀ r ∈ a, r.length = a.length
  · have ea := (tbg_of hs).symm
    have hA : ∀ i j, L (eng a i j) ≤ 2 := eng_size fun r hr => (fr r hr).2
    generalize eng a = A at *
    generalize hn : a.length = n at *
    have d1 := s_bDet (n := n) (A := A) (K := 2) (by omega) (fun i _ j _ => hA i j) (two_pow_6 (by omega))
    rw [← ea] at d1
    by_cases h2 : n < 2
    · have c1 : ((n : Int) < 2) := by omega
      clear fr hs hA ea fl h2
      refine go3 ?_
      trivial
    · have c1 : ¬ ((n : Int) < 2) := by omega
      obtain ⟨i, hi, m1⟩ := s_AmongZ (x := p) (m := n) (by omega) (by omega)
      obtain ⟨j, hj, m2⟩ := s_AmongZ (x := q) (m := n) (by omega) (by omega)
      by_cases hij : i = j
      · subst hij
        clear fr hs hA ea fl h2
        refine go3 ?_
        trivial
      · have c2 : ¬ ((i : Int) = (j : Int)) := by omega
        have c3 := lt_c hi
        have c4 := lt_c hj
        have hz := zdet_size (K := 2) n (A := A) fun i _ j _ => hA i j
        have hb := (zB_4 (n := n) (by omega)).2
        have g1 := em_getN (f := eRZ) (tbg n n A) i (by rw [tbg_len]; omega)
        have g2 := em_getN (f := eRZ) (tbg n n A) j (by rw [tbg_len]; omega)
        rw [tbg_get hi, ← ea] at g1
        rw [tbg_get hj, ← ea] at g2
        have gi : ∀ y, y < n → (em eZ (rwg n (A i)))[y]? = some (eZ (A i y)) := fun y hy => by
          have := em_getN (f := eZ) (rwg n (A i)) y (by rw [rwg_len]; exact hy)
          rwa [rwg_get hy] at this
        have gj : ∀ y, y < n → (em eZ (rwg n (A j)))[y]? = some (eZ (A j y)) := fun y hy => by
          have := em_getN (f := eZ) (rwg n (A j)) y (by rw [rwg_len]; exact hy)
          rwa [rwg_get hy] at this
        have sb : (a.set i (rwg n (A j))).set j (rwg n (A i)) = tbg n n (swz A i j) := by
          rw [ea, tbg_set hi, tbg_set hj]
          refine congrArg (tbg n n) ?_
          funext x
          unfold setg swz
          by_cases h1 : x = j
          · subst h1; rw [if_pos rfl, if_neg (Ne.symm hij), if_pos rfl]
          · rw [if_neg h1]
            by_cases h2 : x = i
            · subst h2; rw [if_pos rfl, if_pos rfl]
            · rw [if_neg h2, if_neg h2, if_neg h1]
        have sc : a.set i (rwg n fun y => A i y + A j y) = tbg n n (setg A i fun y => A i y + A j y) := by rw [ea, tbg_set hi]
        have d2 := s_bDet (n := n) (A := swz A i j) (K := 2) (by omega) (fun x _ y _ => hA _ y) (two_pow_6 (by omega))
        have hpow : 2 ^ n * (3 + 2) < 100000000 := by
          have : 2 ^ n ≤ 2 ^ 6 := Nat.pow_le_pow_right (by decide) (by omega)
          omega
        have d3 := s_bDet (n := n) (A := setg A i fun y => A i y + A j y) (K := 3) (by omega) (fun x _ y _ => by
          unfold setg
          split
          · have := L_add (A i y) (A j y)
            have := hA i y
            have := hA j y
            show L (A i y + A j y) ≤ 3
            omega
          · have := hA x y
            omega) hpow
        rw [zdet_swz hij hi hj] at d2
        rw [zdet_more hij hi hj] at d3
        have k1 := s_whole_Neg (z := zdet n A) (by omega)
        have k2 := s_whole_Cmp (x := -zdet n A) (y := -zdet n A) (by rw [L_neg]; omega) (by rw [L_neg]; omega)
        have k3 := s_whole_Cmp (x := zdet n A) (y := zdet n A) (by omega) (by omega)
        have cz : ∀ z : Int, cmpI z z = 0 := fun z => by unfold cmpI; split <;> (try split) <;> omega
        rw [cz] at k2 k3
        have hadd : ∀ y, y < n → CP (CL F) 16 [eZ (A i y), eZ (A j y)] = some (eZ (A i y + A j y)) := fun y _ => s_whole_Add (by have := hA i y; omega) (by have := hA j y; omega)
        have ri := rwg_len n (A i)
        have rj := rwg_len n (A j)
        have an : a.isEmpty = false := by cases a with | nil => simp at hn; omega | cons => rfl
        have ane : (em eRZ a).isEmpty = false := by cases a with | nil => simp at hn; omega | cons => rfl
        have lim : n ≤ 5864062014805 := by omega
        have at1 : List.take n a = a := take_len_g _ hn.symm
        have g3 : (em eRZ (a.set i (rwg n (A j))))[j]? = some (eRZ (rwg n (A j))) := by
          rw [← em_set, List.getElem?_set_ne hij]; exact g2
        have y1 : ∀ x, ((em eRZ a).set i x)[i]? = some x := fun x => List.getElem?_set_self (by rw [em_len]; omega)
        have y2 : ∀ x y, ((em eRZ a).set i x).set i y = (em eRZ a).set i y := fun x y => List.set_set ..
        clear fr hs hA h2 hz hb cz hpow ht ea
        refine go3 ?_
        refine X_up n (fun k s => ∃ j81 v g, s = ⟨[(0, .lst (em eXZL t)), (1, eI i), (2, eI j), (6, .bool false), (7, eTZ a), (9, .ptr 0 0 0 0), (10, eI 0), (11, .ref 1 1 1 0 n), (12, .ref 2 1 1 0 n), (13, eI k), (14, .undef), (15, .undef), (16, .undef), (17, .undef), (19, .bool false), (36, .bool false), (53, .bool false), (81, j81)], some ⟨0, 2, [eZ (zdet n A)]⟩ :: some ⟨1, 1, em eRZ (tbg n n (swz A i j))⟩ :: some ⟨1, 1, (em eRZ a).set i (.ref 3 v 2 0 k)⟩ :: some ⟨v, 2, em eZ (rwg k fun y => A i y + A j y)⟩ :: g⟩) ?_ ?_ 0 (Nat.zero_le _) _ ⟨_, _, [], rfl⟩
        · rintro k s hk ⟨j81, v, g, rfl⟩ rec
          have hlt := lt_c hk
          have q1 := gi k hk
          have q2 := gj k hk
          have q3 := hadd k hk
          have s1 := rwg_snoc k fun y => A i y + A j y
          have bl := rwg_len k fun y => A i y + A j y
          have bt : List.take k (rwg k fun y => A i y + A j y) = rwg k fun y => A i y + A j y := take_len_g _ bl.symm
          have hlim : k < 4398046511104 := by omega
          have hw := i64_nat (n := k) (by omega)
          generalize (rwg k fun y => A i y + A j y) = R at *
          generalize (rwg (k + 1) fun y => A i y + A j y) = R' at *
          generalize A i k + A j k = z at *
          clear gi gj hadd d1 d2 d3 k1 k2 k3 sb sc
          refine go3 ?_
          exact rec _ ⟨_, _, _, rfl⟩
        · rintro s ⟨j81, v, g, rfl⟩
          have hlt : ¬ ((n : Int) < (n : Int)) := nlt_c
          have fm := fun x0 x1 g => fz_mix (h := x0 :: x1 :: some ⟨1, 1, (em eRZ a).set i (.ref 3 v 2 0 n)⟩ :: some ⟨v, 2, em eZ (rwg n fun y => A i y + A j y)⟩ :: g) (T := a) (i := i) (w := 1) (id := 3) (v := v) (r := rwg n fun y => A i y + A j y) (by unfold blk; exact if_pos rfl) (rwg_len _ _) hn
          have um := fun x0 x1 g k => us_mix (h := x0 :: x1 :: some ⟨1, 1, (em eRZ a).set i (.ref 3 v 2 0 n)⟩ :: some ⟨v, 2, em eZ (rwg n fun y => A i y + A j y)⟩ :: g) (T := a) (i := i) (w := 1) (id := 3) (v := v) (j := k) (r := rwg n fun y => A i y + A j y) (by unfold blk; exact if_pos rfl) hn hi
          rw [sc] at fm
          have bl := tbg_len n n (swz A i j)
          have bt : List.take n (tbg n n (swz A i j)) = tbg n n (swz A i j) := take_len_g _ bl.symm
          generalize tbg n n (swz A i j) = T2 at *
          generalize (tbg n n (setg A i fun y => A i y + A j y)) = T3 at *
          generalize (rwg n fun y => A i y + A j y) = R at *
          clear gi gj hadd sb sc
          refine go3 ?_
          trivial
  · have hb : shp a a.length = false := by
      rw [← Bool.not_eq_true, shp_iff]
      exact fun h => hs h.2.2
    have d1 := s_bDet_bad (t := a) (by omega) hb
    clear hs hb fr fl
    refine go3 ?_
    trivial
end Go.S

end
