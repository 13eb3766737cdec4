/- A part of the proof of the law BareissDets: an abstract machine for the functions' code with its soundness, words, lemmas (assembled by a program). -/
import Derived.Test.YtflnfnemhgjglaaCBareissDets5
set_option linter.unusedVariables false
set_option linter.unusedSimpArgs false
set_option linter.unusedSectionVars false
section
set_option linter.unusedVariables false
set_option linter.unusedSimpArgs false
set_option maxRecDepth 100000
namespace Go.S
open Go Go.AM Go.RowKit Go.K
theorem fewz_len (most : Nat) (t : List (List XZ)) : (fewz most t).length ≤ most := by unfold fewz; simp; omega
theorem fewz_row {most : Nat} {t : List (List XZ)} {r : List Int} (h : r ∈ fewz most t) : r.length ≤ most ∧ ∀ z ∈ r, L z ≤ 2 := by
  unfold fewz at h
  obtain ⟨l, _, rfl⟩ := List.mem_map.1 h
  refine ⟨by simp; omega, fun z hz => ?_⟩
  obtain ⟨x, _, rfl⟩ := List.mem_map.1 hz
  exact clz_L x
theorem getD_out {α : Type} {l : List α} {i : Nat} {d : α} (h : l.length ≤ i) : l.getD i d = d := by rw [List.getD_eq_getElem?_getD, List.getElem?_eq_none h]; rfl
theorem eng_size {t : List (List Int)} {K : Nat} (h : ∀ r ∈ t, ∀ z ∈ r, L z ≤ K) (i j : Nat) : L (eng t i j) ≤ K := by
  unfold eng
  by_cases hi : i < t.length
  · have hm := getD_mem (l := t) hi
    by_cases hj : j < (t.getD i default).length
    · exact h _ hm _ (getD_mem hj)
    · rw [show (t.getD i default).getD j default = 0 from getD_out (by omega), L_zero]; omega
  · have e : t.getD i default = [] := getD_out (by omega)
    rw [e]
    show L 0 ≤ K
    rw [L_zero]; omega
theorem zB_4 {n : Nat} (h : n ≤ 6) : 2 + zB 2 n < 10000000 ∧ zB 2 n < 1000000 := by
  match n, h with
  | 0, _ => decide
  | 1, _ => decide
  | 2, _ => decide
  | 3, _ => decide
  | 4, _ => decide
  | 5, _ => decide
  | 6, _ => decide
theorem two_pow_6 {n : Nat} (h : n ≤ 6) : 2 ^ n * (2 + 2) < 100000000 := by
  have : 2 ^ n ≤ 2 ^ 6 := Nat.pow_le_pow_right (by decide) h
  omega
theorem law_BareissDets {t : List (List XZ)} (ht : ∀ l ∈ t, ∀ x ∈ l, x.ok) {m : Int} (hm0 : (Lit.int .i64 m).wf = true) : CP (CL F) 3 [.lst (em eXZL t), eI m] = some (.bool true) := by
  refine CP_X (F := F) (f := 3) rfl rfl ?_
  have f1 := s_Few15 ht (most := 4) (by decide)
  replace f1 : CP (CL F) 7 [.lst (em eXZL t), eI 4] = _ := f1
  have fl := fewz_len 4 t
  have fr := fun r (h : r ∈ fewz 4 t) => fewz_row h
  generalize fewz 4 t = a at *
  have w := s_works15
  have sq := s_Square (t := a) (by omega)
  by_cases hs : ∀ r ∈ a, r.length = a.length
  · have e1 : (a.all fun r => decide (r.length = a.length)) = true := by rw [List.all_eq_true]; intro r hr; simpa using hs r hr
    rw [e1] at sq
    have ea := (tbg_of hs).symm
    have hA : ∀ i j, L (eng a i j) ≤ 2 := eng_size fun r hr => (fr r hr).2
    generalize eng a = A at *
    generalize hn : a.length = n at *
    have d1 := s_bDet (n := n) (A := A) (K := 2) (by omega) (fun i _ j _ => hA i j) (two_pow_6 (by omega))
    have d2 := s_refDet15 (K := 2) n (A := A) (by omega) (fun i _ j _ => hA i j) (zB_4 (by omega)).1
    have hz := zdet_size (K := 2) n (A := A) fun i _ j _ => hA i j
    have hb := (zB_4 (n := n) (by omega)).2
    have d3 := s_r07_Back (z := zdet n A) (by omega)
    have d4 := s_r07_Same (x := zdet n A) (y := zdet n A) (by omega)
    rw [decide_eq_true rfl] at d4
    by_cases hm : m < 0 ∨ (n : Int) < m
    · have d5 := s_Minor_bad (t := a) (m := m) (by omega) (.inr (by rw [hn]; exact hm))
      rw [← ea] at d1 d2
      clear hA fr hs hz hb e1 ea
      by_cases h1 : m < 0
      · clear hm fl
        refine go3 ?_
        trivial
      · have h2 : (n : Int) < m := by omega
        clear hm fl
        refine go3 ?_
        trivial
    · obtain ⟨k, rfl⟩ : ∃ k : Nat, m = k := ⟨m.toNat, by omega⟩
      have hk : k ≤ n := by omega
      have d5 := s_Minor (n := n) (m := k) (A := A) (K := 2) (by omega) hk (fun i _ j _ => hA i j) (two_pow_6 (by omega))
      have d6 := s_refDet15 (K := 2) k (A := A) (by omega) (fun i _ j _ => hA i j) (zB_4 (by omega)).1
      have hz2 := zdet_size (K := 2) k (A := A) fun i _ j _ => hA i j
      have hb2 := (zB_4 (n := k) (by omega)).2
      have d7 := s_r07_Back (z := zdet k A) (by omega)
      have d8 := s_r07_Same (x := zdet k A) (y := zdet k A) (by omega)
      rw [decide_eq_true rfl] at d8
      have gi : ∀ i, i < k → (em rRZ a)[i]? = some (rRZ (rwg n (A i))) := fun i hi => by
        have := em_getN (f := rRZ) (tbg n n A) i (by rw [tbg_len]; omega)
        rwa [tbg_get (by omega), ← ea] at this
      rw [← ea] at d1 d2 d5
      have c1 : ¬ ((k : Int) < 0) := by omega
      have c2 : ¬ ((n : Int) < (k : Int)) := by omega
      have c3 : ((k : Int) ≤ (n : Int)) := by omega
      clear hA fr hs hz hb hz2 hb2 e1 ea hm
      refine go3 ?_
      refine X_up k (fun i s => ∃ j68 v g, s = ⟨[(0, .lst (em eXZL t)), (1, eI k), (4, .bool false), (5, eTZ a), (6, rTZ a), (7, .ptr 0 0 0 0), (8, eI 0), (9, .ptr 1 0 0 0), (10, eI 0), (11, .ref 2 v 1 0 i), (12, eI i), (31, .bool false), (51, .bool false), (59, .bool false), (68, j68)], some ⟨0, 2, [eZ (zdet n A)]⟩ :: some ⟨0, 2, [eZ (zdet k A)]⟩ :: some ⟨v, 1, em rRZ (tbg i k A)⟩ :: g⟩) ?_ ?_ 0 (Nat.zero_le _) _ ⟨_, _, [], rfl⟩
      · rintro i s hi ⟨j68, v, g, rfl⟩ rec
        have hlt := lt_c hi
        have g1 := gi i hi
        have s1 := tbg_snoc i k A
        have r1 := rwg_take hk (A i)
        have l1 := rwg_len n (A i)
        have bl := tbg_len i k A
        have bt : List.take i (tbg i k A) = tbg i k A := take_len_g _ bl.symm
        have hlim : i < 5864062014805 := by omega
        have c4 : ((i : Int) < (n : Int)) := by omega
        have hw := i64_nat (n := i) (by omega)
        clear gi d1 d2 d3 d4 d5 d6 d7 d8 f1 sq w fl
        refine go3 ?_
        exact rec _ ⟨_, _, _, rfl⟩
      · rintro s ⟨j68, v, g, rfl⟩
        have hlt : ¬ ((k : Int) < (k : Int)) := nlt_c
        have bl := tbg_len k k A
        have bt : List.take k (tbg k k A) = tbg k k A := take_len_g _ bl.symm
        clear gi fl
        generalize tbg k k A = S at *
        refine go3 ?_
        trivial
  · have e1 : (a.all fun r => decide (r.length = a.length)) = false := by
      rw [← Bool.not_eq_true, List.all_eq_true]
      intro h
      exact hs fun r hr => by simpa using h r hr
    rw [e1] at sq
    have hb : shp a a.length = false := by
      rw [← Bool.not_eq_true, shp_iff]
      exact fun h => hs h.2.2
    have d1 := s_bDet_bad (t := a) (by omega) hb
    have d2 := s_Minor_bad (t := a) (m := m) (by omega) (.inl hb)
    clear hs e1 hb fr fl
    refine go3 ?_
    trivial
end Go.S

end
