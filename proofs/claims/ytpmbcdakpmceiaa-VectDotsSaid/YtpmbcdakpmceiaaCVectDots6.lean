/- A part of the proof of the law VectDots: an abstract machine for the functions' code with its soundness, words, lemmas (assembled by a program). -/
import Derived.Test.YtpmbcdakpmceiaaCVectDots5
set_option linter.unusedVariables false
set_option linter.unusedSimpArgs false
set_option linter.unusedSectionVars false
section
set_option linter.unusedVariables false
set_option linter.unusedSimpArgs false
set_option maxRecDepth 100000
namespace Go.S
open Go Go.AM Go.RowKit Go.K
theorem dot_size {a b : List Rat} {M N : Nat} (hN : a.length ≤ N) (hab : b.length = a.length) (h0 : ∀ q ∈ a, Lq q ≤ M) (h1 : ∀ q ∈ b, Lq q ≤ M) : Lq (dot a b) ≤ 1 + N * (2 * M + 1) := by
  have := dotTo_size h0 h1 a.length (Nat.le_refl _) (by omega)
  have h2 : a.length * (2 * M + 1) ≤ N * (2 * M + 1) := Nat.mul_le_mul_right _ hN
  unfold dot
  omega
theorem lead_eq {p : List Rat} {i : Nat} (h : i < p.length) (h1 : ∀ j, j < i → p.getD j default = 0) (h2 : p.getD i default ≠ 0) : lead p = i := by
  unfold lead
  rw [List.findIdx_eq h]
  refine ⟨?_, fun j hj => ?_⟩
  · rw [List.getD_eq_getElem?_getD, List.getElem?_eq_getElem h] at h2
    simp only [decide_eq_true_eq, ne_eq, sgn_num_zero]
    simpa using h2
  · have := h1 j hj
    rw [List.getD_eq_getElem?_getD, List.getElem?_eq_getElem (by omega)] at this
    simp only [decide_eq_false_iff_not, ne_eq, sgn_num_zero, Decidable.not_not]
    simpa using this
theorem lead_all {p : List Rat} (h1 : ∀ j, j < p.length → p.getD j default = 0) : lead p = p.length := by
  have := lead_le p
  apply Classical.byContradiction
  intro hn
  have hlt : lead p < p.length := by omega
  unfold lead at hlt
  rw [List.findIdx_lt_length] at hlt
  obtain ⟨x, hx, hp⟩ := hlt
  obtain ⟨j, hj, rfl⟩ := List.getElem_of_mem hx
  have := h1 j hj
  rw [List.getD_eq_getElem?_getD, List.getElem?_eq_getElem hj] at this
  simp only [decide_eq_true_eq, ne_eq, sgn_num_zero] at hp
  exact hp (by simpa using this)
theorem law_VectDots {a b : List XQ} (ha : ∀ x ∈ a, x.ok) (hb : ∀ x ∈ b, x.ok) : CP (CL F) 5 [.lst (em eX a), .lst (em eX b)] = some (.bool true) := by
  refine CP_X (F := F) (f := 5) rfl rfl ?_
  obtain ⟨p, p1, p2, p3⟩ := s_Few ha (most := 8) (by decide)
  obtain ⟨q, q1, q2, q3⟩ := s_Few hb (most := 8) (by decide)
  replace p3 : CP (CL F) 16 [.lst (em eX a), eI 8] = some (.tup [eR p, rR p]) := p3
  replace q3 : CP (CL F) 16 [.lst (em eX b), eI 8] = some (.tup [eR q, rR q]) := q3
  have lp : p.length ≤ 8 := by omega
  have lq : q.length ≤ 8 := by omega
  clear p1 q1
  have w := s_works11
  have big : ∀ {l : List Rat}, (∀ x ∈ l, Lq x ≤ 1) → ∀ x ∈ l, Lq x < 100000000 := fun h x hx => by have := h x hx; omega
  have g1 := s_vect_Greatest (l := p) (by omega) (big p2)
  have g2 := s_vect_Lead (l := p) (by omega)
  have g3 := s_vect_Same (a := p) (b := q) (by omega) (big p2)
  have g4 := s_Is (a := p) (q := q) (by omega) (big p2) (big q2)
  have g5 := s_vect_Same (a := p) (b := p) (by omega) (big p2)
  rw [decide_eq_true rfl] at g5
  have hsame : (decide (p = q) != decide ((if p = q then (1 : Int) else 0) = 1)) = false := by
    by_cases h : p = q
    · simp [h]
    · simp [h]
  obtain ⟨dv, de, hd, hd1⟩ : ∃ dv de, CP (CL F) 19 [eR p, eR q] = some (.tup [dv, eI de]) ∧ ((p.length = q.length ∧ de = 0 ∧ dv = eQ (dot p q)) ∨ (p.length ≠ q.length ∧ de = 8 ∧ dv = .agg [.bool false, .lst [], .lst []])) := by
    by_cases hl : p.length = q.length
    · exact ⟨_, _, s_vect_Dot (a := p) (b := q) (by omega) (by omega) (M := 1) (by decide) p2 q2, .inl ⟨hl, rfl, rfl⟩⟩
    · exact ⟨_, _, s_vect_Dot_bad (a := p) (b := q) (by omega), .inr ⟨hl, rfl, rfl⟩⟩
  have hdv1 : okE 3 dv = true := by rcases hd1 with ⟨_, _, rfl⟩ | ⟨_, _, rfl⟩ <;> rfl
  have hdv2 : AV.agg (cells dv) = dv := by rcases hd1 with ⟨_, _, rfl⟩ | ⟨_, _, rfl⟩ <;> rfl
  have hdv3 : (cells dv).length = 3 := by rcases hd1 with ⟨_, _, rfl⟩ | ⟨_, _, rfl⟩ <;> rfl
  have hdv4 : List.drop 3 (cells dv) = [] := by rcases hd1 with ⟨_, _, rfl⟩ | ⟨_, _, rfl⟩ <;> rfl
  have hdv5 : (cells dv).all okCell = true := by rcases hd1 with ⟨_, _, rfl⟩ | ⟨_, _, rfl⟩ <;> rfl
  refine go3 ?_
  refine X_cut (fun e s => e = .exit 0 ∧ ∃ j40, s = ⟨[(0, eR p), (1, eR q), (4, .bool false), (5, rR p), (6, rR q), (7, .ptr 0 0 0 0), (8, eI de), (9, eI (lead p)), (10, .undef), (11, .undef), (12, .undef), (13, .undef), (40, j40), (51, .undef), (63, .undef), (74, .undef), (94, .undef), (99, .undef)], [some ⟨0, 3, [dv]⟩]⟩) ?_ ?_
  · refine X_upto p.length (fun i s => (∀ j, j < i → p.getD j default = 0) ∧ ∃ j40, s = ⟨[(0, eR p), (1, eR q), (4, .bool false), (5, rR p), (6, rR q), (7, .ptr 0 0 0 0), (8, eI de), (9, eI i), (10, .undef), (11, .undef), (12, .undef), (13, .undef), (40, j40), (51, .undef), (63, .undef), (74, .undef), (94, .undef), (99, .undef)], [some ⟨0, 3, [dv]⟩]⟩) ?_ 0 (Nat.zero_le _) _ ⟨fun j hj => by omega, _, rfl⟩
    rintro i s hi ⟨hz, j40, rfl⟩ rec
    clear hd1 hsame hdv1 hdv2 hdv3 hdv4 hdv5 g1 g2 g3 g4 g5 w p3 q3 hd
    by_cases h1 : i < p.length
    · have h1' := lt_c h1
      have e1 := em_getN (f := rQ) p i h1
      have e2 := s_r08_Zero (p.getD i default)
      by_cases h2 : p.getD i default = 0
      · rw [decide_eq_true h2] at e2
        have hnext : ∀ j, j < i + 1 → p.getD j default = 0 := fun j hj => by
          rcases Nat.lt_or_ge j i with h | h
          · exact hz j h
          · have : j = i := by omega
            subst this; exact h2
        have hw := i64_nat (n := i) (by omega)
        clear hz ha hb h2
        refine go3 ?_
        exact rec _ h1 ⟨hnext, _, rfl⟩
      · rw [decide_eq_false h2] at e2
        have hl := lead_eq h1 hz h2
        clear hz ha hb h2 rec
        refine go3 ?_
        first | exact ⟨rfl, _, rfl⟩ | exact ⟨_, rfl⟩
    · have h1' : ¬ ((i : Int) < (p.length : Int)) := by omega
      have hip : i = p.length := by omega
      have h1'' : ¬ ((p.length : Int) < (p.length : Int)) := nlt_c
      have hl := lead_all (p := p) (fun j hj => hz j (by omega))
      rw [← hip] at hl
      clear hz ha hb rec h1
      refine go3 ?_
      first | exact ⟨rfl, _, rfl⟩ | exact ⟨_, rfl⟩
  · rintro e s ⟨rfl, j40, rfl⟩
    refine go3 ?_
    refine X_up p.length (fun i s => ∃ j51 j63, s = ⟨[(0, eR p), (1, eR q), (4, .bool false), (5, rR p), (6, rR q), (7, .ptr 0 0 0 0), (8, eI de), (9, eI (lead p)), (10, eI (bestTo p p.length)), (11, .bool (decide ((0 : Int) < (p.length : Int)))), (12, eI (bestTo p i)), (13, eI i), (40, j40), (51, j51), (63, j63), (74, .undef), (94, .undef), (99, .undef)], [some ⟨0, 3, [dv]⟩]⟩) ?_ ?_ 0 (Nat.zero_le _) _ ⟨_, _, rfl⟩
    · rintro i s hi ⟨j51, j63, rfl⟩ rec
      clear hd1 hsame hdv1 hdv2 hdv3 hdv4 hdv5 g1 g2 g3 g4 g5 w p3 q3 hd ha hb
      have hlt := lt_c hi
      have hb := (bestTo_lt p i hi).1
      have hb0 : (0 : Int) ≤ (bestTo p i : Int) := by omega
      have hb1 := lt_c hb
      have g1 := em_getN (f := rQ) p i hi
      have g2 := em_getN (f := rQ) p (bestTo p i) hb
      have hc := s_r08_Cmp (a := p.getD i default) (b := p.getD (bestTo p i) default) (by have := p2 _ (getD_mem (l := p) (i := i) hi); omega) (by have := p2 _ (getD_mem (l := p) (i := bestTo p i) hb); omega)
      have hw := i64_nat (n := i) (by omega)
      by_cases hp : 0 < cmpQ (p.getD i default) (p.getD (bestTo p i) default)
      · have hn : bestTo p (i + 1) = i := by rw [bestTo, if_pos hp]
        clear p2 q2 big
        refine go3 ?_
        refine rec _ ⟨_, _, by rw [hn]⟩
      · have hn : bestTo p (i + 1) = bestTo p i := by rw [bestTo, if_neg hp]
        clear p2 q2 big
        refine go3 ?_
        refine rec _ ⟨_, _, by rw [hn]⟩
    · rintro s ⟨j51, j63, rfl⟩
      have hlt : ¬ ((p.length : Int) < (p.length : Int)) := nlt_c
      have hne : (decide ((0 : Int) < (p.length : Int)) != decide ((0 : Int) < (p.length : Int))) = false := by simp
      by_cases hl : p.length = q.length
      · obtain ⟨-, rfl, rfl⟩ : p.length = q.length ∧ de = 0 ∧ dv = eQ (dot p q) := by
          rcases hd1 with h | h
          · exact h
          · exact absurd hl h.1
        have hl1 : ¬ ((p.length : Int) ≠ (q.length : Int)) := by omega
        have hl2 : (q.length : Int) = (p.length : Int) := by omega
        have z1 := dot_size (a := p) (b := q) (N := 8) (M := 1) (by omega) (by omega) p2 q2
        have k1 := s_r11_Dot (a := p) (b := q) (by omega) (by omega) (M := 1) (by decide) p2 q2
        have k2 := s_r08_Back (q := dot p q) (by omega)
        have k3 := s_r08_Same (a := dot p q) (b := dot p q) (by omega)
        rw [decide_eq_true rfl] at k3
        clear hd1 hdv1 hdv2 hdv3 hdv4 hdv5 p2 q2 ha hb big z1 lp lq hl
        refine go3 ?_
        trivial
      · obtain ⟨-, rfl, rfl⟩ : p.length ≠ q.length ∧ de = 8 ∧ dv = .agg [.bool false, .lst [], .lst []] := by
          rcases hd1 with h | h
          · exact absurd h.1 hl
          · exact h
        have hl1 : ((p.length : Int) ≠ (q.length : Int)) := by omega
        have hl2 : ¬ (p.length : Int) = (q.length : Int) := by omega
        clear hd1 hdv1 hdv2 hdv3 hdv4 hdv5 p2 q2 ha hb big lp lq hl
        refine go3 ?_
        trivial
end Go.S

end
