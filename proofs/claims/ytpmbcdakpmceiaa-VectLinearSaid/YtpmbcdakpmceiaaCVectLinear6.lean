/- A part of the proof of the law VectLinear: an abstract machine for the functions' code with its soundness, words, lemmas (assembled by a program). -/
import Derived.Test.YtpmbcdakpmceiaaCVectLinear5
set_option linter.unusedVariables false
set_option linter.unusedSimpArgs false
set_option linter.unusedSectionVars false
section
set_option linter.unusedVariables false
set_option linter.unusedSimpArgs false
set_option maxRecDepth 100000
namespace Go.S
open Go Go.AM Go.RowKit Go.K
theorem addR_getD {a b : List Rat} (h : b.length = a.length) {i : Nat} (hi : i < a.length) : (addR a b).getD i default = a.getD i default + b.getD i default := by
  unfold addR
  simp only [List.getD_eq_getElem?_getD]
  rw [List.getElem?_eq_getElem (by simp; omega), List.getElem?_eq_getElem hi, List.getElem?_eq_getElem (by omega)]
  simp
theorem dotTo_add {a b c : List Rat} (h1 : b.length = a.length) : ∀ i, i ≤ a.length → dotTo (addR a b) c i = dotTo a c i + dotTo b c i := by
  intro i
  induction i with
  | zero => intro _; show (0 : Rat) = 0 + 0; grind
  | succ i ih =>
    intro hi
    show dotTo (addR a b) c i + (addR a b).getD i default * c.getD i default = (dotTo a c i + a.getD i default * c.getD i default) + (dotTo b c i + b.getD i default * c.getD i default)
    rw [ih (by omega), addR_getD h1 (by omega)]
    grind
theorem dotTo_scale {a c : List Rat} {k : Rat} : ∀ i, i ≤ a.length → dotTo (a.map (· * k)) c i = k * dotTo a c i := by
  intro i
  induction i with
  | zero => intro _; show (0 : Rat) = k * 0; grind
  | succ i ih =>
    intro hi
    show dotTo (a.map (· * k)) c i + (a.map (· * k)).getD i default * c.getD i default = k * (dotTo a c i + a.getD i default * c.getD i default)
    rw [ih (by omega)]
    have : (a.map (· * k)).getD i default = a.getD i default * k := by
      simp only [List.getD_eq_getElem?_getD]
      rw [List.getElem?_eq_getElem (by simp; omega), List.getElem?_eq_getElem (by omega)]
      simp
    rw [this]
    grind
theorem dot_size {a b : List Rat} {M N : Nat} (hN : a.length ≤ N) (hab : b.length = a.length) (h0 : ∀ q ∈ a, Lq q ≤ M) (h1 : ∀ q ∈ b, Lq q ≤ M) : Lq (dot a b) ≤ 1 + N * (2 * M + 1) := by
  have := dotTo_size h0 h1 a.length (Nat.le_refl _) (by omega)
  have h2 : a.length * (2 * M + 1) ≤ N * (2 * M + 1) := Nat.mul_le_mul_right _ hN
  unfold dot
  omega
theorem law_VectLinear {a b c : List XQ} {k : XQ} (ha : ∀ x ∈ a, x.ok) (hb : ∀ x ∈ b, x.ok) (hc : ∀ x ∈ c, x.ok) (hk : k.ok) : CP (CL F) 4 [.lst (em eX a), .lst (em eX b), .lst (em eX c), eX k] = some (.bool true) := by
  refine CP_X (F := F) (f := 4) rfl rfl ?_
  obtain ⟨n, hn⟩ : ∃ n, n = min (min (min a.length b.length) c.length) 6 := ⟨_, rfl⟩
  have hn6 : n ≤ 6 := by omega
  obtain ⟨p, p1, p2, p3⟩ := s_Few ha (most := n) (by omega)
  obtain ⟨q, q1, q2, q3⟩ := s_Few hb (most := n) (by omega)
  obtain ⟨r, r1, r2, r3⟩ := s_Few hc (most := n) (by omega)
  have lp : p.length = n := by omega
  have lq : q.length = n := by omega
  have lr : r.length = n := by omega
  obtain ⟨d, c1, c2⟩ := s_r08_CleanX hk (m := 1) (by decide) (by decide)
  replace c2 : CP (CL F) 17 [eX k, eI 1] = some (eQ d) := c2
  have x1 := @cells_eX
  have x2 := @agg_eX
  have x3 := @fz_eX
  have x4 := @us_eX
  have x5 := @shut_eX
  have w := s_works11
  have e2 := em2 (f := eR) p q
  have hmn : mn (mn (mn (a.length : Int) (b.length : Int)) (c.length : Int)) 6 = (n : Int) := by unfold mn; (repeat' split) <;> omega
  have a1 := s_vect_Add (r0 := p) (rs := [q]) (by omega) (by simp) (by simp; omega) (M := 1) p2 (by simpa using q2) (by simp)
  rw [show sumR p [q] = addR p q from rfl] at a1
  have ls : (addR p q).length = n := by rw [addR_len (by omega)]; exact lp
  have s1 : ∀ x ∈ addR p q, Lq x ≤ 3 := fun x hx => by
    obtain ⟨y, hy, z, hz, rfl⟩ := mem_addR hx
    have := p2 y hy; have := q2 z hz; have := Lq_add y z; omega
  have up : ∀ {l : List Rat}, (∀ x ∈ l, Lq x ≤ 1) → ∀ x ∈ l, Lq x ≤ 3 := fun h x hx => by have := h x hx; omega
  have s2 : ∀ x ∈ p.map (· * d), Lq x ≤ 3 := fun x hx => by
    obtain ⟨y, hy, rfl⟩ := List.mem_map.1 hx
    have := p2 y hy; have := Lq_mul y d; omega
  have d1 := s_vect_Dot (a := addR p q) (b := r) (by omega) (by omega) (M := 3) (by decide) s1 (up r2)
  have d2 := s_vect_Dot (a := p) (b := r) (by omega) (by omega) (M := 3) (by decide) (up p2) (up r2)
  have d3 := s_vect_Dot (a := q) (b := r) (by omega) (by omega) (M := 3) (by decide) (up q2) (up r2)
  have d4 := s_vect_Scale (l := p) (c := d) (by omega) (M := 1) (by decide) p2 (by omega)
  have d5 := s_vect_Dot (a := p.map (· * d)) (b := r) (by simp; omega) (by simp; omega) (M := 3) (by decide) s2 (up r2)
  have e1 : dot (addR p q) r = dot p r + dot q r := by
    unfold dot
    rw [addR_len (by omega), dotTo_add (by omega) _ (Nat.le_refl _), show p.length = q.length by omega]
  have e3 : dot (p.map (· * d)) r = d * dot p r := by
    unfold dot
    rw [List.length_map, dotTo_scale _ (Nat.le_refl _)]
  have z2 := dot_size (a := p) (b := r) (N := 6) (M := 3) (by omega) (by omega) (up p2) (up r2)
  have z3 := dot_size (a := q) (b := r) (N := 6) (M := 3) (by omega) (by omega) (up q2) (up r2)
  have z4 := Lq_add (dot p r) (dot q r)
  have z5 := Lq_mul d (dot p r)
  rw [e1] at d1
  rw [e3] at d5
  have f1 := s_rat_Add (a := dot p r) (b := dot q r) (by omega) (by omega)
  have f2 := s_rat_Same (a := dot p r + dot q r) (b := dot p r + dot q r) (by omega)
  rw [decide_eq_true rfl] at f2
  have f3 := s_rat_Mul (a := d) (b := dot p r) (by omega) (by omega)
  have f4 := s_rat_Same (a := d * dot p r) (b := d * dot p r) (by omega)
  rw [decide_eq_true rfl] at f4
  clear p1 p2 q1 q2 r1 r2 c1 lp lq lr ls s1 s2 up z2 z3 z4 z5 e1 e3 ha hb hc hk hn hn6
  refine go3 ?_
  trivial
end Go.S

end
