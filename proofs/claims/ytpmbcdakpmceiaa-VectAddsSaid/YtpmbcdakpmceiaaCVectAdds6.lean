/- A part of the proof of the law VectAdds: an abstract machine for the functions' code with its soundness, words, lemmas (assembled by a program). -/
import Derived.Test.YtpmbcdakpmceiaaCVectAdds5
set_option linter.unusedVariables false
set_option linter.unusedSimpArgs false
set_option linter.unusedSectionVars false
section
set_option linter.unusedVariables false
set_option linter.unusedSimpArgs false
set_option maxRecDepth 100000
namespace Go.S
open Go Go.AM Go.RowKit Go.K
theorem mem_lessR {a b : List Rat} {k q : Rat} (h : q ∈ lessR a k b) : ∃ x ∈ a, ∃ y ∈ b, q = x - k * y := by
  unfold lessR at h
  obtain ⟨i, hi, rfl⟩ := List.getElem_of_mem h
  rw [List.getElem_zipWith]
  exact ⟨_, List.getElem_mem _, _, List.getElem_mem _, rfl⟩
theorem law_VectAdds {a b : List XQ} {k : XQ} (ha : ∀ x ∈ a, x.ok) (hb : ∀ x ∈ b, x.ok) (hk : k.ok) : CP (CL F) 6 [.lst (em eX a), .lst (em eX b), eX k] = some (.bool true) := by
  refine CP_X (F := F) (f := 6) rfl rfl ?_
  obtain ⟨p, p1, p2, p3⟩ := s_Few ha (most := 8) (by decide)
  obtain ⟨q, q1, q2, q3⟩ := s_Few hb (most := 8) (by decide)
  obtain ⟨c, c1, c2⟩ := s_r08_CleanX hk (m := 1) (by decide) (by decide)
  replace p3 : CP (CL F) 16 [.lst (em eX a), eI 8] = some (.tup [eR p, rR p]) := p3
  replace q3 : CP (CL F) 16 [.lst (em eX b), eI 8] = some (.tup [eR q, rR q]) := q3
  replace c2 : CP (CL F) 17 [eX k, eI 1] = some (eQ c) := c2
  have lp : p.length ≤ 8 := by omega
  have lq : q.length ≤ 8 := by omega
  have x1 := @cells_eX
  have x2 := @agg_eX
  have x3 := @fz_eX
  have x4 := @us_eX
  have x5 := @shut_eX
  have w := s_works11
  have n0 := s_vect_Add_none'
  have n1 := s_vect_Scale (l := p) (c := c) (by omega) (M := 1) (by decide) p2 (by omega)
  have n2 := s_r08_Of (q := c) (by omega)
  have n3 := s_r11_Scale (l := p) (c := c) (by omega) (M := 1) (by decide) p2 (by omega)
  have n4 := s_Is (a := p.map (· * c)) (q := p.map (· * c)) (by simp; omega) (fun x hx => by obtain ⟨y, hy, rfl⟩ := List.mem_map.1 hx; have := Lq_mul y c; have := p2 y hy; omega) (fun x hx => by obtain ⟨y, hy, rfl⟩ := List.mem_map.1 hx; have := Lq_mul y c; have := p2 y hy; omega)
  rw [if_pos rfl] at n4
  have e2 := em2 (f := eR) p q
  have sz : ∀ d : Rat, Lq d ≤ 1 → ∀ x ∈ lessR p d q, Lq x < 100000000 := fun d hd x hx => by
    obtain ⟨y, hy, z, hz, rfl⟩ := mem_lessR hx
    have h1 := p2 y hy
    have h2 := q2 z hz
    have := Lq_mul d z
    have := Lq_sub y (d * z)
    omega
  by_cases hl : p.length = q.length
  · have a1 := s_vect_Add (r0 := p) (rs := [q]) (by omega) (by simp) (by simp; omega) (M := 1) p2 (by simpa using q2) (by simp)
    rw [show sumR p [q] = addR p q from rfl] at a1
    have a2 := s_vect_Less (a := p) (b := q) (k := c) (by omega) (by omega) (M := 1) (by decide) p2 q2 c1
    have m1 := s_r08_Int (n := -1) (by decide) (by decide)
    have hm1 : Lq ((-1 : Int) : Rat) ≤ 1 := by have := Lq_int (-1); have := L_small (x := -1) (by decide); omega
    have m2 := s_r11_Less (a := p) (b := q) (c := ((-1 : Int) : Rat)) (by omega) (by omega) (M := 1) (by decide) p2 q2 hm1
    have m3 := s_r11_Less (a := p) (b := q) (c := c) (by omega) (by omega) (M := 1) (by decide) p2 q2 c1
    have k1 := s_Is (a := lessR p c q) (q := lessR p c q) (by simp [lessR]; omega) (sz c c1) (sz c c1)
    rw [if_pos rfl] at k1
    have hadd : addR p q = lessR p ((-1 : Int) : Rat) q := by
      unfold addR lessR; congr 1; funext x y; rw [show ((-1 : Int) : Rat) = -1 from rfl]; grind
    have k2 := s_Is (a := lessR p ((-1 : Int) : Rat) q) (q := lessR p ((-1 : Int) : Rat) q) (by simp [lessR]; omega) (sz _ hm1) (sz _ hm1)
    rw [if_pos rfl] at k2
    rw [hadd] at a1
    have hl1 : ¬ ((p.length : Int) ≠ (q.length : Int)) := by omega
    have hl2 : (p.length : Int) = (q.length : Int) := by omega
    clear p1 p2 q1 q2 c1 lp lq sz hm1 hl ha hb hk hadd
    refine go3 ?_
    trivial
  · have a1 := s_vect_Add_bad (a := p) (b := q) (by omega) (by omega)
    have hw0 : wrap64 (0 + 0) = 0 := by unfold wrap64; rfl
    have a2 := s_vect_Less_bad (a := p) (b := q) (k := c) (by omega) (by omega) (by omega) (M := 1) (by decide) q2 c1
    have hl1 : ((p.length : Int) ≠ (q.length : Int)) := by omega
    have hl2 : ¬ (p.length : Int) = (q.length : Int) := by omega
    clear p1 p2 q1 q2 c1 lp lq sz hl ha hb hk
    refine go3 ?_
    trivial
end Go.S

end
