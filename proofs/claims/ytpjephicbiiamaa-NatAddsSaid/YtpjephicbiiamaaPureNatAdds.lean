/- nat.Cmp, nat.Add and nat.Sum answer for any numbers what the document's answer does: for all limbs that come in (24 of each are looked at). -/
import Derived.Test.YtpjephicbiiamaaF0
import Derived.Test.YtpjephicbiiamaaF3
import Derived.Test.YtpjephicbiiamaaF5
import Derived.Test.YtpjephicbiiamaaF6
import Derived.Test.YtpjephicbiiamaaE
namespace Go.Proofs.Ytpjephicbiiamaa.Pure
set_option linter.unusedVariables false
set_option linter.unusedSimpArgs false
open Go Go.RowKit Go.Proofs.YtpjephicbiiamaaW.PrintWords Go.Proofs.YtpjephicbiiamaaW.PrintLast Go.Proofs.YtpjephicbiiamaaW.PrintMore Go.Proofs.Ytpjephicbiiamaa.F Go.Proofs.Ytpjephicbiiamaa.A Go.Proofs.Ytpjephicbiiamaa.B

theorem works_ev : Ev (fun k => triviumlaw02_works.f k) true := Ev.of (fun k => triviumlaw02_works.mono k) (k := 10) (by decide +kernel)
theorem sum3_ev {x y z : Int} (hx : 0 ≤ x) (hy : 0 ≤ y) (hz : 0 ≤ z) (h1 : (dg B x).length < 1099511627776) (h2 : (dg B y).length < 1099511627776) (h3 : (dg B z).length < 1099511627776) (h4 : (dg B (x + y)).length < 1099511627776) :
    Ev (fun k => nat_Sum.f k [dg B x, dg B y, dg B z]) (dg B (x + y + z)) := by
  unfold nat_Sum.f
  have e0 : ([] : List Int) = dg B 0 := (dg_zero B).symm
  rw [e0]
  refine ev_succ ?_
  simp only [nat_Sum.l0]
  refine ev_pos (by simp) (ev_pos (by omega) (ev_pos (by simp) (ev_bind (a := dg B x) ?_ ?_)))
  · have := add_ev (Int.le_refl 0) hx (by rw [dg_zero]; simp) h1
    rwa [Int.zero_add] at this
  refine ev_succ ?_
  simp (disch := omega) only [nat_Sum.l0, w64]
  refine ev_pos (by simp) (ev_pos (by omega) (ev_pos (by simp) (ev_bind (add_ev hx hy h1 h2) ?_)))
  refine ev_succ ?_
  simp (disch := omega) only [nat_Sum.l0, w64]
  refine ev_pos (by simp) (ev_pos (by omega) (ev_pos (by simp) (ev_bind (add_ev (by omega) hz h4 h3) ?_)))
  refine ev_succ ?_
  simp (disch := omega) only [nat_Sum.l0, w64]
  exact ev_neg (by simp) (ev_now rfl)
theorem sum0_ev : Ev (fun k => nat_Sum.f k []) [] := by
  unfold nat_Sum.f
  refine ev_succ ?_
  simp only [nat_Sum.l0]
  exact ev_neg (by simp) (ev_now rfl)
theorem NatAdds : triviumlaw02_NatAdds.Pure := by
  intro l0 l1 l2 hm0 hl0 hw0 hm1 hl1 hw1 hm2 hl2 hw2
  refine Ev.rounds ?_
  unfold triviumlaw02_NatAdds.f
  have hx := cl_nonneg l0 24
  have hy := cl_nonneg l1 24
  have hz := cl_nonneg l2 24
  have hx1 := cl_bnd l0 24
  have hy1 := cl_bnd l1 24
  have hz1 := cl_bnd l2 24
  refine ev_bind (clean_ev l0 24 (fun x h => (wf_u64 (hw0 x h)).1) (by omega)) (ev_bind (clean_ev l1 24 (fun x h => (wf_u64 (hw1 x h)).1) (by omega)) (ev_bind (clean_ev l2 24 (fun x h => (wf_u64 (hw2 x h)).1) (by omega)) ?_))
  generalize cl l0 24 = x at *
  generalize cl l1 24 = y at *
  generalize cl l2 24 = z at *
  have a1 := bnd_len hB hx hx1
  have b1 := bnd_len hB hy hy1
  have c1 := bnd_len hB hz hz1
  have a2 := bnd_len hD hx hx1
  have b2 := bnd_len hD hy hy1
  have c2 := bnd_len hD hz hz1
  have s : x + y < bnd (32 * 24 + 1) := by rw [bnd_succ]; omega
  have t : x + y + z < bnd (32 * 24 + 2) := by rw [bnd_succ, bnd_succ]; omega
  have s1 := bnd_len hB (show 0 ≤ x + y by omega) s
  have s2 := bnd_len hD (show 0 ≤ x + y by omega) s
  have t1 := bnd_len hB (show 0 ≤ x + y + z by omega) t
  have t2 := bnd_len hD (show 0 ≤ x + y + z by omega) t
  refine ev_bind (of_ev hx (by omega)) (ev_bind (of_ev hy (by omega)) (ev_bind (of_ev hz (by omega)) (ev_bind (cmp_ev hx hy (by omega)) (ev_bind (rcmp_ev hx hy (by omega)) (ev_pos rfl ?_)))))
  refine ev_bind (add_ev hx hy (by omega) (by omega)) (ev_bind (radd_ev hx hy (by omega) (by omega)) (ev_bind (back_ev (by omega) (by omega)) (ev_bind (same_ev _ _ (by omega)) (ev_pos (by simp) ?_))))
  refine ev_bind (sum3_ev hx hy hz (by omega) (by omega) (by omega) (by omega)) (ev_bind (radd_ev hx hy (by omega) (by omega)) (ev_bind (radd_ev (by omega) hz (by omega) (by omega)) (ev_bind (back_ev (by omega) (by omega)) (ev_bind (same_ev _ _ (by omega)) (ev_pos (by simp) ?_)))))
  exact ev_bind sum0_ev (ev_pos (by rfl) (ev_bind works_ev (ev_now rfl)))
end Go.Proofs.Ytpjephicbiiamaa.Pure
