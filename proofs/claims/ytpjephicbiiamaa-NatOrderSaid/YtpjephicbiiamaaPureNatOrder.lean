/- nat.Cmp is an order (it turns round with its arguments, tells the same just of the same, and goes on from number to number), and sums keep it: for all limbs that come in (24 of each are looked at). -/
import Derived.Test.YtpjephicbiiamaaF0
import Derived.Test.YtpjephicbiiamaaF3
import Derived.Test.YtpjephicbiiamaaF5
import Derived.Test.YtpjephicbiiamaaE
namespace Go.Proofs.Ytpjephicbiiamaa.Pure
set_option linter.unusedVariables false
set_option linter.unusedSimpArgs false
open Go Go.RowKit Go.Proofs.YtpjephicbiiamaaW.PrintWords Go.Proofs.YtpjephicbiiamaaW.PrintLast Go.Proofs.YtpjephicbiiamaaW.PrintMore Go.Proofs.Ytpjephicbiiamaa.F Go.Proofs.Ytpjephicbiiamaa.A Go.Proofs.Ytpjephicbiiamaa.B

theorem works_ev : Ev (fun k => triviumlaw02_works.f k) true := Ev.of (fun k => triviumlaw02_works.mono k) (k := 10) (by decide +kernel)
theorem dg_eq_iff {x y : Int} (hx : 0 ≤ x) (hy : 0 ≤ y) : (dg B x = dg B y) ↔ x = y := ⟨fun h => dg_inj hB hx hy h, fun h => by rw [h]⟩
theorem NatOrder : triviumlaw02_NatOrder.Pure := by
  intro l0 l1 l2 hm0 hl0 hw0 hm1 hl1 hw1 hm2 hl2 hw2
  refine Ev.rounds ?_
  unfold triviumlaw02_NatOrder.f
  have hx := cl_nonneg l0 24
  have hy := cl_nonneg l1 24
  have hz := cl_nonneg l2 24
  have a1 := bnd_len hB hx (cl_bnd l0 24)
  have b1 := bnd_len hB hy (cl_bnd l1 24)
  have c1 := bnd_len hB hz (cl_bnd l2 24)
  refine ev_bind works_ev (ev_pos rfl (ev_bind (clean_ev l0 24 (fun x h => (wf_u64 (hw0 x h)).1) (by omega)) (ev_bind (clean_ev l1 24 (fun x h => (wf_u64 (hw1 x h)).1) (by omega)) (ev_bind (clean_ev l2 24 (fun x h => (wf_u64 (hw2 x h)).1) (by omega)) ?_))))
  have hx1 := cl_bnd l0 24
  have hy1 := cl_bnd l1 24
  have hz1 := cl_bnd l2 24
  generalize cl l0 24 = x at *
  generalize cl l1 24 = y at *
  generalize cl l2 24 = z at *
  have hxz : (dg B (x + z)).length < 1099511627776 := by
    have := bnd_len hB (show 0 ≤ x + z by omega) (K := 32 * 24 + 1) (by rw [bnd_succ]; omega)
    omega
  refine ev_bind (cmp_ev hx hy (by omega)) (ev_bind (cmp_ev hy hz (by omega)) (ev_bind (cmp_ev hx hz (by omega)) (ev_bind (cmp_ev hy hx (by omega)) (ev_pos ?_ (ev_bind (same_ev _ _ (by omega)) (ev_neg ?_ ?_))))))
  · have e1 : cmpI x y = -cmpI y x := by unfold cmpI; split <;> split <;> (try split) <;> omega
    rw [w64 (by unfold cmpI; split <;> (try split) <;> omega) (by unfold cmpI; split <;> (try split) <;> omega)]
    exact e1
  · have e2 : (cmpI x y == 0) = decide (dg B x = dg B y) := by
      by_cases h : x = y
      · subst h; simp [cmpI]
      · have h1 : ¬ dg B x = dg B y := fun h2 => h ((dg_eq_iff hx hy).1 h2)
        have h3 : cmpI x y ≠ 0 := by unfold cmpI; split <;> (try split) <;> omega
        simp [h1, h3]
    rw [e2]; simp
  · have key : Ev (fun k => triviumlaw02_NatOrder.j0 k (dg B x) (dg B y) (dg B z) (cmpI x y) false) true := by
      refine ev_succ ?_
      simp only [triviumlaw02_NatOrder.j0]
      refine ev_neg (by simp) (ev_bind (add_ev hx hz (by omega) (by omega)) (ev_bind (add_ev hy hz (by omega) (by omega)) (ev_bind (cmp_ev (by omega) (by omega) (by omega)) (ev_now ?_))))
      have : cmpI (x + z) (y + z) = cmpI x y := by unfold cmpI; split <;> split <;> (try split) <;> (try split) <;> omega
      rw [this]; simp
    refine ev_ite (fun h1 => ev_ite (fun h2 => ?_) (fun h2 => key)) (fun h1 => key)
    have : decide (cmpI x z > 0) = false := by
      apply decide_eq_false
      unfold cmpI at *
      revert h1 h2
      split <;> split <;> split <;> (try split) <;> (try split) <;> (try split) <;> omega
    rw [this]; exact key
end Go.Proofs.Ytpjephicbiiamaa.Pure
