/- nat.Sub takes any number off any other one as the document's answer does, or refuses with ErrLess where the first is the lesser one: for all limbs that come in (24 of them are looked at). -/
import Derived.Test.YtpjephicbiiamaaF0
import Derived.Test.YtpjephicbiiamaaF3
import Derived.Test.YtpjephicbiiamaaF4
import Derived.Test.YtpjephicbiiamaaE
namespace Go.Proofs.Ytpjephicbiiamaa.Pure
set_option linter.unusedVariables false
set_option linter.unusedSimpArgs false
open Go Go.RowKit Go.Proofs.YtpjephicbiiamaaW.PrintWords Go.Proofs.YtpjephicbiiamaaW.PrintLast Go.Proofs.YtpjephicbiiamaaW.PrintMore Go.Proofs.Ytpjephicbiiamaa.F Go.Proofs.Ytpjephicbiiamaa.A Go.Proofs.Ytpjephicbiiamaa.B

theorem works_ev : Ev (fun k => triviumlaw02_works.f k) true := Ev.of (fun k => triviumlaw02_works.mono k) (k := 10) (by decide +kernel)
theorem NatSubs : triviumlaw02_NatSubs.Pure := by
  intro l0 l1 hm0 hl0 hw0 hm1 hl1 hw1
  refine Ev.rounds ?_
  unfold triviumlaw02_NatSubs.f
  have hx := cl_nonneg l0 24
  have hy := cl_nonneg l1 24
  have hx1 := cl_bnd l0 24
  have hy1 := cl_bnd l1 24
  change _ < bnd 768 at hx1
  change _ < bnd 768 at hy1
  have a1 := bnd_len hB hx hx1
  have a2 := bnd_len hD hx hx1
  have b1 := bnd_len hB hy hy1
  have b2 := bnd_len hD hy hy1
  refine ev_bind (clean_ev l0 24 (fun x h => (wf_u64 (hw0 x h)).1) (by omega)) (ev_bind (clean_ev l1 24 (fun x h => (wf_u64 (hw1 x h)).1) (by omega)) ?_)
  generalize cl l0 24 = x at *
  generalize cl l1 24 = y at *
  by_cases h : x < y
  · refine ev_bind (sub_less hx h (by omega)) (ev_bind (of_ev hx (by omega)) (ev_bind (of_ev hy (by omega)) (ev_bind (rcmp_ev hx hy (by omega)) ?_)))
    refine ev_pos (by unfold cmpI; rw [if_pos h]; omega) (ev_pos (by rfl) (ev_pos (by rfl) (ev_bind works_ev (ev_now rfl))))
  · refine ev_bind (sub_ev hy (by omega) (by omega)) (ev_bind (of_ev hx (by omega)) (ev_bind (of_ev hy (by omega)) (ev_bind (rcmp_ev hx hy (by omega)) ?_)))
    have hd1 : x - y < bnd 768 := by omega
    refine ev_neg (by unfold cmpI; split <;> (try split) <;> omega) (ev_pos (by rfl) (ev_bind (of_ev hx (by omega)) (ev_bind (of_ev hy (by omega)) (ev_bind (rsub_ev hy (by omega) (by omega)) (ev_bind (back_ev (by omega) ?_) (ev_bind (same_ev _ _ ?_) ?_))))))
    · have := bnd_len hD (show 0 ≤ x - y by omega) hd1; omega
    · have := bnd_len hB (show 0 ≤ x - y by omega) hd1; dsimp only; omega
    · exact ev_pos (by simp) (ev_bind works_ev (ev_now rfl))
end Go.Proofs.Ytpjephicbiiamaa.Pure
