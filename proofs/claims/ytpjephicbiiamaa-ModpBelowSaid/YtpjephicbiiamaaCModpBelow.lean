/- What the Go code does, function by function: out of my run of the printer (wip/mp.py), mended by wip/post.py. -/
import Derived.Test.YtpjephicbiiamaaRows
import Derived.WalkKit
import Derived.ProofKit
import Derived.OpenShut
import Derived.ShutString
import Derived.ChangeOld
import Derived.Below
import Derived.SizedLaws
import Derived.Test.YtpjephicbiiamaaCModpBelow5
import Derived.Test.YtpjephicbiiamaaCModpBelow6
import Derived.Test.YtpjephicbiiamaaCModpBelow7
import Derived.Test.YtpjephicbiiamaaCModpBelow8
import Derived.Test.YtpjephicbiiamaaCModpBelow9
import Derived.Test.YtpjephicbiiamaaCModpBelow10
import Derived.Test.YtpjephicbiiamaaCModpBelow11
set_option linter.unusedVariables false
set_option linter.unusedSimpArgs false
set_option linter.unusedSectionVars false
section
namespace Go.Proofs.Ytpjephicbiiamaa.Y
theorem gap {n : Nat} (h : 2 < n) (hle : n ≤ 4294967296) : ∃ q, Pr q ∧ q < n ∧ n ≤ q + 400 := by
  by_cases s : n ≤ 402
  · exact ⟨2, pr2, h, by omega⟩
  by_cases s0 : n ≤ 65900
  · exact gl_says (by decide) PR_pr (by decide) _ 65900 _ (by decide) grun_small n (by omega) s0
  by_cases s72 : n ≤ 34967296
  · exact gl_says (by decide) RR_pr (by decide) _ 34967296 _ (by decide) grun71 n (by omega) s72
  by_cases s71 : n ≤ 94967296
  · exact gl_says (by decide) RR_pr (by decide) _ 94967296 _ (by decide) grun70 n (by omega) s71
  by_cases s70 : n ≤ 154967296
  · exact gl_says (by decide) RR_pr (by decide) _ 154967296 _ (by decide) grun69 n (by omega) s70
  by_cases s69 : n ≤ 214967296
  · exact gl_says (by decide) RR_pr (by decide) _ 214967296 _ (by decide) grun68 n (by omega) s69
  by_cases s68 : n ≤ 274967296
  · exact gl_says (by decide) RR_pr (by decide) _ 274967296 _ (by decide) grun67 n (by omega) s68
  by_cases s67 : n ≤ 334967296
  · exact gl_says (by decide) RR_pr (by decide) _ 334967296 _ (by decide) grun66 n (by omega) s67
  by_cases s66 : n ≤ 394967296
  · exact gl_says (by decide) RR_pr (by decide) _ 394967296 _ (by decide) grun65 n (by omega) s66
  by_cases s65 : n ≤ 454967296
  · exact gl_says (by decide) RR_pr (by decide) _ 454967296 _ (by decide) grun64 n (by omega) s65
  by_cases s64 : n ≤ 514967296
  · exact gl_says (by decide) RR_pr (by decide) _ 514967296 _ (by decide) grun63 n (by omega) s64
  by_cases s63 : n ≤ 574967296
  · exact gl_says (by decide) RR_pr (by decide) _ 574967296 _ (by decide) grun62 n (by omega) s63
  by_cases s62 : n ≤ 634967296
  · exact gl_says (by decide) RR_pr (by decide) _ 634967296 _ (by decide) grun61 n (by omega) s62
  by_cases s61 : n ≤ 694967296
  · exact gl_says (by decide) RR_pr (by decide) _ 694967296 _ (by decide) grun60 n (by omega) s61
  by_cases s60 : n ≤ 754967296
  · exact gl_says (by decide) RR_pr (by decide) _ 754967296 _ (by decide) grun59 n (by omega) s60
  by_cases s59 : n ≤ 814967296
  · exact gl_says (by decide) RR_pr (by decide) _ 814967296 _ (by decide) grun58 n (by omega) s59
  by_cases s58 : n ≤ 874967296
  · exact gl_says (by decide) RR_pr (by decide) _ 874967296 _ (by decide) grun57 n (by omega) s58
  by_cases s57 : n ≤ 934967296
  · exact gl_says (by decide) RR_pr (by decide) _ 934967296 _ (by decide) grun56 n (by omega) s57
  by_cases s56 : n ≤ 994967296
  · exact gl_says (by decide) RR_pr (by decide) _ 994967296 _ (by decide) grun55 n (by omega) s56
  by_cases s55 : n ≤ 1054967296
  · exact gl_says (by decide) RR_pr (by decide) _ 1054967296 _ (by decide) grun54 n (by omega) s55
  by_cases s54 : n ≤ 1114967296
  · exact gl_says (by decide) RR_pr (by decide) _ 1114967296 _ (by decide) grun53 n (by omega) s54
  by_cases s53 : n ≤ 1174967296
  · exact gl_says (by decide) RR_pr (by decide) _ 1174967296 _ (by decide) grun52 n (by omega) s53
  by_cases s52 : n ≤ 1234967296
  · exact gl_says (by decide) RR_pr (by decide) _ 1234967296 _ (by decide) grun51 n (by omega) s52
  by_cases s51 : n ≤ 1294967296
  · exact gl_says (by decide) RR_pr (by decide) _ 1294967296 _ (by decide) grun50 n (by omega) s51
  by_cases s50 : n ≤ 1354967296
  · exact gl_says (by decide) RR_pr (by decide) _ 1354967296 _ (by decide) grun49 n (by omega) s50
  by_cases s49 : n ≤ 1414967296
  · exact gl_says (by decide) RR_pr (by decide) _ 1414967296 _ (by decide) grun48 n (by omega) s49
  by_cases s48 : n ≤ 1474967296
  · exact gl_says (by decide) RR_pr (by decide) _ 1474967296 _ (by decide) grun47 n (by omega) s48
  by_cases s47 : n ≤ 1534967296
  · exact gl_says (by decide) RR_pr (by decide) _ 1534967296 _ (by decide) grun46 n (by omega) s47
  by_cases s46 : n ≤ 1594967296
  · exact gl_says (by decide) RR_pr (by decide) _ 1594967296 _ (by decide) grun45 n (by omega) s46
  by_cases s45 : n ≤ 1654967296
  · exact gl_says (by decide) RR_pr (by decide) _ 1654967296 _ (by decide) grun44 n (by omega) s45
  by_cases s44 : n ≤ 1714967296
  · exact gl_says (by decide) RR_pr (by decide) _ 1714967296 _ (by decide) grun43 n (by omega) s44
  by_cases s43 : n ≤ 1774967296
  · exact gl_says (by decide) RR_pr (by decide) _ 1774967296 _ (by decide) grun42 n (by omega) s43
  by_cases s42 : n ≤ 1834967296
  · exact gl_says (by decide) RR_pr (by decide) _ 1834967296 _ (by decide) grun41 n (by omega) s42
  by_cases s41 : n ≤ 1894967296
  · exact gl_says (by decide) RR_pr (by decide) _ 1894967296 _ (by decide) grun40 n (by omega) s41
  by_cases s40 : n ≤ 1954967296
  · exact gl_says (by decide) RR_pr (by decide) _ 1954967296 _ (by decide) grun39 n (by omega) s40
  by_cases s39 : n ≤ 2014967296
  · exact gl_says (by decide) RR_pr (by decide) _ 2014967296 _ (by decide) grun38 n (by omega) s39
  by_cases s38 : n ≤ 2074967296
  · exact gl_says (by decide) RR_pr (by decide) _ 2074967296 _ (by decide) grun37 n (by omega) s38
  by_cases s37 : n ≤ 2134967296
  · exact gl_says (by decide) RR_pr (by decide) _ 2134967296 _ (by decide) grun36 n (by omega) s37
  by_cases s36 : n ≤ 2194967296
  · exact gl_says (by decide) RR_pr (by decide) _ 2194967296 _ (by decide) grun35 n (by omega) s36
  by_cases s35 : n ≤ 2254967296
  · exact gl_says (by decide) RR_pr (by decide) _ 2254967296 _ (by decide) grun34 n (by omega) s35
  by_cases s34 : n ≤ 2314967296
  · exact gl_says (by decide) RR_pr (by decide) _ 2314967296 _ (by decide) grun33 n (by omega) s34
  by_cases s33 : n ≤ 2374967296
  · exact gl_says (by decide) RR_pr (by decide) _ 2374967296 _ (by decide) grun32 n (by omega) s33
  by_cases s32 : n ≤ 2434967296
  · exact gl_says (by decide) RR_pr (by decide) _ 2434967296 _ (by decide) grun31 n (by omega) s32
  by_cases s31 : n ≤ 2494967296
  · exact gl_says (by decide) RR_pr (by decide) _ 2494967296 _ (by decide) grun30 n (by omega) s31
  by_cases s30 : n ≤ 2554967296
  · exact gl_says (by decide) RR_pr (by decide) _ 2554967296 _ (by decide) grun29 n (by omega) s30
  by_cases s29 : n ≤ 2614967296
  · exact gl_says (by decide) RR_pr (by decide) _ 2614967296 _ (by decide) grun28 n (by omega) s29
  by_cases s28 : n ≤ 2674967296
  · exact gl_says (by decide) RR_pr (by decide) _ 2674967296 _ (by decide) grun27 n (by omega) s28
  by_cases s27 : n ≤ 2734967296
  · exact gl_says (by decide) RR_pr (by decide) _ 2734967296 _ (by decide) grun26 n (by omega) s27
  by_cases s26 : n ≤ 2794967296
  · exact gl_says (by decide) RR_pr (by decide) _ 2794967296 _ (by decide) grun25 n (by omega) s26
  by_cases s25 : n ≤ 2854967296
  · exact gl_says (by decide) RR_pr (by decide) _ 2854967296 _ (by decide) grun24 n (by omega) s25
  by_cases s24 : n ≤ 2914967296
  · exact gl_says (by decide) RR_pr (by decide) _ 2914967296 _ (by decide) grun23 n (by omega) s24
  by_cases s23 : n ≤ 2974967296
  · exact gl_says (by decide) RR_pr (by decide) _ 2974967296 _ (by decide) grun22 n (by omega) s23
  by_cases s22 : n ≤ 3034967296
  · exact gl_says (by decide) RR_pr (by decide) _ 3034967296 _ (by decide) grun21 n (by omega) s22
  by_cases s21 : n ≤ 3094967296
  · exact gl_says (by decide) RR_pr (by decide) _ 3094967296 _ (by decide) grun20 n (by omega) s21
  by_cases s20 : n ≤ 3154967296
  · exact gl_says (by decide) RR_pr (by decide) _ 3154967296 _ (by decide) grun19 n (by omega) s20
  by_cases s19 : n ≤ 3214967296
  · exact gl_says (by decide) RR_pr (by decide) _ 3214967296 _ (by decide) grun18 n (by omega) s19
  by_cases s18 : n ≤ 3274967296
  · exact gl_says (by decide) RR_pr (by decide) _ 3274967296 _ (by decide) grun17 n (by omega) s18
  by_cases s17 : n ≤ 3334967296
  · exact gl_says (by decide) RR_pr (by decide) _ 3334967296 _ (by decide) grun16 n (by omega) s17
  by_cases s16 : n ≤ 3394967296
  · exact gl_says (by decide) RR_pr (by decide) _ 3394967296 _ (by decide) grun15 n (by omega) s16
  by_cases s15 : n ≤ 3454967296
  · exact gl_says (by decide) RR_pr (by decide) _ 3454967296 _ (by decide) grun14 n (by omega) s15
  by_cases s14 : n ≤ 3514967296
  · exact gl_says (by decide) RR_pr (by decide) _ 3514967296 _ (by decide) grun13 n (by omega) s14
  by_cases s13 : n ≤ 3574967296
  · exact gl_says (by decide) RR_pr (by decide) _ 3574967296 _ (by decide) grun12 n (by omega) s13
  by_cases s12 : n ≤ 3634967296
  · exact gl_says (by decide) RR_pr (by decide) _ 3634967296 _ (by decide) grun11 n (by omega) s12
  by_cases s11 : n ≤ 3694967296
  · exact gl_says (by decide) RR_pr (by decide) _ 3694967296 _ (by decide) grun10 n (by omega) s11
  by_cases s10 : n ≤ 3754967296
  · exact gl_says (by decide) RR_pr (by decide) _ 3754967296 _ (by decide) grun9 n (by omega) s10
  by_cases s9 : n ≤ 3814967296
  · exact gl_says (by decide) RR_pr (by decide) _ 3814967296 _ (by decide) grun8 n (by omega) s9
  by_cases s8 : n ≤ 3874967296
  · exact gl_says (by decide) RR_pr (by decide) _ 3874967296 _ (by decide) grun7 n (by omega) s8
  by_cases s7 : n ≤ 3934967296
  · exact gl_says (by decide) RR_pr (by decide) _ 3934967296 _ (by decide) grun6 n (by omega) s7
  by_cases s6 : n ≤ 3994967296
  · exact gl_says (by decide) RR_pr (by decide) _ 3994967296 _ (by decide) grun5 n (by omega) s6
  by_cases s5 : n ≤ 4054967296
  · exact gl_says (by decide) RR_pr (by decide) _ 4054967296 _ (by decide) grun4 n (by omega) s5
  by_cases s4 : n ≤ 4114967296
  · exact gl_says (by decide) RR_pr (by decide) _ 4114967296 _ (by decide) grun3 n (by omega) s4
  by_cases s3 : n ≤ 4174967296
  · exact gl_says (by decide) RR_pr (by decide) _ 4174967296 _ (by decide) grun2 n (by omega) s3
  by_cases s2 : n ≤ 4234967296
  · exact gl_says (by decide) RR_pr (by decide) _ 4234967296 _ (by decide) grun1 n (by omega) s2
  by_cases s1 : n ≤ 4294967296
  · exact gl_says (by decide) RR_pr (by decide) _ 4294967296 _ (by decide) grun0 n (by omega) s1
  omega
end Go.Proofs.Ytpjephicbiiamaa.Y

end
section
namespace Go.Proofs.Ytpjephicbiiamaa.Pure
set_option linter.unusedVariables false
set_option linter.unusedSimpArgs false
open Go Go.RowKit Go.Proofs.YtpjephicbiiamaaW.PrintWords Go.Proofs.YtpjephicbiiamaaW.PrintLast Go.Proofs.YtpjephicbiiamaaW.PrintMore Go.Proofs.Ytpjephicbiiamaa.F Go.Proofs.Ytpjephicbiiamaa.A Go.Proofs.Ytpjephicbiiamaa.B Go.Proofs.Ytpjephicbiiamaa.M Go.Proofs.Ytpjephicbiiamaa.Y
set_option maxRecDepth 100000 in
theorem works40_ev : Ev (fun k => triviumlaw40_works.f k) true := Ev.of (fun k => triviumlaw40_works.mono k) (k := 150) (by decide +kernel)
theorem between {n : Nat} (hn : n ≤ 4294967296) : ∀ (t x : Nat), x + t = n → 2 ≤ x → (∀ q, x ≤ q → q < n → ¬ Pr q) → Ev (fun k => triviumlaw40_ModpBelow.l0 k (n : Int) (x : Int)) true := by
  intro t
  induction t with
  | zero =>
    intro x hx h2 hall
    refine ev_succ ?_
    simp only [triviumlaw40_ModpBelow.l0]
    exact ev_neg (by omega) (ev_bind works40_ev (ev_now rfl))
  | succ t ih =>
    intro x hx h2 hall
    have hx1 : IntKind.u64.wrap ((x : Int) + 1) = ((x + 1 : Nat) : Int) := by rw [wu64 (by omega) (by omega)]; omega
    refine ev_succ ?_
    simp only [triviumlaw40_ModpBelow.l0]
    rw [hx1]
    exact ev_pos (by omega) (ev_bind (prime_nat h2 (by omega) (b := false) (by simp [hall x (Nat.le_refl _) (by omega)])) (ev_neg (by decide) (ih (x + 1) (by omega) (by omega) (fun q h1 h3 => hall q (by omega) h3))))
theorem ModpBelow : triviumlaw40_ModpBelow.Pure := by
  intro n hn
  replace hn : U n := wf_u64 hn
  refine Ev.rounds ?_
  unfold triviumlaw40_ModpBelow.f
  by_cases h : n ≤ 2 ∨ 4294967296 < n
  · refine ev_bind (below_no h) ?_
    have hyes : Ev (fun k => triviumlaw40_ModpBelow.j0 k n 0 2 true) true := by
      refine ev_succ ?_
      simp only [triviumlaw40_ModpBelow.j0]
      exact ev_pos trivial (ev_pos trivial (ev_pos trivial (ev_bind works40_ev (ev_now rfl))))
    by_cases h1 : n ≤ 2
    · exact ev_pos h1 hyes
    · refine ev_neg h1 ?_
      rw [decide_eq_true (show n > 4294967296 by omega)]
      exact hyes
  · obtain ⟨m, rfl⟩ : ∃ m : Nat, n = (m : Int) := ⟨n.toNat, by have := hn.1; omega⟩
    obtain ⟨p, e, hp, hlt, hall⟩ := below_ev (n := (m : Int)) (by omega) (by omega)
    obtain ⟨q, hq, hq1, hq2⟩ := gap (n := m) (by omega) (by omega)
    have hqp : q ≤ p := by
      apply Nat.le_of_not_lt
      intro h1
      exact hall q h1 (by omega) hq
    have hp1 := hp.1
    refine ev_bind e (ev_neg (by omega) ?_)
    rw [decide_eq_false (show ¬ (m : Int) > 4294967296 by omega)]
    have hw : IntKind.u64.wrap ((m : Int) - (p : Int)) = ((m - p : Nat) : Int) := by rw [wu64 (by omega) (by omega)]; omega
    have hp2 : IntKind.u64.wrap ((p : Int) + 1) = ((p + 1 : Nat) : Int) := by rw [wu64 (by omega) (by omega)]; omega
    refine ev_succ ?_
    simp only [triviumlaw40_ModpBelow.j0]
    rw [hw, decide_eq_false (show ¬ ((m - p : Nat) : Int) > 400 by omega)]
    refine ev_neg (by decide) (ev_pos trivial (ev_bind (rprime_nat hp1 (by omega) (b := true) (by simp [hp])) (ev_pos rfl (ev_neg (by omega) (ev_succ ?_)))))
    simp only [triviumlaw40_ModpBelow.j1]
    rw [hp2]
    exact ev_neg (by decide) (between (by omega) (m - (p + 1)) (p + 1) (by omega) (by omega) (fun q h1 h2 => hall q (by omega) (by omega)))
end Go.Proofs.Ytpjephicbiiamaa.Pure

end
section
namespace Go.Proofs.Ytpjephicbiiamaa.modpBelow
open Go.Proofs.YtpjephicbiiamaaW
open Go.ChangeShapes Go.WideShapes Go.ChangeAt Go.RowKit
open Go.ChangeMaps (open_string shut_string)
set_option linter.unusedVariables false
theorem own : ownKnob Try.prog.godebug = none := by kernel_rfl
set_option maxRecDepth 100000 in
theorem lifted (os : Os) (started : os.Started) (H : Type) (enc : TypeId × Value → H) :
    ReturnsInHanded {} Try.checked os 8 .any (Rows.modpBelowSpec.pre6 enc Try.prog Try.f8 Rows.modpBelowRow.domain false) (Rows.modpBelowSpec.post enc Try.prog Try.f8 false true false false) := by
  refine returnsInHanded_of_change_sized (C := Try.checked) own started (by kernel_rfl) Try.func8
    (ChangeSpec.witness6 (enc := enc) (C := Try.checked) false ⟨#[], #[.int .u64 0], []⟩ 8 (by kernel_rfl) (by kernel_rfl) (by kernel_rfl) (by kernel_rfl)) ?_
  intro W base args ds gs before hval0 hW hcnd hsz0 _
  have hsz : (DataW.weightsEach Try.prog (Try.f8.params.toList ++ Rows.modpBelowSpec.plain.varTypes Try.prog) (ds ++ gs)).all (· ≤ reachBytes) = true := hsz0
  have hval : ∀ (j : Nat) t v, Try.f8.params[j]? = some t → args[j]? = some v → Value.okWide Try.prog W .any base t v := hval0
  have hW' := hW
  obtain ⟨p, q, hA0, hV, rfl, hfz, hnd⟩ := hW
  have hA : DataW.TrodAll enc Try.prog W 0 (fun _ => true) true Try.f8.params.toList args.toList ds p := hA0
  rw [Try.params8] at hA hval hsz
  obtain ⟨v0, vs0, d0, ds0, p0, q0, hargs, rfl, rfl, h0, r0⟩ := trodAll_cons hA
  obtain ⟨rfl, rfl, rfl⟩ := trodAll_nil r0
  obtain rfl : args = #[v0] := by cases args; simp_all
  obtain ⟨rfl, rfl⟩ := trodVars_none hV
  obtain ⟨a0, rfl, rfl, rfl, w0⟩ := open_int Try.underlying54 (hval 0 54 v0 rfl rfl) h0
  clear hA0 hval0 hsz0 hsz
  refine (F.triviumlaw40_ModpBelow.walk Pure.ModpBelow a0 W w0).mono fun e W' ⟨he, bel⟩ => ?_
  subst he
  exact ⟨_, rfl, _, _, _, [], _, [], hW', trodAll_mk1 (shut_bool Try.underlying4 _), (trodAll_cons_mk (shut_int Try.underlying54 w0) trodAll_mk0), rfl, bel.frame _, fun h => by cases h⟩
theorem over : Rows.modpBelowRow.holds Try.pinned (OpenSpec.ofChange Rows.modpBelowSpec) :=
  OpenClaim.holds_of_wide 8 Try.f8 rfl rfl rfl rfl rfl rfl rfl ⟨rfl, rfl, rfl, rfl, rfl⟩ rfl rfl rfl rfl rfl (by kernel_rfl) Try.func8 (by kernel_rfl)
    (of_decide_eq_true (by kernel_rfl)) (by unfold Func.isWrapper; first | (rw [if_pos (by decide +kernel)]; kernel_rfl) | (rw [if_neg (by decide +kernel)]; exact ⟨rfl, rfl⟩))
    (fun os started H enc _ => lifted os started H enc)
theorem proved : Rows.ModpBelowSaid := over
#print axioms proved
end Go.Proofs.Ytpjephicbiiamaa.modpBelow
namespace Go.Proofs.Ytpjephicbiiamaa
theorem modpBelow_holds : Rows.ModpBelowSaid := modpBelow.proved
end Go.Proofs.Ytpjephicbiiamaa

end
