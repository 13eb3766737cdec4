/- A part of the proof of the law VectMakes: words, what the Go code does function by function, lemmas (assembled by wip/assemble.py). -/
import Derived.Test.YtpmbcdakpmceiaaCVectMakes5
set_option linter.unusedVariables false
set_option linter.unusedSimpArgs false
set_option linter.unusedSectionVars false
section
namespace Go.Proofs.Ytpmbcdakpmceiaa.F
open Go.RowKit Go.Proofs.YtpmbcdakpmceiaaW.PrintWords Go.Proofs.YtpmbcdakpmceiaaW.PrintLast Go.Proofs.YtpmbcdakpmceiaaW.PrintMore
attribute [local go_sem] max2_int min2_int max_two min_two max_three min_three max_four min_four
set_option linter.unusedVariables false
set_option linter.unusedSimpArgs false
mutual
def triviumlaw11_VectMakes.j0 : Nat → Int → Int → List (S34) → Int → List (S34) → Int → Bool → Option (Bool)
 | 0, _, _, _, _, _, _, _ => none
 | k + 1, x0, x1, x5, x6, x7, x8, x26 => if x26 = true then (if x6 = 2 then (if x8 = x6 then (if (wrap64 ((x5.length : Int) + (x7.length : Int))) = 0 then ((triviumlaw11_works.f k).bind fun t721 => (some t721)) else (some false)) else (some false)) else (some false)) else (if (x5.length : Int) = x0 then (triviumlaw11_VectMakes.j1 k x0 x1 x5 x7 x8 (x6 != 0)) else (triviumlaw11_VectMakes.j1 k x0 x1 x5 x7 x8 true))
def triviumlaw11_VectMakes.j1 : Nat → Int → Int → List (S34) → List (S34) → Int → Bool → Option (Bool)
 | 0, _, _, _, _, _, _ => none
 | k + 1, x0, x1, x5, x7, x8, x52 => if x52 = true then (some false) else (triviumlaw11_VectMakes.l0 k x0 x1 x5 x7 x8 0)
def triviumlaw11_VectMakes.l0 : Nat → Int → Int → List (S34) → List (S34) → Int → Int → Option (Bool)
 | 0, _, _, _, _, _, _ => none
 | k + 1, x0, x1, x5, x7, x8, x9 => if x9 < x0 then (if 0 ≤ x9 then (if x9 < (x5.length : Int) then ((rat_Of.f k 0).bind fun bt723 => ((rat_Same.f k ((rd_T34 x5 x9).f0.f0) ((rd_T34 x5 x9).f0.f1) ((rd_T34 x5 x9).f1) bt723.1 bt723.2.1 bt723.2.2).bind fun t730 => (if t730 = true then (triviumlaw11_VectMakes.l0 k x0 x1 x5 x7 x8 (wrap64 (x9 + 1))) else (some false)))) else (none)) else (none)) else (if x1 < 0 then (triviumlaw11_VectMakes.j3 k x0 x1 x5 x7 x8 true) else (triviumlaw11_VectMakes.j3 k x0 x1 x5 x7 x8 (decide (x1 ≥ x0))))
def triviumlaw11_VectMakes.j3 : Nat → Int → Int → List (S34) → List (S34) → Int → Bool → Option (Bool)
 | 0, _, _, _, _, _, _ => none
 | k + 1, x0, x1, x5, x7, x8, x71 => if x71 = true then (if x8 = 2 then (if (x7.length : Int) = 0 then ((triviumlaw11_works.f k).bind fun t731 => (some t731)) else (some false)) else (some false)) else (if x8 = 0 then (if (x7.length : Int) = x0 then ((vect_Lead.f k x7).bind fun t732 => (if t732 = x1 then (if 0 ≤ x1 then (if x1 < (x7.length : Int) then ((rat_One.f k ((rd_T34 x7 x1).f0.f0) ((rd_T34 x7 x1).f0.f1) ((rd_T34 x7 x1).f1)).bind fun t734 => (if t734 = true then ((vect_Lead.f k x5).bind fun t735 => (if t735 = x0 then ((triviumlaw11_works.f k).bind fun t736 => (some t736)) else (some false))) else (some false))) else (none)) else (none)) else (some false))) else (some false)) else (some false))
end
def triviumlaw11_VectMakes.f (k : Nat) (a0 : Int) (a1 : Int) : Option (Bool) := (vect_Zero.f k a0).bind fun bt713 => ((vect_Unit.f k a0 a1).bind fun bt717 => (if a0 < 0 then (triviumlaw11_VectMakes.j0 k a0 a1 bt713.1 bt713.2 bt717.1 bt717.2 true) else (triviumlaw11_VectMakes.j0 k a0 a1 bt713.1 bt713.2 bt717.1 bt717.2 (decide (a0 > 200)))))
def triviumlaw11_VectMakes.Pure : Prop := ∀ (a0 : Int) (a1 : Int), (Lit.int .i64 a0).wf = true → (Lit.int .i64 a1).wf = true → ∃ k, triviumlaw11_VectMakes.f k a0 a1 = some true
end Go.Proofs.Ytpmbcdakpmceiaa.F

end
section
namespace Go.Proofs.Ytpmbcdakpmceiaa.F
open Go.RowKit Go.Proofs.YtpmbcdakpmceiaaW.PrintWords Go.Proofs.YtpmbcdakpmceiaaW.PrintLast Go.Proofs.YtpmbcdakpmceiaaW.PrintMore
attribute [local go_sem] max2_int min2_int max_two min_two max_three min_three max_four min_four
set_option linter.unusedVariables false
set_option linter.unusedSimpArgs false
set_option maxHeartbeats 8000000 in
set_option maxRecDepth 100000 in
theorem triviumlaw11_VectMakes.calls (k : Nat) (a0 : Int) (a1 : Int) (r : Bool) (w : World) (h : triviumlaw11_VectMakes.f k a0 a1 = some r) :
  Calls Try.prog 3 #[.int .i64 a0, .int .i64 a1] w fun e w' => e = .returned (.bool r) ∧ Below w.heap.size w w' := by
 have hu34 := Try.underlying34
 have HB := Aside0.mk (Below.refl w.heap.size w)
 have H : ((vect_Zero.f k a0).bind fun bt713 => ((vect_Unit.f k a0 a1).bind fun bt717 => (if a0 < 0 then (triviumlaw11_VectMakes.j0 k a0 a1 bt713.1 bt713.2 bt717.1 bt717.2 true) else (triviumlaw11_VectMakes.j0 k a0 a1 bt713.1 bt713.2 bt717.1 bt717.2 (decide (a0 > 200)))))) = some r := h
 clear h
 replace H := Option.bind_eq_some_iff.mp H
 obtain ⟨⟨t713, t714⟩, A30, H⟩ := H
 replace H : ((vect_Unit.f k a0 a1).bind fun bt717 => (if a0 < 0 then (triviumlaw11_VectMakes.j0 k a0 a1 t713 t714 bt717.1 bt717.2 true) else (triviumlaw11_VectMakes.j0 k a0 a1 t713 t714 bt717.1 bt717.2 (decide (a0 > 200))))) = some r := H
 have A3 := Aside0.mk A30
 clear A30
 replace H := Option.bind_eq_some_iff.mp H
 obtain ⟨⟨t717, t718⟩, A40, H⟩ := H
 replace H : (if a0 < 0 then (triviumlaw11_VectMakes.j0 k a0 a1 t713 t714 t717 t718 true) else (triviumlaw11_VectMakes.j0 k a0 a1 t713 t714 t717 t718 (decide (a0 > 200)))) = some r := H
 have A4 := Aside0.mk A40
 clear A40
 have HC5 := Aside0.mk H
 clear H
 go_enter Try.func3, Try.ntmps3
 go_upto_region 3 with (first | ((with_reducible refine gate_callee (f := 9) rfl ?_); refine goesx (some 12) Try.func9 #[.int .i64 a0] ?_; (with_reducible refine (vect_Zero.calls k a0 t713 t714 _ A3.out).mono ?_); rintro e w6 ⟨v715, rfl, ho0, hb⟩; refine ⟨_, rfl, ?_⟩; have HO716 := Aside0.mk (Kd.S_lower ho0 (below_size (Bx HB.out))); replace HB := Aside0.mk (below_step (Bx HB.out) hb); (try clear hb); (try clear hb2); (try clear hk); (try clear hi); (try clear ho0)) | ((with_reducible refine gate_callee (f := 10) rfl ?_); refine goesx (some 18) Try.func10 #[.int .i64 a0, .int .i64 a1] ?_; (with_reducible refine (vect_Unit.calls k a0 a1 t717 t718 _ A4.out).mono ?_); rintro e w7 ⟨v719, rfl, ho0, hb⟩; refine ⟨_, rfl, ?_⟩; have HO720 := Aside0.mk (Kd.S_lower (Kd.S_new' ho0 (Kd.S_lt (Kd.Sx HO716.out))) (below_size (Bx HB.out))); replace HO716 := Aside0.mk (Kd.S_elder' (Kd.Sx HO716.out) (Kd.S_base ho0) hb); replace HB := Aside0.mk (below_step (Bx HB.out) hb); (try clear hb); (try clear hb2); (try clear hk); (try clear hi); (try clear ho0)))
 (try simp only [Act.put, List.setIfInBounds_toArray, List.set_cons_zero, List.set_cons_succ])
 go_cut [26] (fun v26 wc => ∃ (kq : Nat) (x26_4 : Bool), v26 = .bool x26_4 ∧ Aside0 (triviumlaw11_VectMakes.j0 kq a0 a1 t713 t714 t717 t718 x26_4 = some r) ∧ Aside0 (kq ≤ k) ∧ Aside0 (Kd.S k34 34 wc w.heap.size (fun k_ => nb k_ v719) v715 t713) ∧ Aside0 (Kd.S k34 34 wc w.heap.size (fun k_ => nb k_ v715) v719 t717) ∧ Aside0 (Below w.heap.size w wc))
 case first =>
  have H := HC5.out
  clear HC5
  by_cases c8 : a0 < 0
  ·
   rw [if_pos c8] at H
   have c8b0 : decide (a0 < 0) = true := decide_eq_true c8
   clear c8
   (first | rw [c8b0] | (simp only [i64_w, i32_w]; rw [c8b0]) | skip)
   have H' := Aside0.mk H
   clear H
   go_wp2
   go_meet
   case rel => exact ⟨_, (true), (by first | rfl | (simp; done) | (simp [*]; done)), H', ⟨by first | omega | exact Nat.le_refl _⟩, ⟨Kd.Sm HO716.out⟩, ⟨Kd.Sm HO720.out⟩, ⟨Bx HB.out⟩⟩
  ·
   rw [if_neg c8] at H
   have c8b0 : decide (a0 < 0) = false := decide_eq_false c8
   clear c8
   (first | rw [c8b0] | (simp only [i64_w, i32_w]; rw [c8b0]) | skip)
   have H' := Aside0.mk H
   clear H
   go_wp2
   go_meet
   case rel => exact ⟨_, (decide (a0 > 200)), (by first | rfl | (simp; done) | (simp [*]; done)), H', ⟨by first | omega | exact Nat.le_refl _⟩, ⟨Kd.Sm HO716.out⟩, ⟨Kd.Sm HO720.out⟩, ⟨Bx HB.out⟩⟩
 case rest =>
  clear HC5
  try clear c1
  try clear p2
  try clear c3
  try clear c8
  try clear c8b0
  obtain ⟨kq, x26_4, rfl, HA, HJ4, HO_5, HO_7, HB⟩ := hcut
  cases kq with
  | zero => exact absurd HA.out (by simp [triviumlaw11_VectMakes.j0])
  | succ kj4 =>
   have H := HA.out
   clear HA
   simp only [triviumlaw11_VectMakes.j0] at H
   by_cases c9 : x26_4 = true
   ·
    subst c9
    have H1 : (if t714 = 2 then (if t718 = t714 then (if (wrap64 ((t713.length : Int) + (t717.length : Int))) = 0 then ((triviumlaw11_works.f kj4).bind fun t721 => (some t721)) else (some false)) else (some false)) else (some false)) = some r := by rw [if_pos rfl] at H; exact H
    clear H
    have H := H1
    clear H1
    by_cases c10 : t714 = 2
    ·
     rw [if_pos c10] at H
     have c10b0 : (t714 == 2) = true := beq_iff_eq.mpr c10
     have c10b1 : (t714 != 2) = false := bne_eq_false_iff_eq.mpr c10
     clear c10
     by_cases c11 : t718 = t714
     ·
      rw [if_pos c11] at H
      have c11b0 : (t718 == t714) = true := beq_iff_eq.mpr c11
      have c11b1 : (t718 != t714) = false := bne_eq_false_iff_eq.mpr c11
      clear c11
      by_cases c12 : (wrap64 ((t713.length : Int) + (t717.length : Int))) = 0
      ·
       rw [if_pos c12] at H
       have c12b0 : ((wrap64 ((t713.length : Int) + (t717.length : Int))) == 0) = true := beq_iff_eq.mpr c12
       have c12b1 : ((wrap64 ((t713.length : Int) + (t717.length : Int))) != 0) = false := bne_eq_false_iff_eq.mpr c12
       clear c12
       replace H := Option.bind_eq_some_iff.mp H
       obtain ⟨t721, A130, H⟩ := H
       replace H : (some t721) = some r := H
       have A13 := Aside0.mk A130
       clear A130
       obtain rfl := Option.some.inj H
       obtain ⟨Ao14, co14, eo14⟩ := Kd.S_slice HO_5.out
       subst eo14
       obtain ⟨Ao15, co15, eo15⟩ := Kd.S_slice HO_7.out
       subst eo15
       go_wp2_with (first | (go_at_call 11; (with_reducible refine (triviumlaw11_works.calls kj4  t721 _ A13.out).mono ?_); rintro e w16 ⟨rfl, hb⟩; replace HO_5 := Aside0.mk (Kd.S_below (Kd.Sx HO_5.out) hb); replace HO_7 := Aside0.mk (Kd.S_below (Kd.Sx HO_7.out) hb); replace HB := Aside0.mk (below_step (Bx HB.out) hb); (try clear hb); (try clear hb2); (try clear hk); (try clear hi)))
       go_ret
       exact ⟨by first | rfl | (simp only [u64_u32_] <;> rfl) | (simp [errW_none, errW_some] <;> rfl) | (simp [*, errW_none, errW_some] <;> rfl), Bx HB.out⟩
      ·
       rw [if_neg c12] at H
       have c12b0 : ((wrap64 ((t713.length : Int) + (t717.length : Int))) == 0) = false := beq_eq_false_iff_ne.mpr c12
       have c12b1 : ((wrap64 ((t713.length : Int) + (t717.length : Int))) != 0) = true := bne_iff_ne.mpr c12
       obtain rfl := Option.some.inj H
       obtain ⟨Ao17, co17, eo17⟩ := Kd.S_slice HO_5.out
       subst eo17
       obtain ⟨Ao18, co18, eo18⟩ := Kd.S_slice HO_7.out
       subst eo18
       go_wp2
       go_ret
       exact ⟨by first | rfl | (simp only [u64_u32_] <;> rfl) | (simp [errW_none, errW_some] <;> rfl) | (simp [*, errW_none, errW_some] <;> rfl), Bx HB.out⟩
     ·
      rw [if_neg c11] at H
      have c11b0 : (t718 == t714) = false := beq_eq_false_iff_ne.mpr c11
      have c11b1 : (t718 != t714) = true := bne_iff_ne.mpr c11
      obtain rfl := Option.some.inj H
      go_wp2
      go_ret
      exact ⟨by first | rfl | (simp only [u64_u32_] <;> rfl) | (simp [errW_none, errW_some] <;> rfl) | (simp [*, errW_none, errW_some] <;> rfl), Bx HB.out⟩
    ·
     rw [if_neg c10] at H
     have c10b0 : (t714 == 2) = false := beq_eq_false_iff_ne.mpr c10
     have c10b1 : (t714 != 2) = true := bne_iff_ne.mpr c10
     obtain rfl := Option.some.inj H
     go_wp2
     go_ret
     exact ⟨by first | rfl | (simp only [u64_u32_] <;> rfl) | (simp [errW_none, errW_some] <;> rfl) | (simp [*, errW_none, errW_some] <;> rfl), Bx HB.out⟩
   ·
    replace c9 := Bool.eq_false_iff.mpr c9
    subst c9
    have H1 : (if (t713.length : Int) = a0 then (triviumlaw11_VectMakes.j1 kj4 a0 a1 t713 t717 t718 (t714 != 0)) else (triviumlaw11_VectMakes.j1 kj4 a0 a1 t713 t717 t718 true)) = some r := by rw [if_neg (show ¬ (false = true) by decide)] at H; exact H
    clear H
    have H := H1
    clear H1
    have HC19 := Aside0.mk H
    clear H
    go_upto_region 5 with (fail)
    go_cut [52] (fun v52 wc => ∃ (kq : Nat) (x52_18 : Bool), v52 = .bool x52_18 ∧ Aside0 (triviumlaw11_VectMakes.j1 kq a0 a1 t713 t717 t718 x52_18 = some r) ∧ Aside0 (kq ≤ kj4) ∧ Aside0 (Kd.S k34 34 wc w.heap.size (fun k_ => nb k_ v719) v715 t713) ∧ Aside0 (Kd.S k34 34 wc w.heap.size (fun k_ => nb k_ v715) v719 t717) ∧ Aside0 (Below w.heap.size w wc))
    case first =>
     have H := HC19.out
     clear HC19
     by_cases c20 : (t713.length : Int) = a0
     ·
      rw [if_pos c20] at H
      have c20b0 : ((t713.length : Int) == a0) = true := beq_iff_eq.mpr c20
      have c20b1 : ((t713.length : Int) != a0) = false := bne_eq_false_iff_eq.mpr c20
      clear c20
      (first | rw [c20b0] | (simp only [i64_w, i32_w]; rw [c20b0]) | skip)
      have H' := Aside0.mk H
      clear H
      obtain ⟨Ao21, co21, eo21⟩ := Kd.S_slice HO_5.out
      subst eo21
      go_wp2
      go_meet
      case rel => exact ⟨_, ((t714 != 0)), (by first | rfl | (simp; done) | (simp [*]; done)), H', ⟨by have := HJ4.out; first | omega | exact Nat.le_refl _⟩, ⟨by first | exact Kd.Sx HO_5.out | exact HO_5.out⟩, ⟨by first | exact Kd.Sx HO_7.out | exact HO_7.out⟩, ⟨Bx HB.out⟩⟩
     ·
      rw [if_neg c20] at H
      have c20b0 : ((t713.length : Int) == a0) = false := beq_eq_false_iff_ne.mpr c20
      have c20b1 : ((t713.length : Int) != a0) = true := bne_iff_ne.mpr c20
      (first | rw [c20b0] | (simp only [i64_w, i32_w]; rw [c20b0]) | skip)
      have H' := Aside0.mk H
      clear H
      obtain ⟨Ao22, co22, eo22⟩ := Kd.S_slice HO_5.out
      subst eo22
      go_wp2
      go_meet
      case rel => exact ⟨_, (true), (by first | rfl | (simp; done) | (simp [*]; done)), H', ⟨by have := HJ4.out; first | omega | exact Nat.le_refl _⟩, ⟨by first | exact Kd.Sx HO_5.out | exact HO_5.out⟩, ⟨by first | exact Kd.Sx HO_7.out | exact HO_7.out⟩, ⟨Bx HB.out⟩⟩
    case rest =>
     clear HC19
     try clear c1
     try clear c2
     try clear p2
     try clear c3
     try clear p6
     try clear c8
     try clear c8b0
     try clear c9
     try clear c10
     try clear c10b0
     try clear c10b1
     try clear c11
     try clear c11b0
     try clear c11b1
     try clear c12
     try clear c12b0
     try clear c12b1
     try clear c20
     try clear c20b0
     try clear c20b1
     try clear p2
     obtain ⟨kq, x52_18, rfl, HA, HJ18, HO_5, HO_7, HB⟩ := hcut
     cases kq with
     | zero => exact absurd HA.out (by simp [triviumlaw11_VectMakes.j1])
     | succ kj18 =>
      have H := HA.out
      clear HA
      simp only [triviumlaw11_VectMakes.j1] at H
      by_cases c23 : x52_18 = true
      ·
       subst c23
       have H1 : (some false) = some r := by rw [if_pos rfl] at H; exact H
       clear H
       have H := H1
       clear H1
       obtain rfl := Option.some.inj H
       go_wp2
       go_ret
       exact ⟨by first | rfl | (simp only [u64_u32_] <;> rfl) | (simp [errW_none, errW_some] <;> rfl) | (simp [*, errW_none, errW_some] <;> rfl), Bx HB.out⟩
      ·
       replace c23 := Bool.eq_false_iff.mpr c23
       subst c23
       have H1 : (triviumlaw11_VectMakes.l0 kj18 a0 a1 t713 t717 t718 0) = some r := by rw [if_neg (show ¬ (false = true) by decide)] at H; exact H
       clear H
       have H := H1
       clear H1
       have H' := Aside0.mk H
       clear H
       go_wp2
       go_loopg [9] kj18 (fun kq v9 w' => ∃ (x9_3 : Int), v9 = .int .i64 x9_3 ∧ Aside0 (triviumlaw11_VectMakes.l0 kq a0 a1 t713 t717 t718 x9_3 = some r) ∧ Aside0 (kq ≤ kj18) ∧ Aside0 (Kd.S k34 34 w' w.heap.size (fun k_ => nb k_ v719) v715 t713) ∧ Aside0 (Kd.S k34 34 w' w.heap.size (fun k_ => nb k_ v715) v719 t717) ∧ Aside0 (Below w.heap.size w w'))
       case atStart => exact ⟨(0), (by first | rfl | (simp; done) | (simp [*]; done)), H', ⟨Nat.le_refl _⟩, ⟨by first | exact Kd.Sx HO_5.out | exact HO_5.out⟩, ⟨by first | exact Kd.Sx HO_7.out | exact HO_7.out⟩, ⟨Bx HB.out⟩⟩
       case round =>
        clear H'
        try clear c1
        try clear c2
        try clear p2
        try clear c3
        try clear p6
        try clear c8
        try clear c8b0
        try clear c9
        try clear c10
        try clear c10b0
        try clear c10b1
        try clear c11
        try clear c11b0
        try clear c11b1
        try clear c12
        try clear c12b0
        try clear c12b1
        try clear c20
        try clear c20b0
        try clear c20b1
        try clear c23
        try clear p2
        try clear p6
        obtain ⟨x9_3, rfl, HA, HK3, HO_5, HO_7, HB⟩ := hrel
        cases gk with
        | zero => exact absurd HA.out (by simp [triviumlaw11_VectMakes.l0])
        | succ k3 =>
         have H := HA.out
         clear HA
         simp only [triviumlaw11_VectMakes.l0] at H
         by_cases c24 : x9_3 < a0
         ·
          rw [if_pos c24] at H
          have c24b0 : decide (x9_3 < a0) = true := decide_eq_true c24
          clear c24
          by_cases c25 : 0 ≤ x9_3
          ·
           rw [if_pos c25] at H
           have c25b0 : decide (0 ≤ x9_3) = true := decide_eq_true c25
           clear c25
           by_cases c26 : x9_3 < (t713.length : Int)
           ·
            rw [if_pos c26] at H
            have c26b0 : decide (x9_3 < (t713.length : Int)) = true := decide_eq_true c26
            clear c26
            replace H := Option.bind_eq_some_iff.mp H
            obtain ⟨⟨t723, t724, t727⟩, A270, H⟩ := H
            replace H : ((rat_Same.f k3 ((rd_T34 t713 x9_3).f0.f0) ((rd_T34 t713 x9_3).f0.f1) ((rd_T34 t713 x9_3).f1) t723 t724 t727).bind fun t730 => (if t730 = true then (triviumlaw11_VectMakes.l0 k3 a0 a1 t713 t717 t718 (wrap64 (x9_3 + 1))) else (some false))) = some r := H
            have A27 := Aside0.mk A270
            clear A270
            replace H := Option.bind_eq_some_iff.mp H
            obtain ⟨t730, A280, H⟩ := H
            replace H : (if t730 = true then (triviumlaw11_VectMakes.l0 k3 a0 a1 t713 t717 t718 (wrap64 (x9_3 + 1))) else (some false)) = some r := H
            have A28 := Aside0.mk A280
            clear A280
            by_cases c29 : t730 = true
            ·
             subst c29
             have H1 : (triviumlaw11_VectMakes.l0 k3 a0 a1 t713 t717 t718 (wrap64 (x9_3 + 1))) = some r := by rw [if_pos rfl] at H; exact H
             clear H
             have H := H1
             clear H1
             have H' := Aside0.mk H
             clear H
             try go_wp2
             replace HO_5 := Aside0.mk (Kd.S_drew HO_5.out)
             replace HO_7 := Aside0.mk (Kd.S_drew HO_7.out)
             replace HB := Aside0.mk (below_drew1 HB.out)
             obtain ⟨Ao31, co31, eo31⟩ := Kd.S_slice HO_5.out
             (first | subst eo31 | (injection eo31 with f1_ f2_ f3_; have f4_ := f1_.symm; have f5_ := f3_.symm; clear f1_ f2_ f3_; subst f4_; subst f5_))
             have p722 : 0 ≤ (x9_3 : Int) := tx
             have q722 : x9_3 < (t713.length : Int) := tx
             obtain ⟨ad722, A722_1, c722_1, A722_2, c722_2, e722, hx722_0, hx722_1, hx722_2, hl722_1, hi722_1, hl722_2, hi722_2⟩ := at_T34 (Kd.S_reads' HO_5.out).2.2 x9_3 p722 q722
             cases e722
             obtain ⟨ce722, hce722, hMe722, hcc722⟩ := Kd.S_get HO_5.out z34 x9_3 p722 (by first | exact q722 | exact tx | (have e_ := (Kd.S_reads' HO_5.out).1; omega))
             obtain ⟨ve722_1, ve722_2, rfl, ge722_1, ge722_2⟩ := k34_openM hMe722
             have hv722_1 := hcc722 1 _ rfl
             rw [add_field _ _ 1 (by omega)] at hv722_1
             replace hv722_1 := Option.some.inj (hv722_1.symm.trans hx722_1)
             rw [hv722_1] at ge722_1
             have HL722_1 := Aside0.mk (show Kd.R (Kd.int .u64) 96 _ _ _ _ ((rd_T34 t713 x9_3).f0.f1) from ge722_1)
             clear hv722_1 ge722_1
             have hv722_2 := hcc722 2 _ rfl
             rw [add_field _ _ 2 (by omega)] at hv722_2
             replace hv722_2 := Option.some.inj (hv722_2.symm.trans hx722_2)
             rw [hv722_2] at ge722_2
             have HL722_2 := Aside0.mk (show Kd.R (Kd.int .u64) 96 _ _ _ _ ((rd_T34 t713 x9_3).f1) from ge722_2)
             clear hv722_2 ge722_2
             clear hcc722 hce722
             have HR722_1 := Aside0.mk hi722_1
             have HC722_1 := Aside0.mk hl722_1
             clear hi722_1 hl722_1
             have HR722_2 := Aside0.mk hi722_2
             have HC722_2 := Aside0.mk hl722_2
             clear hi722_2 hl722_2
             replace p722 := eq_true p722
             replace q722 := eq_true q722
             refine start_ (n := 7) (S := fun w' => w'.cell? (ad722.add ((x9_3).toNat * 3)) = some (.bool ((rd_T34 t713 x9_3).f0.f0)) ∧ w'.cell? ⟨(ad722.add ((x9_3).toNat * 3)).block, (ad722.add ((x9_3).toNat * 3)).off + 1, none⟩ = some (.slice A722_1 ((rd_T34 t713 x9_3).f0.f1).length c722_1) ∧ w'.cell? ⟨(ad722.add ((x9_3).toNat * 3)).block, (ad722.add ((x9_3).toNat * 3)).off + 2, none⟩ = some (.slice A722_2 ((rd_T34 t713 x9_3).f1).length c722_2)) (ds := []) #[false, false, false, false, false, false, false] (by kernel_rfl) rfl rfl ⟨hx722_0, hx722_1, hx722_2⟩ (fun hHeld => ?_)
             generalize wr.drew = w30 at HO_5 HO_7 HB HL722_1 HL722_2 HR722_1 HR722_2 hx722_0 hx722_1 hx722_2 hHeld ⊢
             refine pure_ (i := 0) (N := some 58) (v := ?_) (a' := ?_) #[true, false, false, false, false, false, false] rfl rfl (by kernel_rfl) (fun _ _ _ h => h) (Or.inl ⟨by rfl, ?_⟩) ?_ ?_
             rotate_left
             ·
              intro w'
              go_simp
              with_reducible rfl
             rotate_left
             ·
              simp only [Act.put, List.setIfInBounds_toArray, List.set_cons_zero, List.set_cons_succ, i64_w, i32_w]
              rfl
             refine pure_ (i := 1) (N := some 59) (v := ?_) (a' := ?_) #[true, true, false, false, false, false, false] rfl rfl (by kernel_rfl) (fun _ _ _ h => h) (Or.inl ⟨by rfl, ?_⟩) ?_ ?_
             rotate_left
             ·
              intro w'
              go_simp
              with_reducible rfl
             rotate_left
             ·
              simp only [Act.put, List.setIfInBounds_toArray, List.set_cons_zero, List.set_cons_succ, i64_w, i32_w]
              rfl
             refine pure_ (i := 2) (N := some 60) (v := ?_) (a' := ?_) #[true, true, true, false, false, false, false] rfl rfl (by kernel_rfl) (fun _ _ _ h => h) (Or.inl ⟨by rfl, ?_⟩) ?_ ?_
             rotate_left
             ·
              intro w'
              go_simp
              with_reducible rfl
             rotate_left
             ·
              simp only [Act.put, List.setIfInBounds_toArray, List.set_cons_zero, List.set_cons_succ, i64_w, i32_w]
              rfl
             refine take_ (i := 3) (N := some 61) (v := ?_) (a' := ?_) #[true, true, true, true, false, false, false] rfl rfl (by kernel_rfl) (fun _ _ _ h => h) (Or.inl ⟨by rfl, ?_⟩) hHeld ?_ ?_
             rotate_left
             ·
              rintro w' ⟨s0, s1, s2⟩
              go_simp
              with_reducible rfl
             rotate_left
             ·
              simp only [Act.put, List.setIfInBounds_toArray, List.set_cons_zero, List.set_cons_succ, i64_w, i32_w]
              rfl
             refine one_ (i := 4) (N := some 62) #[true, true, true, true, true, false, false] rfl rfl (by kernel_rfl) (by decide) (fun K hK => ?_)
             refine goes_ Try.func13 (by kernel_rfl) rfl #[.int .i64 0] (by rfl) rfl rfl (by (try simp only [List.map_toArray, List.map_cons, List.map_nil]); first | done | rfl | (simp only [List.length_drop, List.length_take]; rfl)) ?_
             with_reducible refine (rat_Of.calls k3 0 t723 t724 t727 _ A27.out).mono ?_
             rintro e w32 ⟨v725, v728, rfl, ho0, ho1, hb⟩
             have HS0_ := (hb.cell (World.block_lt_of_cell? _ _ (hHeld.1))).trans (hHeld.1)
             have HS1_ := (hb.cell (World.block_lt_of_cell? _ _ (hHeld.2.1))).trans (hHeld.2.1)
             have HS2_ := (hb.cell (World.block_lt_of_cell? _ _ (hHeld.2.2))).trans (hHeld.2.2)
             refine ⟨_, rfl, ?_⟩
             replace HO_5 := Aside0.mk (Kd.S_mono (Kd.S_told (Kd.S_told (Kd.S_old (Kd.Sx HO_5.out) hb) (Kd.R_base ho0)) (Kd.R_base ho1)) (fun _ h_ => h_.1))
             replace HO_7 := Aside0.mk (Kd.S_mono (Kd.S_told (Kd.S_told (Kd.S_old (Kd.Sx HO_7.out) hb) (Kd.R_base ho0)) (Kd.R_base ho1)) (fun _ h_ => h_.1))
             have HO726 := Aside0.mk (Kd.R_lower (Kd.R_new' (Kd.R_new' ho0 (Kd.R_lt (Kd.Rx HL722_1.out))) (Kd.R_lt (Kd.Rx HL722_2.out))) (below_size (Bx HB.out)))
             have HO729 := Aside0.mk (Kd.R_lower (Kd.R_new' (Kd.R_new' ho1 (Kd.R_lt (Kd.Rx HL722_1.out))) (Kd.R_lt (Kd.Rx HL722_2.out))) (below_size (Bx HB.out)))
             replace HL722_1 := Aside0.mk (Kd.R_mono (Kd.R_told (Kd.R_told (Kd.R_old (Kd.Rx HL722_1.out) hb) (Kd.R_base ho0)) (Kd.R_base ho1)) (fun _ h_ => h_.1))
             replace HL722_2 := Aside0.mk (Kd.R_mono (Kd.R_told (Kd.R_told (Kd.R_old (Kd.Rx HL722_2.out) hb) (Kd.R_base ho0)) (Kd.R_base ho1)) (fun _ h_ => h_.1))
             replace HR722_1 := Aside0.mk (Kd.C_below (by repeat (first | (with_reducible exact HR722_1.out) | (with_reducible refine Kd.C_alloc ?_ _) | (with_reducible refine Kd.C_drewN ?_ _) | (with_reducible refine Kd.C_drew ?_) | exact HR722_1.out)) hb)
             replace HR722_2 := Aside0.mk (Kd.C_below (by repeat (first | (with_reducible exact HR722_2.out) | (with_reducible refine Kd.C_alloc ?_ _) | (with_reducible refine Kd.C_drewN ?_ _) | (with_reducible refine Kd.C_drew ?_) | exact HR722_2.out)) hb)
             replace HB := Aside0.mk (below_step (Bx HB.out) hb)
             (try clear hb)
             (try clear hb2)
             (try clear hk)
             (try clear hi)
             (try clear ho0)
             (try clear ho1)
             obtain ⟨Ao33, co33, eo33⟩ := Kd.R_slice HO726.out
             (first | subst eo33 | (injection eo33 with f1_ f2_ f3_; have f4_ := f1_.symm; have f5_ := f3_.symm; clear f1_ f2_ f3_; subst f4_; subst f5_))
             obtain ⟨Ao34, co34, eo34⟩ := Kd.R_slice HO729.out
             (first | subst eo34 | (injection eo34 with f1_ f2_ f3_; have f4_ := f1_.symm; have f5_ := f3_.symm; clear f1_ f2_ f3_; subst f4_; subst f5_))
             refine hK.out _ _ ⟨HS0_, HS1_, HS2_⟩ (fun hHeld => ?_)
             clear hK K
             refine norm_ (a' := ?_) ?_ ?_
             rotate_left
             ·
              show Act.put _ (some 62) _ = _
              simp only [Act.put, List.setIfInBounds_toArray, List.set_cons_zero, List.set_cons_succ, i64_w, i32_w]
              rfl
             refine one_ (i := 5) (N := some 63) #[true, true, true, true, true, true, false] rfl rfl (by kernel_rfl) (by decide) (fun K hK => ?_)
             refine goes_ Try.func12 (by kernel_rfl) rfl #[.agg #[.bool ((rd_T34 t713 x9_3).f0.f0), .slice A722_1 ((rd_T34 t713 x9_3).f0.f1).length c722_1, .slice A722_2 ((rd_T34 t713 x9_3).f1).length c722_2], .agg #[.bool t723, .slice Ao33 t724.length co33, .slice Ao34 t727.length co34]] (by rfl) rfl rfl (by (try simp only [List.map_toArray, List.map_cons, List.map_nil]); first | done | rfl | (simp only [List.length_drop, List.length_take]; rfl)) ?_
             with_reducible refine (rat_Same.calls k3 ((rd_T34 t713 x9_3).f0.f0) _ _ ((rd_T34 t713 x9_3).f0.f1) _ _ ((rd_T34 t713 x9_3).f1) t723 _ _ t724 _ _ t727 true _ ?side1 ?side2 ?side3 ?side4 ?side5 ?side6 ?side7 ?side8 A28.out).mono ?_
             (case side1 => repeat (first | exact (by repeat (first | (with_reducible exact HR722_1.out) | (with_reducible refine Kd.C_alloc ?_ _) | (with_reducible refine Kd.C_drewN ?_ _) | (with_reducible refine Kd.C_drew ?_) | exact HR722_1.out)) | (with_reducible refine Kd.C_alloc ?_ _) | (with_reducible refine Kd.C_drewN ?_ _) | (with_reducible refine Kd.C_drew ?_)))
             (case side2 => exact HC722_1.out)
             (case side3 => repeat (first | exact (by repeat (first | (with_reducible exact HR722_2.out) | (with_reducible refine Kd.C_alloc ?_ _) | (with_reducible refine Kd.C_drewN ?_ _) | (with_reducible refine Kd.C_drew ?_) | exact HR722_2.out)) | (with_reducible refine Kd.C_alloc ?_ _) | (with_reducible refine Kd.C_drewN ?_ _) | (with_reducible refine Kd.C_drew ?_)))
             (case side4 => exact HC722_2.out)
             (case side5 => exact Kd.Cx (Kd.R_reads' HO726.out).2.2)
             (case side6 => exact (Kd.R_reads' HO726.out).2.1)
             (case side7 => exact Kd.Cx (Kd.R_reads' HO729.out).2.2)
             (case side8 => exact (Kd.R_reads' HO729.out).2.1)
             rintro e w35 ⟨rfl, hb⟩
             have HS0_ := (hb.cell (World.block_lt_of_cell? _ _ (hHeld.1))).trans (hHeld.1)
             have HS1_ := (hb.cell (World.block_lt_of_cell? _ _ (hHeld.2.1))).trans (hHeld.2.1)
             have HS2_ := (hb.cell (World.block_lt_of_cell? _ _ (hHeld.2.2))).trans (hHeld.2.2)
             refine ⟨_, rfl, ?_⟩
             replace HO_5 := Aside0.mk (Kd.S_below (Kd.Sx HO_5.out) hb)
             replace HO_7 := Aside0.mk (Kd.S_below (Kd.Sx HO_7.out) hb)
             replace HL722_1 := Aside0.mk (Kd.R_below (Kd.Rx HL722_1.out) hb)
             replace HL722_2 := Aside0.mk (Kd.R_below (Kd.Rx HL722_2.out) hb)
             replace HO726 := Aside0.mk (Kd.R_below (Kd.Rx HO726.out) hb)
             replace HO729 := Aside0.mk (Kd.R_below (Kd.Rx HO729.out) hb)
             replace HR722_1 := Aside0.mk (Kd.C_below (by repeat (first | (with_reducible exact HR722_1.out) | (with_reducible refine Kd.C_alloc ?_ _) | (with_reducible refine Kd.C_drewN ?_ _) | (with_reducible refine Kd.C_drew ?_) | exact HR722_1.out)) hb)
             replace HR722_2 := Aside0.mk (Kd.C_below (by repeat (first | (with_reducible exact HR722_2.out) | (with_reducible refine Kd.C_alloc ?_ _) | (with_reducible refine Kd.C_drewN ?_ _) | (with_reducible refine Kd.C_drew ?_) | exact HR722_2.out)) hb)
             replace HB := Aside0.mk (below_step (Bx HB.out) hb)
             (try clear hb)
             (try clear hb2)
             (try clear hk)
             (try clear hi)
             refine hK.out _ _ ⟨HS0_, HS1_, HS2_⟩ (fun hHeld => ?_)
             clear hK K
             refine norm_ (a' := ?_) ?_ ?_
             rotate_left
             ·
              show Act.put _ (some 63) _ = _
              simp only [Act.put, List.setIfInBounds_toArray, List.set_cons_zero, List.set_cons_succ, i64_w, i32_w]
              rfl
             refine pure_ (i := 6) (N := some 64) (v := ?_) (a' := ?_) #[true, true, true, true, true, true, true] rfl rfl (by kernel_rfl) (fun _ _ _ h => h) (Or.inl ⟨by rfl, ?_⟩) ?_ ?_
             rotate_left
             ·
              intro w'
              go_simp
              with_reducible rfl
             rotate_left
             ·
              simp only [Act.put, List.setIfInBounds_toArray, List.set_cons_zero, List.set_cons_succ, i64_w, i32_w]
              rfl
             refine done_ (by kernel_rfl) ?_
             try go_wp2
             go_roundg k3
             case measure => have := HJ4.out; have := HJ18.out; have := HK3.out; omega
             case rel => exact ⟨(wrap64 (x9_3 + 1)), (by first | rfl | (simp; done) | (simp [*]; done)), H', ⟨by have := HJ4.out; have := HJ18.out; have := HK3.out; omega⟩, ⟨Kd.Sm HO_5.out⟩, ⟨Kd.Sm HO_7.out⟩, ⟨Bx HB.out⟩⟩
            ·
             replace c29 := Bool.eq_false_iff.mpr c29
             subst c29
             have H1 : (some false) = some r := by rw [if_neg (show ¬ (false = true) by decide)] at H; exact H
             clear H
             have H := H1
             clear H1
             obtain rfl := Option.some.inj H
             try go_wp2
             replace HO_5 := Aside0.mk (Kd.S_drew HO_5.out)
             replace HO_7 := Aside0.mk (Kd.S_drew HO_7.out)
             replace HB := Aside0.mk (below_drew1 HB.out)
             obtain ⟨Ao37, co37, eo37⟩ := Kd.S_slice HO_5.out
             (first | subst eo37 | (injection eo37 with f1_ f2_ f3_; have f4_ := f1_.symm; have f5_ := f3_.symm; clear f1_ f2_ f3_; subst f4_; subst f5_))
             have p722 : 0 ≤ (x9_3 : Int) := tx
             have q722 : x9_3 < (t713.length : Int) := tx
             obtain ⟨ad722, A722_1, c722_1, A722_2, c722_2, e722, hx722_0, hx722_1, hx722_2, hl722_1, hi722_1, hl722_2, hi722_2⟩ := at_T34 (Kd.S_reads' HO_5.out).2.2 x9_3 p722 q722
             cases e722
             obtain ⟨ce722, hce722, hMe722, hcc722⟩ := Kd.S_get HO_5.out z34 x9_3 p722 (by first | exact q722 | exact tx | (have e_ := (Kd.S_reads' HO_5.out).1; omega))
             obtain ⟨ve722_1, ve722_2, rfl, ge722_1, ge722_2⟩ := k34_openM hMe722
             have hv722_1 := hcc722 1 _ rfl
             rw [add_field _ _ 1 (by omega)] at hv722_1
             replace hv722_1 := Option.some.inj (hv722_1.symm.trans hx722_1)
             rw [hv722_1] at ge722_1
             have HL722_1 := Aside0.mk (show Kd.R (Kd.int .u64) 96 _ _ _ _ ((rd_T34 t713 x9_3).f0.f1) from ge722_1)
             clear hv722_1 ge722_1
             have hv722_2 := hcc722 2 _ rfl
             rw [add_field _ _ 2 (by omega)] at hv722_2
             replace hv722_2 := Option.some.inj (hv722_2.symm.trans hx722_2)
             rw [hv722_2] at ge722_2
             have HL722_2 := Aside0.mk (show Kd.R (Kd.int .u64) 96 _ _ _ _ ((rd_T34 t713 x9_3).f1) from ge722_2)
             clear hv722_2 ge722_2
             clear hcc722 hce722
             have HR722_1 := Aside0.mk hi722_1
             have HC722_1 := Aside0.mk hl722_1
             clear hi722_1 hl722_1
             have HR722_2 := Aside0.mk hi722_2
             have HC722_2 := Aside0.mk hl722_2
             clear hi722_2 hl722_2
             replace p722 := eq_true p722
             replace q722 := eq_true q722
             refine start_ (n := 7) (S := fun w' => w'.cell? (ad722.add ((x9_3).toNat * 3)) = some (.bool ((rd_T34 t713 x9_3).f0.f0)) ∧ w'.cell? ⟨(ad722.add ((x9_3).toNat * 3)).block, (ad722.add ((x9_3).toNat * 3)).off + 1, none⟩ = some (.slice A722_1 ((rd_T34 t713 x9_3).f0.f1).length c722_1) ∧ w'.cell? ⟨(ad722.add ((x9_3).toNat * 3)).block, (ad722.add ((x9_3).toNat * 3)).off + 2, none⟩ = some (.slice A722_2 ((rd_T34 t713 x9_3).f1).length c722_2)) (ds := []) #[false, false, false, false, false, false, false] (by kernel_rfl) rfl rfl ⟨hx722_0, hx722_1, hx722_2⟩ (fun hHeld => ?_)
             generalize wr.drew = w36 at HO_5 HO_7 HB HL722_1 HL722_2 HR722_1 HR722_2 hx722_0 hx722_1 hx722_2 hHeld ⊢
             refine pure_ (i := 0) (N := some 58) (v := ?_) (a' := ?_) #[true, false, false, false, false, false, false] rfl rfl (by kernel_rfl) (fun _ _ _ h => h) (Or.inl ⟨by rfl, ?_⟩) ?_ ?_
             rotate_left
             ·
              intro w'
              go_simp
              with_reducible rfl
             rotate_left
             ·
              simp only [Act.put, List.setIfInBounds_toArray, List.set_cons_zero, List.set_cons_succ, i64_w, i32_w]
              rfl
             refine pure_ (i := 1) (N := some 59) (v := ?_) (a' := ?_) #[true, true, false, false, false, false, false] rfl rfl (by kernel_rfl) (fun _ _ _ h => h) (Or.inl ⟨by rfl, ?_⟩) ?_ ?_
             rotate_left
             ·
              intro w'
              go_simp
              with_reducible rfl
             rotate_left
             ·
              simp only [Act.put, List.setIfInBounds_toArray, List.set_cons_zero, List.set_cons_succ, i64_w, i32_w]
              rfl
             refine pure_ (i := 2) (N := some 60) (v := ?_) (a' := ?_) #[true, true, true, false, false, false, false] rfl rfl (by kernel_rfl) (fun _ _ _ h => h) (Or.inl ⟨by rfl, ?_⟩) ?_ ?_
             rotate_left
             ·
              intro w'
              go_simp
              with_reducible rfl
             rotate_left
             ·
              simp only [Act.put, List.setIfInBounds_toArray, List.set_cons_zero, List.set_cons_succ, i64_w, i32_w]
              rfl
             refine take_ (i := 3) (N := some 61) (v := ?_) (a' := ?_) #[true, true, true, true, false, false, false] rfl rfl (by kernel_rfl) (fun _ _ _ h => h) (Or.inl ⟨by rfl, ?_⟩) hHeld ?_ ?_
             rotate_left
             ·
              rintro w' ⟨s0, s1, s2⟩
              go_simp
              with_reducible rfl
             rotate_left
             ·
              simp only [Act.put, List.setIfInBounds_toArray, List.set_cons_zero, List.set_cons_succ, i64_w, i32_w]
              rfl
             refine one_ (i := 4) (N := some 62) #[true, true, true, true, true, false, false] rfl rfl (by kernel_rfl) (by decide) (fun K hK => ?_)
             refine goes_ Try.func13 (by kernel_rfl) rfl #[.int .i64 0] (by rfl) rfl rfl (by (try simp only [List.map_toArray, List.map_cons, List.map_nil]); first | done | rfl | (simp only [List.length_drop, List.length_take]; rfl)) ?_
             with_reducible refine (rat_Of.calls k3 0 t723 t724 t727 _ A27.out).mono ?_
             rintro e w38 ⟨v725, v728, rfl, ho0, ho1, hb⟩
             have HS0_ := (hb.cell (World.block_lt_of_cell? _ _ (hHeld.1))).trans (hHeld.1)
             have HS1_ := (hb.cell (World.block_lt_of_cell? _ _ (hHeld.2.1))).trans (hHeld.2.1)
             have HS2_ := (hb.cell (World.block_lt_of_cell? _ _ (hHeld.2.2))).trans (hHeld.2.2)
             refine ⟨_, rfl, ?_⟩
             replace HO_5 := Aside0.mk (Kd.S_mono (Kd.S_told (Kd.S_told (Kd.S_old (Kd.Sx HO_5.out) hb) (Kd.R_base ho0)) (Kd.R_base ho1)) (fun _ h_ => h_.1))
             replace HO_7 := Aside0.mk (Kd.S_mono (Kd.S_told (Kd.S_told (Kd.S_old (Kd.Sx HO_7.out) hb) (Kd.R_base ho0)) (Kd.R_base ho1)) (fun _ h_ => h_.1))
             have HO726 := Aside0.mk (Kd.R_lower (Kd.R_new' (Kd.R_new' ho0 (Kd.R_lt (Kd.Rx HL722_1.out))) (Kd.R_lt (Kd.Rx HL722_2.out))) (below_size (Bx HB.out)))
             have HO729 := Aside0.mk (Kd.R_lower (Kd.R_new' (Kd.R_new' ho1 (Kd.R_lt (Kd.Rx HL722_1.out))) (Kd.R_lt (Kd.Rx HL722_2.out))) (below_size (Bx HB.out)))
             replace HL722_1 := Aside0.mk (Kd.R_mono (Kd.R_told (Kd.R_told (Kd.R_old (Kd.Rx HL722_1.out) hb) (Kd.R_base ho0)) (Kd.R_base ho1)) (fun _ h_ => h_.1))
             replace HL722_2 := Aside0.mk (Kd.R_mono (Kd.R_told (Kd.R_told (Kd.R_old (Kd.Rx HL722_2.out) hb) (Kd.R_base ho0)) (Kd.R_base ho1)) (fun _ h_ => h_.1))
             replace HR722_1 := Aside0.mk (Kd.C_below (by repeat (first | (with_reducible exact HR722_1.out) | (with_reducible refine Kd.C_alloc ?_ _) | (with_reducible refine Kd.C_drewN ?_ _) | (with_reducible refine Kd.C_drew ?_) | exact HR722_1.out)) hb)
             replace HR722_2 := Aside0.mk (Kd.C_below (by repeat (first | (with_reducible exact HR722_2.out) | (with_reducible refine Kd.C_alloc ?_ _) | (with_reducible refine Kd.C_drewN ?_ _) | (with_reducible refine Kd.C_drew ?_) | exact HR722_2.out)) hb)
             replace HB := Aside0.mk (below_step (Bx HB.out) hb)
             (try clear hb)
             (try clear hb2)
             (try clear hk)
             (try clear hi)
             (try clear ho0)
             (try clear ho1)
             obtain ⟨Ao39, co39, eo39⟩ := Kd.R_slice HO726.out
             (first | subst eo39 | (injection eo39 with f1_ f2_ f3_; have f4_ := f1_.symm; have f5_ := f3_.symm; clear f1_ f2_ f3_; subst f4_; subst f5_))
             obtain ⟨Ao40, co40, eo40⟩ := Kd.R_slice HO729.out
             (first | subst eo40 | (injection eo40 with f1_ f2_ f3_; have f4_ := f1_.symm; have f5_ := f3_.symm; clear f1_ f2_ f3_; subst f4_; subst f5_))
             refine hK.out _ _ ⟨HS0_, HS1_, HS2_⟩ (fun hHeld => ?_)
             clear hK K
             refine norm_ (a' := ?_) ?_ ?_
             rotate_left
             ·
              show Act.put _ (some 62) _ = _
              simp only [Act.put, List.setIfInBounds_toArray, List.set_cons_zero, List.set_cons_succ, i64_w, i32_w]
              rfl
             refine one_ (i := 5) (N := some 63) #[true, true, true, true, true, true, false] rfl rfl (by kernel_rfl) (by decide) (fun K hK => ?_)
             refine goes_ Try.func12 (by kernel_rfl) rfl #[.agg #[.bool ((rd_T34 t713 x9_3).f0.f0), .slice A722_1 ((rd_T34 t713 x9_3).f0.f1).length c722_1, .slice A722_2 ((rd_T34 t713 x9_3).f1).length c722_2], .agg #[.bool t723, .slice Ao39 t724.length co39, .slice Ao40 t727.length co40]] (by rfl) rfl rfl (by (try simp only [List.map_toArray, List.map_cons, List.map_nil]); first | done | rfl | (simp only [List.length_drop, List.length_take]; rfl)) ?_
             with_reducible refine (rat_Same.calls k3 ((rd_T34 t713 x9_3).f0.f0) _ _ ((rd_T34 t713 x9_3).f0.f1) _ _ ((rd_T34 t713 x9_3).f1) t723 _ _ t724 _ _ t727 false _ ?side1 ?side2 ?side3 ?side4 ?side5 ?side6 ?side7 ?side8 A28.out).mono ?_
             (case side1 => repeat (first | exact (by repeat (first | (with_reducible exact HR722_1.out) | (with_reducible refine Kd.C_alloc ?_ _) | (with_reducible refine Kd.C_drewN ?_ _) | (with_reducible refine Kd.C_drew ?_) | exact HR722_1.out)) | (with_reducible refine Kd.C_alloc ?_ _) | (with_reducible refine Kd.C_drewN ?_ _) | (with_reducible refine Kd.C_drew ?_)))
             (case side2 => exact HC722_1.out)
             (case side3 => repeat (first | exact (by repeat (first | (with_reducible exact HR722_2.out) | (with_reducible refine Kd.C_alloc ?_ _) | (with_reducible refine Kd.C_drewN ?_ _) | (with_reducible refine Kd.C_drew ?_) | exact HR722_2.out)) | (with_reducible refine Kd.C_alloc ?_ _) | (with_reducible refine Kd.C_drewN ?_ _) | (with_reducible refine Kd.C_drew ?_)))
             (case side4 => exact HC722_2.out)
             (case side5 => exact Kd.Cx (Kd.R_reads' HO726.out).2.2)
             (case side6 => exact (Kd.R_reads' HO726.out).2.1)
             (case side7 => exact Kd.Cx (Kd.R_reads' HO729.out).2.2)
             (case side8 => exact (Kd.R_reads' HO729.out).2.1)
             rintro e w41 ⟨rfl, hb⟩
             have HS0_ := (hb.cell (World.block_lt_of_cell? _ _ (hHeld.1))).trans (hHeld.1)
             have HS1_ := (hb.cell (World.block_lt_of_cell? _ _ (hHeld.2.1))).trans (hHeld.2.1)
             have HS2_ := (hb.cell (World.block_lt_of_cell? _ _ (hHeld.2.2))).trans (hHeld.2.2)
             refine ⟨_, rfl, ?_⟩
             replace HO_5 := Aside0.mk (Kd.S_below (Kd.Sx HO_5.out) hb)
             replace HO_7 := Aside0.mk (Kd.S_below (Kd.Sx HO_7.out) hb)
             replace HL722_1 := Aside0.mk (Kd.R_below (Kd.Rx HL722_1.out) hb)
             replace HL722_2 := Aside0.mk (Kd.R_below (Kd.Rx HL722_2.out) hb)
             replace HO726 := Aside0.mk (Kd.R_below (Kd.Rx HO726.out) hb)
             replace HO729 := Aside0.mk (Kd.R_below (Kd.Rx HO729.out) hb)
             replace HR722_1 := Aside0.mk (Kd.C_below (by repeat (first | (with_reducible exact HR722_1.out) | (with_reducible refine Kd.C_alloc ?_ _) | (with_reducible refine Kd.C_drewN ?_ _) | (with_reducible refine Kd.C_drew ?_) | exact HR722_1.out)) hb)
             replace HR722_2 := Aside0.mk (Kd.C_below (by repeat (first | (with_reducible exact HR722_2.out) | (with_reducible refine Kd.C_alloc ?_ _) | (with_reducible refine Kd.C_drewN ?_ _) | (with_reducible refine Kd.C_drew ?_) | exact HR722_2.out)) hb)
             replace HB := Aside0.mk (below_step (Bx HB.out) hb)
             (try clear hb)
             (try clear hb2)
             (try clear hk)
             (try clear hi)
             refine hK.out _ _ ⟨HS0_, HS1_, HS2_⟩ (fun hHeld => ?_)
             clear hK K
             refine norm_ (a' := ?_) ?_ ?_
             rotate_left
             ·
              show Act.put _ (some 63) _ = _
              simp only [Act.put, List.setIfInBounds_toArray, List.set_cons_zero, List.set_cons_succ, i64_w, i32_w]
              rfl
             refine pure_ (i := 6) (N := some 64) (v := ?_) (a' := ?_) #[true, true, true, true, true, true, true] rfl rfl (by kernel_rfl) (fun _ _ _ h => h) (Or.inl ⟨by rfl, ?_⟩) ?_ ?_
             rotate_left
             ·
              intro w'
              go_simp
              with_reducible rfl
             rotate_left
             ·
              simp only [Act.put, List.setIfInBounds_toArray, List.set_cons_zero, List.set_cons_succ, i64_w, i32_w]
              rfl
             refine done_ (by kernel_rfl) ?_
             try go_wp2
             go_ret
             exact ⟨by first | rfl | (simp only [u64_u32_] <;> rfl) | (simp [errW_none, errW_some] <;> rfl) | (simp [*, errW_none, errW_some] <;> rfl), Bx HB.out⟩
           ·
            rw [if_neg c26] at H
            exact absurd H (by simp)
          ·
           rw [if_neg c25] at H
           exact absurd H (by simp)
         ·
          rw [if_neg c24] at H
          have c24b0 : decide (x9_3 < a0) = false := decide_eq_false c24
          clear c24
          have HC42 := Aside0.mk H
          clear H
          go_upto_region 12 with (fail)
          go_cut [71] (fun v71 wc => ∃ (kq : Nat) (x71_41 : Bool), v71 = .bool x71_41 ∧ Aside0 (triviumlaw11_VectMakes.j3 kq a0 a1 t713 t717 t718 x71_41 = some r) ∧ Aside0 (kq ≤ k3) ∧ Aside0 (Kd.S k34 34 wc w.heap.size (fun k_ => nb k_ v719) v715 t713) ∧ Aside0 (Kd.S k34 34 wc w.heap.size (fun k_ => nb k_ v715) v719 t717) ∧ Aside0 (Below w.heap.size w wc))
          case first =>
           have H := HC42.out
           clear HC42
           by_cases c43 : a1 < 0
           ·
            rw [if_pos c43] at H
            have c43b0 : decide (a1 < 0) = true := decide_eq_true c43
            clear c43
            (first | rw [c43b0] | (simp only [i64_w, i32_w]; rw [c43b0]) | skip)
            have H' := Aside0.mk H
            clear H
            go_wp2
            go_meet
            case rel => exact ⟨_, (true), (by first | rfl | (simp; done) | (simp [*]; done)), H', ⟨by have := HJ4.out; have := HJ18.out; have := HK3.out; first | omega | exact Nat.le_refl _⟩, ⟨by first | exact Kd.Sx HO_5.out | exact HO_5.out⟩, ⟨by first | exact Kd.Sx HO_7.out | exact HO_7.out⟩, ⟨Bx HB.out⟩⟩
           ·
            rw [if_neg c43] at H
            have c43b0 : decide (a1 < 0) = false := decide_eq_false c43
            clear c43
            (first | rw [c43b0] | (simp only [i64_w, i32_w]; rw [c43b0]) | skip)
            have H' := Aside0.mk H
            clear H
            go_wp2
            go_meet
            case rel => exact ⟨_, (decide (a1 ≥ a0)), (by first | rfl | (simp; done) | (simp [*]; done)), H', ⟨by have := HJ4.out; have := HJ18.out; have := HK3.out; first | omega | exact Nat.le_refl _⟩, ⟨by first | exact Kd.Sx HO_5.out | exact HO_5.out⟩, ⟨by first | exact Kd.Sx HO_7.out | exact HO_7.out⟩, ⟨Bx HB.out⟩⟩
          case rest =>
           clear HC42
           try clear c1
           try clear c2
           try clear p2
           try clear c3
           try clear c4
           try clear p6
           try clear c7
           try clear p7
           try clear q7
           try clear hx7
           try clear c8
           try clear c8b0
           try clear c9
           try clear c10
           try clear c10b0
           try clear c10b1
           try clear c11
           try clear c11b0
           try clear c11b1
           try clear c12
           try clear c12b0
           try clear c12b1
           try clear c13
           try clear c20
           try clear c20b0
           try clear c20b1
           try clear c23
           try clear c24
           try clear c24b0
           try clear c25
           try clear c25b0
           try clear c26
           try clear c26b0
           try clear c29
           try clear c43
           try clear c43b0
           try clear hx722_0
           try clear hx722_1
           try clear hx722_2
           try clear p2
           try clear p6
           try clear p722
           try clear q722
           obtain ⟨kq, x71_41, rfl, HA, HJ41, HO_5, HO_7, HB⟩ := hcut
           cases kq with
           | zero => exact absurd HA.out (by simp [triviumlaw11_VectMakes.j3])
           | succ kj41 =>
            have H := HA.out
            clear HA
            simp only [triviumlaw11_VectMakes.j3] at H
            by_cases c44 : x71_41 = true
            ·
             subst c44
             have H1 : (if t718 = 2 then (if (t717.length : Int) = 0 then ((triviumlaw11_works.f kj41).bind fun t731 => (some t731)) else (some false)) else (some false)) = some r := by rw [if_pos rfl] at H; exact H
             clear H
             have H := H1
             clear H1
             by_cases c45 : t718 = 2
             ·
              rw [if_pos c45] at H
              have c45b0 : (t718 == 2) = true := beq_iff_eq.mpr c45
              have c45b1 : (t718 != 2) = false := bne_eq_false_iff_eq.mpr c45
              clear c45
              by_cases c46 : (t717.length : Int) = 0
              ·
               rw [if_pos c46] at H
               have c46b0 : ((t717.length : Int) == 0) = true := beq_iff_eq.mpr c46
               have c46b1 : ((t717.length : Int) != 0) = false := bne_eq_false_iff_eq.mpr c46
               clear c46
               replace H := Option.bind_eq_some_iff.mp H
               obtain ⟨t731, A470, H⟩ := H
               replace H : (some t731) = some r := H
               have A47 := Aside0.mk A470
               clear A470
               obtain rfl := Option.some.inj H
               obtain ⟨Ao48, co48, eo48⟩ := Kd.S_slice HO_7.out
               subst eo48
               go_wp2_with (first | (go_at_call 11; (with_reducible refine (triviumlaw11_works.calls kj41  t731 _ A47.out).mono ?_); rintro e w49 ⟨rfl, hb⟩; replace HO_5 := Aside0.mk (Kd.S_below (Kd.Sx HO_5.out) hb); replace HO_7 := Aside0.mk (Kd.S_below (Kd.Sx HO_7.out) hb); replace HB := Aside0.mk (below_step (Bx HB.out) hb); (try clear hb); (try clear hb2); (try clear hk); (try clear hi)))
               go_ret
               exact ⟨by first | rfl | (simp only [u64_u32_] <;> rfl) | (simp [errW_none, errW_some] <;> rfl) | (simp [*, errW_none, errW_some] <;> rfl), Bx HB.out⟩
              ·
               rw [if_neg c46] at H
               have c46b0 : ((t717.length : Int) == 0) = false := beq_eq_false_iff_ne.mpr c46
               have c46b1 : ((t717.length : Int) != 0) = true := bne_iff_ne.mpr c46
               have c46b2 : ¬ (t717 = []) := fun h_ => c46 (by rw [h_]; rfl)
               obtain rfl := Option.some.inj H
               obtain ⟨Ao50, co50, eo50⟩ := Kd.S_slice HO_7.out
               subst eo50
               go_wp2
               go_ret
               exact ⟨by first | rfl | (simp only [u64_u32_] <;> rfl) | (simp [errW_none, errW_some] <;> rfl) | (simp [*, errW_none, errW_some] <;> rfl), Bx HB.out⟩
             ·
              rw [if_neg c45] at H
              have c45b0 : (t718 == 2) = false := beq_eq_false_iff_ne.mpr c45
              have c45b1 : (t718 != 2) = true := bne_iff_ne.mpr c45
              obtain rfl := Option.some.inj H
              go_wp2
              go_ret
              exact ⟨by first | rfl | (simp only [u64_u32_] <;> rfl) | (simp [errW_none, errW_some] <;> rfl) | (simp [*, errW_none, errW_some] <;> rfl), Bx HB.out⟩
            ·
             replace c44 := Bool.eq_false_iff.mpr c44
             subst c44
             have H1 : (if t718 = 0 then (if (t717.length : Int) = a0 then ((vect_Lead.f kj41 t717).bind fun t732 => (if t732 = a1 then (if 0 ≤ a1 then (if a1 < (t717.length : Int) then ((rat_One.f kj41 ((rd_T34 t717 a1).f0.f0) ((rd_T34 t717 a1).f0.f1) ((rd_T34 t717 a1).f1)).bind fun t734 => (if t734 = true then ((vect_Lead.f kj41 t713).bind fun t735 => (if t735 = a0 then ((triviumlaw11_works.f kj41).bind fun t736 => (some t736)) else (some false))) else (some false))) else (none)) else (none)) else (some false))) else (some false)) else (some false)) = some r := by rw [if_neg (show ¬ (false = true) by decide)] at H; exact H
             clear H
             have H := H1
             clear H1
             by_cases c51 : t718 = 0
             ·
              rw [if_pos c51] at H
              have c51b0 : (t718 == 0) = true := beq_iff_eq.mpr c51
              have c51b1 : (t718 != 0) = false := bne_eq_false_iff_eq.mpr c51
              clear c51
              by_cases c52 : (t717.length : Int) = a0
              ·
               rw [if_pos c52] at H
               have c52b0 : ((t717.length : Int) == a0) = true := beq_iff_eq.mpr c52
               have c52b1 : ((t717.length : Int) != a0) = false := bne_eq_false_iff_eq.mpr c52
               clear c52
               replace H := Option.bind_eq_some_iff.mp H
               obtain ⟨t732, A530, H⟩ := H
               replace H : (if t732 = a1 then (if 0 ≤ a1 then (if a1 < (t717.length : Int) then ((rat_One.f kj41 ((rd_T34 t717 a1).f0.f0) ((rd_T34 t717 a1).f0.f1) ((rd_T34 t717 a1).f1)).bind fun t734 => (if t734 = true then ((vect_Lead.f kj41 t713).bind fun t735 => (if t735 = a0 then ((triviumlaw11_works.f kj41).bind fun t736 => (some t736)) else (some false))) else (some false))) else (none)) else (none)) else (some false)) = some r := H
               have A53 := Aside0.mk A530
               clear A530
               by_cases c54 : t732 = a1
               ·
                rw [if_pos c54] at H
                have c54b0 : (t732 == a1) = true := beq_iff_eq.mpr c54
                have c54b1 : (t732 != a1) = false := bne_eq_false_iff_eq.mpr c54
                clear c54
                by_cases c55 : 0 ≤ a1
                ·
                 rw [if_pos c55] at H
                 have c55b0 : decide (0 ≤ a1) = true := decide_eq_true c55
                 clear c55
                 by_cases c56 : a1 < (t717.length : Int)
                 ·
                  rw [if_pos c56] at H
                  have c56b0 : decide (a1 < (t717.length : Int)) = true := decide_eq_true c56
                  clear c56
                  replace H := Option.bind_eq_some_iff.mp H
                  obtain ⟨t734, A570, H⟩ := H
                  replace H : (if t734 = true then ((vect_Lead.f kj41 t713).bind fun t735 => (if t735 = a0 then ((triviumlaw11_works.f kj41).bind fun t736 => (some t736)) else (some false))) else (some false)) = some r := H
                  have A57 := Aside0.mk A570
                  clear A570
                  by_cases c58 : t734 = true
                  ·
                   subst c58
                   have H1 : ((vect_Lead.f kj41 t713).bind fun t735 => (if t735 = a0 then ((triviumlaw11_works.f kj41).bind fun t736 => (some t736)) else (some false))) = some r := by rw [if_pos rfl] at H; exact H
                   clear H
                   have H := H1
                   clear H1
                   replace H := Option.bind_eq_some_iff.mp H
                   obtain ⟨t735, A590, H⟩ := H
                   replace H : (if t735 = a0 then ((triviumlaw11_works.f kj41).bind fun t736 => (some t736)) else (some false)) = some r := H
                   have A59 := Aside0.mk A590
                   clear A590
                   by_cases c60 : t735 = a0
                   ·
                    rw [if_pos c60] at H
                    have c60b0 : (t735 == a0) = true := beq_iff_eq.mpr c60
                    have c60b1 : (t735 != a0) = false := bne_eq_false_iff_eq.mpr c60
                    clear c60
                    replace H := Option.bind_eq_some_iff.mp H
                    obtain ⟨t736, A610, H⟩ := H
                    replace H : (some t736) = some r := H
                    have A61 := Aside0.mk A610
                    clear A610
                    obtain rfl := Option.some.inj H
                    obtain ⟨Ao62, co62, eo62⟩ := Kd.S_slice HO_7.out
                    subst eo62
                    go_wp2_with (first | (go_at_call 14; (with_reducible refine (vect_Lead.calls kj41 _ _ t717 t732 _ ?side1 ?side2 A53.out).mono ?_); (case side1 => exact Kd.Cx (Kd.S_reads' HO_7.out).2.2); (case side2 => exact (Kd.S_reads' HO_7.out).2.1); rintro e w63 ⟨rfl, hb⟩; replace HO_5 := Aside0.mk (Kd.S_below (Kd.Sx HO_5.out) hb); replace HO_7 := Aside0.mk (Kd.S_below (Kd.Sx HO_7.out) hb); replace HB := Aside0.mk (below_step (Bx HB.out) hb); (try clear hb); (try clear hb2); (try clear hk); (try clear hi); have p733 : 0 ≤ (a1 : Int) := tx; have q733 : a1 < (t717.length : Int) := tx; obtain ⟨ad733, A733_1, c733_1, A733_2, c733_2, e733, hx733_0, hx733_1, hx733_2, hl733_1, hi733_1, hl733_2, hi733_2⟩ := at_T34 (Kd.S_reads' HO_7.out).2.2 a1 p733 q733; cases e733; obtain ⟨ce733, hce733, hMe733, hcc733⟩ := Kd.S_get HO_7.out z34 a1 p733 (by first | exact q733 | exact tx | (have e_ := (Kd.S_reads' HO_7.out).1; omega)); obtain ⟨ve733_1, ve733_2, rfl, ge733_1, ge733_2⟩ := k34_openM hMe733; have hv733_1 := hcc733 1 _ rfl; rw [add_field _ _ 1 (by omega)] at hv733_1; replace hv733_1 := Option.some.inj (hv733_1.symm.trans hx733_1); rw [hv733_1] at ge733_1; have HL733_1 := Aside0.mk (show Kd.R (Kd.int .u64) 96 _ _ _ _ ((rd_T34 t717 a1).f0.f1) from ge733_1); clear hv733_1 ge733_1; have hv733_2 := hcc733 2 _ rfl; rw [add_field _ _ 2 (by omega)] at hv733_2; replace hv733_2 := Option.some.inj (hv733_2.symm.trans hx733_2); rw [hv733_2] at ge733_2; have HL733_2 := Aside0.mk (show Kd.R (Kd.int .u64) 96 _ _ _ _ ((rd_T34 t717 a1).f1) from ge733_2); clear hv733_2 ge733_2; clear hcc733 hce733; have HR733_1 := Aside0.mk hi733_1; have HC733_1 := Aside0.mk hl733_1; clear hi733_1 hl733_1; have HR733_2 := Aside0.mk hi733_2; have HC733_2 := Aside0.mk hl733_2; clear hi733_2 hl733_2; replace p733 := eq_true p733; replace q733 := eq_true q733) | (go_at_call 15; (with_reducible refine (rat_One.calls kj41 ((rd_T34 t717 a1).f0.f0) _ _ ((rd_T34 t717 a1).f0.f1) _ _ ((rd_T34 t717 a1).f1) true _ ?side1 ?side2 ?side3 ?side4 A57.out).mono ?_); (case side1 => repeat (first | exact (by repeat (first | (with_reducible exact HR733_1.out) | (with_reducible refine Kd.C_alloc ?_ _) | (with_reducible refine Kd.C_drewN ?_ _) | (with_reducible refine Kd.C_drew ?_) | exact HR733_1.out)) | (with_reducible refine Kd.C_alloc ?_ _) | (with_reducible refine Kd.C_drewN ?_ _) | (with_reducible refine Kd.C_drew ?_))); (case side2 => exact HC733_1.out); (case side3 => repeat (first | exact (by repeat (first | (with_reducible exact HR733_2.out) | (with_reducible refine Kd.C_alloc ?_ _) | (with_reducible refine Kd.C_drewN ?_ _) | (with_reducible refine Kd.C_drew ?_) | exact HR733_2.out)) | (with_reducible refine Kd.C_alloc ?_ _) | (with_reducible refine Kd.C_drewN ?_ _) | (with_reducible refine Kd.C_drew ?_))); (case side4 => exact HC733_2.out); rintro e w64 ⟨rfl, hb⟩; replace HO_5 := Aside0.mk (Kd.S_below (Kd.Sx HO_5.out) hb); replace HO_7 := Aside0.mk (Kd.S_below (Kd.Sx HO_7.out) hb); replace HL733_1 := Aside0.mk (Kd.R_below (Kd.Rx HL733_1.out) hb); replace HL733_2 := Aside0.mk (Kd.R_below (Kd.Rx HL733_2.out) hb); replace HR733_1 := Aside0.mk (Kd.C_below (by repeat (first | (with_reducible exact HR733_1.out) | (with_reducible refine Kd.C_alloc ?_ _) | (with_reducible refine Kd.C_drewN ?_ _) | (with_reducible refine Kd.C_drew ?_) | exact HR733_1.out)) hb); replace HR733_2 := Aside0.mk (Kd.C_below (by repeat (first | (with_reducible exact HR733_2.out) | (with_reducible refine Kd.C_alloc ?_ _) | (with_reducible refine Kd.C_drewN ?_ _) | (with_reducible refine Kd.C_drew ?_) | exact HR733_2.out)) hb); replace HB := Aside0.mk (below_step (Bx HB.out) hb); (try clear hb); (try clear hb2); (try clear hk); (try clear hi); obtain ⟨Ao65, co65, eo65⟩ := Kd.S_slice HO_5.out; subst eo65) | (go_at_call 14; (with_reducible refine (vect_Lead.calls kj41 _ _ t713 t735 _ ?side1 ?side2 A59.out).mono ?_); (case side1 => exact Kd.Cx (Kd.S_reads' HO_5.out).2.2); (case side2 => exact (Kd.S_reads' HO_5.out).2.1); rintro e w66 ⟨rfl, hb⟩; replace HO_5 := Aside0.mk (Kd.S_below (Kd.Sx HO_5.out) hb); replace HO_7 := Aside0.mk (Kd.S_below (Kd.Sx HO_7.out) hb); replace HL733_1 := Aside0.mk (Kd.R_below (Kd.Rx HL733_1.out) hb); replace HL733_2 := Aside0.mk (Kd.R_below (Kd.Rx HL733_2.out) hb); replace HR733_1 := Aside0.mk (Kd.C_below (by repeat (first | (with_reducible exact HR733_1.out) | (with_reducible refine Kd.C_alloc ?_ _) | (with_reducible refine Kd.C_drewN ?_ _) | (with_reducible refine Kd.C_drew ?_) | exact HR733_1.out)) hb); replace HR733_2 := Aside0.mk (Kd.C_below (by repeat (first | (with_reducible exact HR733_2.out) | (with_reducible refine Kd.C_alloc ?_ _) | (with_reducible refine Kd.C_drewN ?_ _) | (with_reducible refine Kd.C_drew ?_) | exact HR733_2.out)) hb); replace HB := Aside0.mk (below_step (Bx HB.out) hb); (try clear hb); (try clear hb2); (try clear hk); (try clear hi)) | (go_at_call 11; (with_reducible refine (triviumlaw11_works.calls kj41  t736 _ A61.out).mono ?_); rintro e w67 ⟨rfl, hb⟩; replace HO_5 := Aside0.mk (Kd.S_below (Kd.Sx HO_5.out) hb); replace HO_7 := Aside0.mk (Kd.S_below (Kd.Sx HO_7.out) hb); replace HL733_1 := Aside0.mk (Kd.R_below (Kd.Rx HL733_1.out) hb); replace HL733_2 := Aside0.mk (Kd.R_below (Kd.Rx HL733_2.out) hb); replace HR733_1 := Aside0.mk (Kd.C_below (by repeat (first | (with_reducible exact HR733_1.out) | (with_reducible refine Kd.C_alloc ?_ _) | (with_reducible refine Kd.C_drewN ?_ _) | (with_reducible refine Kd.C_drew ?_) | exact HR733_1.out)) hb); replace HR733_2 := Aside0.mk (Kd.C_below (by repeat (first | (with_reducible exact HR733_2.out) | (with_reducible refine Kd.C_alloc ?_ _) | (with_reducible refine Kd.C_drewN ?_ _) | (with_reducible refine Kd.C_drew ?_) | exact HR733_2.out)) hb); replace HB := Aside0.mk (below_step (Bx HB.out) hb); (try clear hb); (try clear hb2); (try clear hk); (try clear hi)))
                    go_ret
                    exact ⟨by first | rfl | (simp only [u64_u32_] <;> rfl) | (simp [errW_none, errW_some] <;> rfl) | (simp [*, errW_none, errW_some] <;> rfl), Bx HB.out⟩
                   ·
                    rw [if_neg c60] at H
                    have c60b0 : (t735 == a0) = false := beq_eq_false_iff_ne.mpr c60
                    have c60b1 : (t735 != a0) = true := bne_iff_ne.mpr c60
                    obtain rfl := Option.some.inj H
                    obtain ⟨Ao68, co68, eo68⟩ := Kd.S_slice HO_7.out
                    subst eo68
                    go_wp2_with (first | (go_at_call 14; (with_reducible refine (vect_Lead.calls kj41 _ _ t717 t732 _ ?side1 ?side2 A53.out).mono ?_); (case side1 => exact Kd.Cx (Kd.S_reads' HO_7.out).2.2); (case side2 => exact (Kd.S_reads' HO_7.out).2.1); rintro e w69 ⟨rfl, hb⟩; replace HO_5 := Aside0.mk (Kd.S_below (Kd.Sx HO_5.out) hb); replace HO_7 := Aside0.mk (Kd.S_below (Kd.Sx HO_7.out) hb); replace HB := Aside0.mk (below_step (Bx HB.out) hb); (try clear hb); (try clear hb2); (try clear hk); (try clear hi); have p733 : 0 ≤ (a1 : Int) := tx; have q733 : a1 < (t717.length : Int) := tx; obtain ⟨ad733, A733_1, c733_1, A733_2, c733_2, e733, hx733_0, hx733_1, hx733_2, hl733_1, hi733_1, hl733_2, hi733_2⟩ := at_T34 (Kd.S_reads' HO_7.out).2.2 a1 p733 q733; cases e733; obtain ⟨ce733, hce733, hMe733, hcc733⟩ := Kd.S_get HO_7.out z34 a1 p733 (by first | exact q733 | exact tx | (have e_ := (Kd.S_reads' HO_7.out).1; omega)); obtain ⟨ve733_1, ve733_2, rfl, ge733_1, ge733_2⟩ := k34_openM hMe733; have hv733_1 := hcc733 1 _ rfl; rw [add_field _ _ 1 (by omega)] at hv733_1; replace hv733_1 := Option.some.inj (hv733_1.symm.trans hx733_1); rw [hv733_1] at ge733_1; have HL733_1 := Aside0.mk (show Kd.R (Kd.int .u64) 96 _ _ _ _ ((rd_T34 t717 a1).f0.f1) from ge733_1); clear hv733_1 ge733_1; have hv733_2 := hcc733 2 _ rfl; rw [add_field _ _ 2 (by omega)] at hv733_2; replace hv733_2 := Option.some.inj (hv733_2.symm.trans hx733_2); rw [hv733_2] at ge733_2; have HL733_2 := Aside0.mk (show Kd.R (Kd.int .u64) 96 _ _ _ _ ((rd_T34 t717 a1).f1) from ge733_2); clear hv733_2 ge733_2; clear hcc733 hce733; have HR733_1 := Aside0.mk hi733_1; have HC733_1 := Aside0.mk hl733_1; clear hi733_1 hl733_1; have HR733_2 := Aside0.mk hi733_2; have HC733_2 := Aside0.mk hl733_2; clear hi733_2 hl733_2; replace p733 := eq_true p733; replace q733 := eq_true q733) | (go_at_call 15; (with_reducible refine (rat_One.calls kj41 ((rd_T34 t717 a1).f0.f0) _ _ ((rd_T34 t717 a1).f0.f1) _ _ ((rd_T34 t717 a1).f1) true _ ?side1 ?side2 ?side3 ?side4 A57.out).mono ?_); (case side1 => repeat (first | exact (by repeat (first | (with_reducible exact HR733_1.out) | (with_reducible refine Kd.C_alloc ?_ _) | (with_reducible refine Kd.C_drewN ?_ _) | (with_reducible refine Kd.C_drew ?_) | exact HR733_1.out)) | (with_reducible refine Kd.C_alloc ?_ _) | (with_reducible refine Kd.C_drewN ?_ _) | (with_reducible refine Kd.C_drew ?_))); (case side2 => exact HC733_1.out); (case side3 => repeat (first | exact (by repeat (first | (with_reducible exact HR733_2.out) | (with_reducible refine Kd.C_alloc ?_ _) | (with_reducible refine Kd.C_drewN ?_ _) | (with_reducible refine Kd.C_drew ?_) | exact HR733_2.out)) | (with_reducible refine Kd.C_alloc ?_ _) | (with_reducible refine Kd.C_drewN ?_ _) | (with_reducible refine Kd.C_drew ?_))); (case side4 => exact HC733_2.out); rintro e w70 ⟨rfl, hb⟩; replace HO_5 := Aside0.mk (Kd.S_below (Kd.Sx HO_5.out) hb); replace HO_7 := Aside0.mk (Kd.S_below (Kd.Sx HO_7.out) hb); replace HL733_1 := Aside0.mk (Kd.R_below (Kd.Rx HL733_1.out) hb); replace HL733_2 := Aside0.mk (Kd.R_below (Kd.Rx HL733_2.out) hb); replace HR733_1 := Aside0.mk (Kd.C_below (by repeat (first | (with_reducible exact HR733_1.out) | (with_reducible refine Kd.C_alloc ?_ _) | (with_reducible refine Kd.C_drewN ?_ _) | (with_reducible refine Kd.C_drew ?_) | exact HR733_1.out)) hb); replace HR733_2 := Aside0.mk (Kd.C_below (by repeat (first | (with_reducible exact HR733_2.out) | (with_reducible refine Kd.C_alloc ?_ _) | (with_reducible refine Kd.C_drewN ?_ _) | (with_reducible refine Kd.C_drew ?_) | exact HR733_2.out)) hb); replace HB := Aside0.mk (below_step (Bx HB.out) hb); (try clear hb); (try clear hb2); (try clear hk); (try clear hi); obtain ⟨Ao71, co71, eo71⟩ := Kd.S_slice HO_5.out; subst eo71) | (go_at_call 14; (with_reducible refine (vect_Lead.calls kj41 _ _ t713 t735 _ ?side1 ?side2 A59.out).mono ?_); (case side1 => exact Kd.Cx (Kd.S_reads' HO_5.out).2.2); (case side2 => exact (Kd.S_reads' HO_5.out).2.1); rintro e w72 ⟨rfl, hb⟩; replace HO_5 := Aside0.mk (Kd.S_below (Kd.Sx HO_5.out) hb); replace HO_7 := Aside0.mk (Kd.S_below (Kd.Sx HO_7.out) hb); replace HL733_1 := Aside0.mk (Kd.R_below (Kd.Rx HL733_1.out) hb); replace HL733_2 := Aside0.mk (Kd.R_below (Kd.Rx HL733_2.out) hb); replace HR733_1 := Aside0.mk (Kd.C_below (by repeat (first | (with_reducible exact HR733_1.out) | (with_reducible refine Kd.C_alloc ?_ _) | (with_reducible refine Kd.C_drewN ?_ _) | (with_reducible refine Kd.C_drew ?_) | exact HR733_1.out)) hb); replace HR733_2 := Aside0.mk (Kd.C_below (by repeat (first | (with_reducible exact HR733_2.out) | (with_reducible refine Kd.C_alloc ?_ _) | (with_reducible refine Kd.C_drewN ?_ _) | (with_reducible refine Kd.C_drew ?_) | exact HR733_2.out)) hb); replace HB := Aside0.mk (below_step (Bx HB.out) hb); (try clear hb); (try clear hb2); (try clear hk); (try clear hi)))
                    go_ret
                    exact ⟨by first | rfl | (simp only [u64_u32_] <;> rfl) | (simp [errW_none, errW_some] <;> rfl) | (simp [*, errW_none, errW_some] <;> rfl), Bx HB.out⟩
                  ·
                   replace c58 := Bool.eq_false_iff.mpr c58
                   subst c58
                   have H1 : (some false) = some r := by rw [if_neg (show ¬ (false = true) by decide)] at H; exact H
                   clear H
                   have H := H1
                   clear H1
                   obtain rfl := Option.some.inj H
                   obtain ⟨Ao73, co73, eo73⟩ := Kd.S_slice HO_7.out
                   subst eo73
                   go_wp2_with (first | (go_at_call 14; (with_reducible refine (vect_Lead.calls kj41 _ _ t717 t732 _ ?side1 ?side2 A53.out).mono ?_); (case side1 => exact Kd.Cx (Kd.S_reads' HO_7.out).2.2); (case side2 => exact (Kd.S_reads' HO_7.out).2.1); rintro e w74 ⟨rfl, hb⟩; replace HO_5 := Aside0.mk (Kd.S_below (Kd.Sx HO_5.out) hb); replace HO_7 := Aside0.mk (Kd.S_below (Kd.Sx HO_7.out) hb); replace HB := Aside0.mk (below_step (Bx HB.out) hb); (try clear hb); (try clear hb2); (try clear hk); (try clear hi); have p733 : 0 ≤ (a1 : Int) := tx; have q733 : a1 < (t717.length : Int) := tx; obtain ⟨ad733, A733_1, c733_1, A733_2, c733_2, e733, hx733_0, hx733_1, hx733_2, hl733_1, hi733_1, hl733_2, hi733_2⟩ := at_T34 (Kd.S_reads' HO_7.out).2.2 a1 p733 q733; cases e733; obtain ⟨ce733, hce733, hMe733, hcc733⟩ := Kd.S_get HO_7.out z34 a1 p733 (by first | exact q733 | exact tx | (have e_ := (Kd.S_reads' HO_7.out).1; omega)); obtain ⟨ve733_1, ve733_2, rfl, ge733_1, ge733_2⟩ := k34_openM hMe733; have hv733_1 := hcc733 1 _ rfl; rw [add_field _ _ 1 (by omega)] at hv733_1; replace hv733_1 := Option.some.inj (hv733_1.symm.trans hx733_1); rw [hv733_1] at ge733_1; have HL733_1 := Aside0.mk (show Kd.R (Kd.int .u64) 96 _ _ _ _ ((rd_T34 t717 a1).f0.f1) from ge733_1); clear hv733_1 ge733_1; have hv733_2 := hcc733 2 _ rfl; rw [add_field _ _ 2 (by omega)] at hv733_2; replace hv733_2 := Option.some.inj (hv733_2.symm.trans hx733_2); rw [hv733_2] at ge733_2; have HL733_2 := Aside0.mk (show Kd.R (Kd.int .u64) 96 _ _ _ _ ((rd_T34 t717 a1).f1) from ge733_2); clear hv733_2 ge733_2; clear hcc733 hce733; have HR733_1 := Aside0.mk hi733_1; have HC733_1 := Aside0.mk hl733_1; clear hi733_1 hl733_1; have HR733_2 := Aside0.mk hi733_2; have HC733_2 := Aside0.mk hl733_2; clear hi733_2 hl733_2; replace p733 := eq_true p733; replace q733 := eq_true q733) | (go_at_call 15; (with_reducible refine (rat_One.calls kj41 ((rd_T34 t717 a1).f0.f0) _ _ ((rd_T34 t717 a1).f0.f1) _ _ ((rd_T34 t717 a1).f1) false _ ?side1 ?side2 ?side3 ?side4 A57.out).mono ?_); (case side1 => repeat (first | exact (by repeat (first | (with_reducible exact HR733_1.out) | (with_reducible refine Kd.C_alloc ?_ _) | (with_reducible refine Kd.C_drewN ?_ _) | (with_reducible refine Kd.C_drew ?_) | exact HR733_1.out)) | (with_reducible refine Kd.C_alloc ?_ _) | (with_reducible refine Kd.C_drewN ?_ _) | (with_reducible refine Kd.C_drew ?_))); (case side2 => exact HC733_1.out); (case side3 => repeat (first | exact (by repeat (first | (with_reducible exact HR733_2.out) | (with_reducible refine Kd.C_alloc ?_ _) | (with_reducible refine Kd.C_drewN ?_ _) | (with_reducible refine Kd.C_drew ?_) | exact HR733_2.out)) | (with_reducible refine Kd.C_alloc ?_ _) | (with_reducible refine Kd.C_drewN ?_ _) | (with_reducible refine Kd.C_drew ?_))); (case side4 => exact HC733_2.out); rintro e w75 ⟨rfl, hb⟩; replace HO_5 := Aside0.mk (Kd.S_below (Kd.Sx HO_5.out) hb); replace HO_7 := Aside0.mk (Kd.S_below (Kd.Sx HO_7.out) hb); replace HL733_1 := Aside0.mk (Kd.R_below (Kd.Rx HL733_1.out) hb); replace HL733_2 := Aside0.mk (Kd.R_below (Kd.Rx HL733_2.out) hb); replace HR733_1 := Aside0.mk (Kd.C_below (by repeat (first | (with_reducible exact HR733_1.out) | (with_reducible refine Kd.C_alloc ?_ _) | (with_reducible refine Kd.C_drewN ?_ _) | (with_reducible refine Kd.C_drew ?_) | exact HR733_1.out)) hb); replace HR733_2 := Aside0.mk (Kd.C_below (by repeat (first | (with_reducible exact HR733_2.out) | (with_reducible refine Kd.C_alloc ?_ _) | (with_reducible refine Kd.C_drewN ?_ _) | (with_reducible refine Kd.C_drew ?_) | exact HR733_2.out)) hb); replace HB := Aside0.mk (below_step (Bx HB.out) hb); (try clear hb); (try clear hb2); (try clear hk); (try clear hi)))
                   go_ret
                   exact ⟨by first | rfl | (simp only [u64_u32_] <;> rfl) | (simp [errW_none, errW_some] <;> rfl) | (simp [*, errW_none, errW_some] <;> rfl), Bx HB.out⟩
                 ·
                  rw [if_neg c56] at H
                  exact absurd H (by simp)
                ·
                 rw [if_neg c55] at H
                 exact absurd H (by simp)
               ·
                rw [if_neg c54] at H
                have c54b0 : (t732 == a1) = false := beq_eq_false_iff_ne.mpr c54
                have c54b1 : (t732 != a1) = true := bne_iff_ne.mpr c54
                obtain rfl := Option.some.inj H
                obtain ⟨Ao76, co76, eo76⟩ := Kd.S_slice HO_7.out
                subst eo76
                go_wp2_with (first | (go_at_call 14; (with_reducible refine (vect_Lead.calls kj41 _ _ t717 t732 _ ?side1 ?side2 A53.out).mono ?_); (case side1 => exact Kd.Cx (Kd.S_reads' HO_7.out).2.2); (case side2 => exact (Kd.S_reads' HO_7.out).2.1); rintro e w77 ⟨rfl, hb⟩; replace HO_5 := Aside0.mk (Kd.S_below (Kd.Sx HO_5.out) hb); replace HO_7 := Aside0.mk (Kd.S_below (Kd.Sx HO_7.out) hb); replace HB := Aside0.mk (below_step (Bx HB.out) hb); (try clear hb); (try clear hb2); (try clear hk); (try clear hi)))
                go_ret
                exact ⟨by first | rfl | (simp only [u64_u32_] <;> rfl) | (simp [errW_none, errW_some] <;> rfl) | (simp [*, errW_none, errW_some] <;> rfl), Bx HB.out⟩
              ·
               rw [if_neg c52] at H
               have c52b0 : ((t717.length : Int) == a0) = false := beq_eq_false_iff_ne.mpr c52
               have c52b1 : ((t717.length : Int) != a0) = true := bne_iff_ne.mpr c52
               obtain rfl := Option.some.inj H
               obtain ⟨Ao78, co78, eo78⟩ := Kd.S_slice HO_7.out
               subst eo78
               go_wp2
               go_ret
               exact ⟨by first | rfl | (simp only [u64_u32_] <;> rfl) | (simp [errW_none, errW_some] <;> rfl) | (simp [*, errW_none, errW_some] <;> rfl), Bx HB.out⟩
             ·
              rw [if_neg c51] at H
              have c51b0 : (t718 == 0) = false := beq_eq_false_iff_ne.mpr c51
              have c51b1 : (t718 != 0) = true := bne_iff_ne.mpr c51
              obtain rfl := Option.some.inj H
              go_wp2
              go_ret
              exact ⟨by first | rfl | (simp only [u64_u32_] <;> rfl) | (simp [errW_none, errW_some] <;> rfl) | (simp [*, errW_none, errW_some] <;> rfl), Bx HB.out⟩
theorem triviumlaw11_VectMakes.walk (P : triviumlaw11_VectMakes.Pure) (a0 : Int) (a1 : Int) (w : World) (w0 : (Lit.int .i64 a0).wf = true) (w1 : (Lit.int .i64 a1).wf = true) :
  Calls Try.prog 3 #[.int .i64 a0, .int .i64 a1] w fun e w' => e = .returned (.bool true) ∧ Below w.heap.size w w' := by
 obtain ⟨k, h⟩ := P a0 a1 w0 w1
 refine (triviumlaw11_VectMakes.calls k a0 a1 true w h).mono ?_
 rintro e w' ⟨rfl, hd⟩
 exact ⟨rfl, hd⟩
end Go.Proofs.Ytpmbcdakpmceiaa.F

end
