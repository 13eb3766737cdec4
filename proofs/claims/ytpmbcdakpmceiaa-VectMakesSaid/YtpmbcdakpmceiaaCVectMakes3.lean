/- A part of the proof of the law VectMakes: words, what the Go code does function by function, lemmas (assembled by wip/assemble.py). -/
import Derived.Test.YtpmbcdakpmceiaaCVectMakes2
set_option linter.unusedVariables false
set_option linter.unusedSimpArgs false
set_option linter.unusedSectionVars false
section
namespace Go.Proofs.Ytpmbcdakpmceiaa.F
open Go.RowKit Go.Proofs.YtpmbcdakpmceiaaW.PrintWords Go.Proofs.YtpmbcdakpmceiaaW.PrintLast Go.Proofs.YtpmbcdakpmceiaaW.PrintMore
attribute [local go_sem] max2_int min2_int max_two min_two max_three min_three max_four min_four
set_option linter.unusedVariables false
set_option linter.unusedSimpArgs false
set_option maxHeartbeats 8000000 in
set_option maxRecDepth 100000 in
theorem divide_knuth.calls (k : Nat) (A0 : Option Addr) (c0 : Nat) (l0 : List Int) (A1 : Option Addr) (c1 : Nat) (l1 : List Int) (r1 : List Int) (r2 : List Int) (w : World) (hr0 : Kd.C (Kd.int .u64) w A0 l0.length l0) (hc0 : l0.length ≤ c0) (hr1 : Kd.C (Kd.int .u64) w A1 l1.length l1) (hc1 : l1.length ≤ c1) (h : divide_knuth.f k l0 l1 = some (r1, r2)) :
  Calls Try.prog 156 #[.slice A0 l0.length c0, .slice A1 l1.length c1] w fun e w' => ∃ v0_ v1_ : Value, e = .returned (.tuple #[v0_, v1_]) ∧ Kd.R (Kd.int .u64) 96 w' w.heap.size (fun k_ => nb k_ v1_) v0_ r1 ∧ Kd.R (Kd.int .u64) 96 w' w.heap.size (fun k_ => nb k_ v0_) v1_ r2 ∧ Below w.heap.size w w' := by
 have HR0 := Aside0.mk hr0
 have HC0 := Aside0.mk hc0
 clear hr0 hc0
 have HR1 := Aside0.mk hr1
 have HC1 := Aside0.mk hc1
 clear hr1 hc1
 have HB := Aside0.mk (Below.refl w.heap.size w)
 have H : (if 0 ≤ (wrap64 ((l1.length : Int) - 1)) then (if (wrap64 ((l1.length : Int) - 1)) < (l1.length : Int) then ((limb_Bits.f k (rd l1 (wrap64 ((l1.length : Int) - 1)))).bind fun t418 => ((nat_Shl.f k l1 (wrap64 (32 - t418))).bind fun bt419 => (if 0 ≤ (wrap64 ((l0.length : Int) + 1)) then (if (wrap64 ((l0.length : Int) + 1) : Int).toNat ≤ 35184372088832 then ((some (List.replicate (wrap64 ((l0.length : Int) + 1) : Int).toNat 0 : List Int)).bind fun y423 => ((nat_Shl.f k l0 (wrap64 (32 - t418))).bind fun bt426 => (if 0 ≤ (wrap64 ((wrap64 ((l0.length : Int) - (l1.length : Int))) + 1)) then (if (wrap64 ((wrap64 ((l0.length : Int) - (l1.length : Int))) + 1) : Int).toNat ≤ 35184372088832 then (divide_knuth.l0 k (wrap64 (32 - t418)) bt419.1 (y423.take 0 ++ (bt426.1.take (y423.length - 0) ++ y423.drop (0 + min bt426.1.length (y423.length - 0)))) (List.replicate (wrap64 ((wrap64 ((l0.length : Int) - (l1.length : Int))) + 1) : Int).toNat 0) (wrap64 ((l0.length : Int) - (l1.length : Int)))) else (none)) else (none)))) else (none)) else (none)))) else (none)) else (none)) = some (r1, r2) := h
 clear h
 obtain ⟨ji3, hji3⟩ : ∃ j_ : Int, (wrap64 ((l1.length : Int) - 1)) = j_ := ⟨_, rfl⟩
 replace H : (if 0 ≤ (ji3) then (if (ji3) < (l1.length : Int) then ((limb_Bits.f k (rd l1 (ji3))).bind fun t418 => ((nat_Shl.f k l1 (wrap64 (32 - t418))).bind fun bt419 => (if 0 ≤ (wrap64 ((l0.length : Int) + 1)) then (if (wrap64 ((l0.length : Int) + 1) : Int).toNat ≤ 35184372088832 then ((some (List.replicate (wrap64 ((l0.length : Int) + 1) : Int).toNat 0 : List Int)).bind fun y423 => ((nat_Shl.f k l0 (wrap64 (32 - t418))).bind fun bt426 => (if 0 ≤ (wrap64 ((wrap64 ((l0.length : Int) - (l1.length : Int))) + 1)) then (if (wrap64 ((wrap64 ((l0.length : Int) - (l1.length : Int))) + 1) : Int).toNat ≤ 35184372088832 then (divide_knuth.l0 k (wrap64 (32 - t418)) bt419.1 (y423.take 0 ++ (bt426.1.take (y423.length - 0) ++ y423.drop (0 + min bt426.1.length (y423.length - 0)))) (List.replicate (wrap64 ((wrap64 ((l0.length : Int) - (l1.length : Int))) + 1) : Int).toNat 0) (wrap64 ((l0.length : Int) - (l1.length : Int)))) else (none)) else (none)))) else (none)) else (none)))) else (none)) else (none)) = some (r1, r2) := by first | (rw [hji3] at H; exact H) | (simp only [hji3] at H ⊢; exact H)
 have hji3w : (IntKind.i64.wrap ((l1.length : Int) - 1)) = ji3 := (i64_w _).trans hji3
 by_cases c4 : 0 ≤ (ji3)
 ·
  rw [if_pos c4] at H
  have c4b0 : decide (0 ≤ (ji3)) = true := decide_eq_true c4
  clear c4
  by_cases c5 : (ji3) < (l1.length : Int)
  ·
   rw [if_pos c5] at H
   have c5b0 : decide ((ji3) < (l1.length : Int)) = true := decide_eq_true c5
   clear c5
   replace H := Option.bind_eq_some_iff.mp H
   obtain ⟨t418, A60, H⟩ := H
   replace H : ((nat_Shl.f k l1 (wrap64 (32 - t418))).bind fun bt419 => (if 0 ≤ (wrap64 ((l0.length : Int) + 1)) then (if (wrap64 ((l0.length : Int) + 1) : Int).toNat ≤ 35184372088832 then ((some (List.replicate (wrap64 ((l0.length : Int) + 1) : Int).toNat 0 : List Int)).bind fun y423 => ((nat_Shl.f k l0 (wrap64 (32 - t418))).bind fun bt426 => (if 0 ≤ (wrap64 ((wrap64 ((l0.length : Int) - (l1.length : Int))) + 1)) then (if (wrap64 ((wrap64 ((l0.length : Int) - (l1.length : Int))) + 1) : Int).toNat ≤ 35184372088832 then (divide_knuth.l0 k (wrap64 (32 - t418)) bt419.1 (y423.take 0 ++ (bt426.1.take (y423.length - 0) ++ y423.drop (0 + min bt426.1.length (y423.length - 0)))) (List.replicate (wrap64 ((wrap64 ((l0.length : Int) - (l1.length : Int))) + 1) : Int).toNat 0) (wrap64 ((l0.length : Int) - (l1.length : Int)))) else (none)) else (none)))) else (none)) else (none))) = some (r1, r2) := H
   have A6 := Aside0.mk A60
   clear A60
   replace H := Option.bind_eq_some_iff.mp H
   obtain ⟨⟨t419, t420⟩, A70, H⟩ := H
   replace H : (if 0 ≤ (wrap64 ((l0.length : Int) + 1)) then (if (wrap64 ((l0.length : Int) + 1) : Int).toNat ≤ 35184372088832 then ((some (List.replicate (wrap64 ((l0.length : Int) + 1) : Int).toNat 0 : List Int)).bind fun y423 => ((nat_Shl.f k l0 (wrap64 (32 - t418))).bind fun bt426 => (if 0 ≤ (wrap64 ((wrap64 ((l0.length : Int) - (l1.length : Int))) + 1)) then (if (wrap64 ((wrap64 ((l0.length : Int) - (l1.length : Int))) + 1) : Int).toNat ≤ 35184372088832 then (divide_knuth.l0 k (wrap64 (32 - t418)) t419 (y423.take 0 ++ (bt426.1.take (y423.length - 0) ++ y423.drop (0 + min bt426.1.length (y423.length - 0)))) (List.replicate (wrap64 ((wrap64 ((l0.length : Int) - (l1.length : Int))) + 1) : Int).toNat 0) (wrap64 ((l0.length : Int) - (l1.length : Int)))) else (none)) else (none)))) else (none)) else (none)) = some (r1, r2) := H
   have A7 := Aside0.mk A70
   clear A70
   obtain ⟨ji8, hji8⟩ : ∃ j_ : Int, (wrap64 ((l0.length : Int) + 1)) = j_ := ⟨_, rfl⟩
   replace H : (if 0 ≤ (ji8) then (if (ji8 : Int).toNat ≤ 35184372088832 then ((some (List.replicate (ji8 : Int).toNat 0 : List Int)).bind fun y423 => ((nat_Shl.f k l0 (wrap64 (32 - t418))).bind fun bt426 => (if 0 ≤ (wrap64 ((wrap64 ((l0.length : Int) - (l1.length : Int))) + 1)) then (if (wrap64 ((wrap64 ((l0.length : Int) - (l1.length : Int))) + 1) : Int).toNat ≤ 35184372088832 then (divide_knuth.l0 k (wrap64 (32 - t418)) t419 (y423.take 0 ++ (bt426.1.take (y423.length - 0) ++ y423.drop (0 + min bt426.1.length (y423.length - 0)))) (List.replicate (wrap64 ((wrap64 ((l0.length : Int) - (l1.length : Int))) + 1) : Int).toNat 0) (wrap64 ((l0.length : Int) - (l1.length : Int)))) else (none)) else (none)))) else (none)) else (none)) = some (r1, r2) := by first | (rw [hji8] at H; exact H) | (simp only [hji8] at H ⊢; exact H)
   (try rw [hji8] at A6)
   (try rw [hji8] at A7)
   have hji8w : (IntKind.i64.wrap ((l0.length : Int) + 1)) = ji8 := (i64_w _).trans hji8
   by_cases c9 : 0 ≤ (ji8)
   ·
    rw [if_pos c9] at H
    have c9b0 := eq_true c9
    have c9b1 : decide (0 ≤ (ji8)) = true := decide_eq_true c9
    clear c9
    by_cases c10 : (ji8 : Int).toNat ≤ 35184372088832
    ·
     rw [if_pos c10] at H
     have c10b0 := eq_true c10
     have c10b1 : decide ((ji8 : Int).toNat ≤ 35184372088832) = true := decide_eq_true c10
     clear c10
     obtain ⟨y423, hy423⟩ : ∃ y_ : List Int, y_ = (List.replicate (ji8 : Int).toNat 0) := ⟨_, rfl⟩
     replace H : ((nat_Shl.f k l0 (wrap64 (32 - t418))).bind fun bt426 => (if 0 ≤ (wrap64 ((wrap64 ((l0.length : Int) - (l1.length : Int))) + 1)) then (if (wrap64 ((wrap64 ((l0.length : Int) - (l1.length : Int))) + 1) : Int).toNat ≤ 35184372088832 then (divide_knuth.l0 k (wrap64 (32 - t418)) t419 (y423.take 0 ++ (bt426.1.take (y423.length - 0) ++ y423.drop (0 + min bt426.1.length (y423.length - 0)))) (List.replicate (wrap64 ((wrap64 ((l0.length : Int) - (l1.length : Int))) + 1) : Int).toNat 0) (wrap64 ((l0.length : Int) - (l1.length : Int)))) else (none)) else (none))) = some (r1, r2) := by first | (rw [hy423]; with_reducible exact H) | (have H2_ := (Option.bind_some _ _).symm.trans H; rw [hy423]; with_reducible exact H2_) | (have H2_ := (Option.bind_some _ _).symm.trans H; with_reducible exact H2_) | with_reducible exact H | (rw [hy423]; exact H) | exact H
     have Ny423 := Aside0.mk hy423
     clear hy423
     replace H := Option.bind_eq_some_iff.mp H
     obtain ⟨⟨t426, t427⟩, A110, H⟩ := H
     replace H : (if 0 ≤ (wrap64 ((wrap64 ((l0.length : Int) - (l1.length : Int))) + 1)) then (if (wrap64 ((wrap64 ((l0.length : Int) - (l1.length : Int))) + 1) : Int).toNat ≤ 35184372088832 then (divide_knuth.l0 k (wrap64 (32 - t418)) t419 (y423.take 0 ++ (t426.take (y423.length - 0) ++ y423.drop (0 + min t426.length (y423.length - 0)))) (List.replicate (wrap64 ((wrap64 ((l0.length : Int) - (l1.length : Int))) + 1) : Int).toNat 0) (wrap64 ((l0.length : Int) - (l1.length : Int)))) else (none)) else (none)) = some (r1, r2) := H
     have A11 := Aside0.mk A110
     clear A110
     obtain ⟨y430, hy430⟩ : ∃ y_ : List Int, y_ = (y423.take 0 ++ (t426.take (y423.length - 0) ++ y423.drop (0 + min t426.length (y423.length - 0)))) := ⟨_, rfl⟩
     replace H : (if 0 ≤ (wrap64 ((wrap64 ((l0.length : Int) - (l1.length : Int))) + 1)) then (if (wrap64 ((wrap64 ((l0.length : Int) - (l1.length : Int))) + 1) : Int).toNat ≤ 35184372088832 then (divide_knuth.l0 k (wrap64 (32 - t418)) t419 y430 (List.replicate (wrap64 ((wrap64 ((l0.length : Int) - (l1.length : Int))) + 1) : Int).toNat 0) (wrap64 ((l0.length : Int) - (l1.length : Int)))) else (none)) else (none)) = some (r1, r2) := by first | (rw [hy430]; with_reducible exact H) | (have H2_ := (Option.bind_some _ _).symm.trans H; rw [hy430]; with_reducible exact H2_) | (have H2_ := (Option.bind_some _ _).symm.trans H; with_reducible exact H2_) | with_reducible exact H | (rw [hy430]; exact H) | exact H
     have Ny430 := Aside0.mk hy430
     clear hy430
     obtain ⟨ji12, hji12⟩ : ∃ j_ : Int, (wrap64 ((wrap64 ((l0.length : Int) - (l1.length : Int))) + 1)) = j_ := ⟨_, rfl⟩
     replace H : (if 0 ≤ (ji12) then (if (ji12 : Int).toNat ≤ 35184372088832 then (divide_knuth.l0 k (wrap64 (32 - t418)) t419 y430 (List.replicate (ji12 : Int).toNat 0) (wrap64 ((l0.length : Int) - (l1.length : Int)))) else (none)) else (none)) = some (r1, r2) := by first | (rw [hji12] at H; exact H) | (simp only [hji12] at H ⊢; exact H)
     (try rw [hji12] at A6)
     (try rw [hji12] at A7)
     (try rw [hji12] at A11)
     have hji12w : (IntKind.i64.wrap ((wrap64 ((l0.length : Int) - (l1.length : Int))) + 1)) = ji12 := (i64_w _).trans hji12
     by_cases c13 : 0 ≤ (ji12)
     ·
      rw [if_pos c13] at H
      have c13b0 := eq_true c13
      have c13b1 : decide (0 ≤ (ji12)) = true := decide_eq_true c13
      clear c13
      by_cases c14 : (ji12 : Int).toNat ≤ 35184372088832
      ·
       rw [if_pos c14] at H
       have c14b0 := eq_true c14
       have c14b1 : decide ((ji12 : Int).toNat ≤ 35184372088832) = true := decide_eq_true c14
       clear c14
       obtain ⟨y433, hy433⟩ : ∃ y_ : List Int, y_ = (List.replicate (ji12 : Int).toNat 0) := ⟨_, rfl⟩
       replace H : (divide_knuth.l0 k (wrap64 (32 - t418)) t419 y430 y433 (wrap64 ((l0.length : Int) - (l1.length : Int)))) = some (r1, r2) := by first | (rw [hy433]; with_reducible exact H) | (have H2_ := (Option.bind_some _ _).symm.trans H; rw [hy433]; with_reducible exact H2_) | (have H2_ := (Option.bind_some _ _).symm.trans H; with_reducible exact H2_) | with_reducible exact H | (rw [hy433]; exact H) | exact H
       have Ny433 := Aside0.mk hy433
       clear hy433
       have H' := Aside0.mk H
       clear H
       have p417 : 0 ≤ ((ji3) : Int) := tx
       have q417 : (ji3) < (l1.length : Int) := tx
       obtain ⟨ad417, e417, hx417_0⟩ := Kd.at_int HR1.out (ji3) p417 q417
       cases e417
       replace p417 := eq_true p417
       replace q417 := eq_true q417
       go_enter Try.func156, Try.ntmps156
       go_wp2_with (first | ((with_reducible refine gate_callee (f := 159) rfl ?_); refine goesL_ (some 24) rfl rfl Try.func159 (by kernel_rfl) rfl #[.int .u64 (rd l1 (ji3))] rfl (by (try simp only [List.map_toArray, List.map_cons, List.map_nil]); first | done | (simp only [hji3]; rfl) | rfl | (simp only [List.length_drop, List.length_take]; rfl)) ?_; (with_reducible refine (limb_Bits.calls k (rd l1 (ji3)) t418 _ A6.out).mono ?_); rintro e w' ⟨rfl, ⟨nd, rfl⟩⟩; refine ⟨_, rfl, ?_⟩) | ((with_reducible refine gate_callee (f := 160) rfl ?_); refine goesx (some 29) Try.func160 #[.slice (some ad417) l1.length c1, .int .i64 (wrap64 (32 - t418))] ?_; (with_reducible refine (nat_Shl.calls k _ _ l1 (wrap64 (32 - t418)) t419 t420 _ ?side1 ?side2 A7.out).mono ?_); (case side1 => exact Kd.Cx HR1.out); (case side2 => exact HC1.out); rintro e w15 ⟨v421, rfl, ho0, hb⟩; refine ⟨_, rfl, ?_⟩; have HO422 := Aside0.mk (Kd.R_lower ho0 (below_size (Bx HB.out))); replace HB := Aside0.mk (below_step (Bx HB.out) hb); (try clear hb); (try clear hb2); (try clear hk); (try clear hi); (try clear ho0)) | ((with_reducible refine gate_dst (N := 35) rfl ?_); refine Kd.R_make (Kd.int .u64) _ 96 rfl (N := 35) rfl 29 _ _ rfl ji8 rfl rfl Try.underlying29 (.int .u64 0) 8 info96 rfl (by decide) (by omega) 0 (ok := fun _ => True) (okp := fun _ => True) rfl (fun _ hk => hk) trivial (tx) (Nat.le_trans (Nat.mul_le_mul_right _ (tx : ji8.toNat ≤ 35184372088832)) (by omega)) (Below.refl _ _) (Nat.le_refl _) ?_; intro v424 w16 ho17 hb hg_ hnew_; clear hg_ hnew_; (first | rw [← Ny423.out] at ho17 | (simp only [Int.reduceToNat] at ho17; rw [← Ny423.out] at ho17)); have HO425 := Aside0.mk (Kd.R_lower (Kd.R_new' ho17 (Kd.R_lt (Kd.Rx HO422.out))) (below_size (Bx HB.out))); replace HO422 := Aside0.mk (Kd.R_elder' (Kd.Rx HO422.out) (Kd.R_base ho17) hb); replace HB := Aside0.mk (below_step (Bx HB.out) hb); clear hb ho17) | ((with_reducible refine gate_callee (f := 160) rfl ?_); refine goesx (some 39) Try.func160 #[.slice A0 l0.length c0, .int .i64 (wrap64 (32 - t418))] ?_; (with_reducible refine (nat_Shl.calls k _ _ l0 (wrap64 (32 - t418)) t426 t427 _ ?side1 ?side2 A11.out).mono ?_); (case side1 => exact Kd.Cx (Kd.C_below HR0.out HB.out)); (case side2 => exact HC0.out); rintro e w18 ⟨v428, rfl, ho0, hb⟩; refine ⟨_, rfl, ?_⟩; have HO429 := Aside0.mk (Kd.R_lower (Kd.R_new' (Kd.R_new' ho0 (Kd.R_lt (Kd.Rx HO422.out))) (Kd.R_lt (Kd.Rx HO425.out))) (below_size (Bx HB.out))); replace HO422 := Aside0.mk (Kd.R_elder' (Kd.Rx HO422.out) (Kd.R_base ho0) hb); replace HO425 := Aside0.mk (Kd.R_elder' (Kd.Rx HO425.out) (Kd.R_base ho0) hb); replace HB := Aside0.mk (below_step (Bx HB.out) hb); (try clear hb); (try clear hb2); (try clear hk); (try clear hi); (try clear ho0); obtain ⟨Ao21, co21, eo21⟩ := Kd.R_slice HO425.out; subst eo21; obtain ⟨Ao22, co22, eo22⟩ := Kd.R_slice HO429.out; subst eo22; have n_ := Aside0.mk (Kd.R_mono (ok' := (fun k_ => nb k_ v421 ∧ nb k_ (.slice Ao22 t426.length co22))) HO425.out (fun k_ hk => ⟨hk.1.2, hk.2⟩)); clear HO425; have HO425 := n_; clear n_) | ((with_reducible refine gate_builtin (b := .copy) (xs := #[.tmp 42, .tmp 43]) rfl ?_); refine Kd.R_copyin (Kd.int .u64) rfl (w0 := w) w.heap.size rfl (.tmp 42) (.tmp 43) 29 30 96 rfl Try.underlying29 (by kernel_rfl) (A0 := Ao21) (n := y423.length) (c := co21) (off := 0) (xs := y423) (ys := t426) (zs := y430) (okp := fun _ => False) rfl ?hD rfl ?hoff (Kd.Rx HO425.out) ?aR (fun _ _ h => h) (fun _ h => h.elim) Ny430.out (Bx HB.out) (below_size (Bx HB.out)) ?_; (case hD => exact fun _ => Kd.map_add0 _); (case hoff => exact Nat.zero_add _); (case aR => exact Kd.Cx (Kd.R_reads' HO429.out).2.2); intro r_ w19 ho hb hg; replace HO422 := Aside0.mk (Kd.R_after (v := (.slice Ao21 y423.length co21)) (v1 := (.slice Ao21 y423.length co21)) (ok := (fun k_ => nb k_ (.slice Ao22 t426.length co22))) (Kd.Rm HO422.out) hg (.inl rfl)); replace HO425 := Aside0.mk (ho); replace HO429 := Aside0.mk (Kd.R_after (v := (.slice Ao21 y423.length co21)) (v1 := (.slice Ao21 y423.length co21)) (ok := (fun k_ => nb k_ v421)) (Kd.Rm HO429.out) hg (.inl rfl)); replace HB := Aside0.mk (hb); clear ho hb hg) | ((with_reducible refine gate_dst (N := 51) rfl ?_); refine Kd.R_make (Kd.int .u64) _ 96 rfl (N := 51) rfl 29 _ _ rfl ji12 rfl rfl Try.underlying29 (.int .u64 0) 8 info96 rfl (by decide) (by omega) 0 (ok := fun _ => True) (okp := fun _ => True) rfl (fun _ hk => hk) trivial (tx) (Nat.le_trans (Nat.mul_le_mul_right _ (tx : ji12.toNat ≤ 35184372088832)) (by omega)) (Below.refl _ _) (Nat.le_refl _) ?_; intro v434 w23 ho24 hb hg_ hnew_; clear hg_ hnew_; (first | rw [← Ny433.out] at ho24 | (simp only [Int.reduceToNat] at ho24; rw [← Ny433.out] at ho24)); have HO435 := Aside0.mk (Kd.R_lower (Kd.R_new' (Kd.R_new' (Kd.R_new' ho24 (Kd.R_lt (Kd.Rx HO422.out))) (Kd.R_lt (Kd.Rx HO425.out))) (Kd.R_lt (Kd.Rx HO429.out))) (below_size (Bx HB.out))); replace HO422 := Aside0.mk (Kd.R_elder' (Kd.Rx HO422.out) (Kd.R_base ho24) hb); replace HO425 := Aside0.mk (Kd.R_elder' (Kd.Rx HO425.out) (Kd.R_base ho24) hb); replace HO429 := Aside0.mk (Kd.R_elder' (Kd.Rx HO429.out) (Kd.R_base ho24) hb); replace HB := Aside0.mk (below_step (Bx HB.out) hb); clear hb ho24))
       go_loopg [13] k (fun kq v13 w' => ∃ (x9_1 : List Int) (x12_1 : List Int) (x13_1 : Int), v13 = .int .i64 x13_1 ∧ Aside0 (divide_knuth.l0 kq (wrap64 (32 - t418)) t419 x9_1 x12_1 x13_1 = some (r1, r2)) ∧ Aside0 (kq ≤ k) ∧ Aside0 (Kd.R (Kd.int .u64) 96 w' w.heap.size (fun k_ => nb k_ ((.slice Ao21 y423.length co21)) ∧ nb k_ v434) v421 t419) ∧ Aside0 (Kd.R (Kd.int .u64) 96 w' w.heap.size (fun k_ => nb k_ v421 ∧ nb k_ v434) (.slice Ao21 y423.length co21) x9_1) ∧ Aside0 (Kd.R (Kd.int .u64) 96 w' w.heap.size (fun k_ => nb k_ v421 ∧ nb k_ ((.slice Ao21 y423.length co21))) v434 x12_1) ∧ Aside0 (Below w.heap.size w w'))
       case atStart => exact ⟨(y430), (y433), (wrap64 ((l0.length : Int) - (l1.length : Int))), (by first | rfl | (simp; done) | (simp [*]; done)), H', ⟨Nat.le_refl _⟩, ⟨Kd.Rm HO422.out⟩, ⟨Kd.Rm HO425.out⟩, ⟨Kd.Rm HO435.out⟩, ⟨Bx HB.out⟩⟩
       case round =>
        clear H'
        try clear c1
        try clear p2
        try clear c4
        try clear c4b0
        try clear p4
        try clear q4
        try clear hx4
        try clear c5
        try clear c5b0
        try clear p6
        try clear c9
        try clear c9b0
        try clear c9b1
        try clear c10
        try clear c10b0
        try clear c10b1
        try clear c13
        try clear c13b0
        try clear c13b1
        try clear c14
        try clear c14b0
        try clear c14b1
        try clear c15
        try clear c16
        try clear hx417_0
        try clear p417
        try clear q417
        obtain ⟨x9_1, x12_1, x13_1, rfl, HA, HK1, HO_7, HO_9, HO_12, HB⟩ := hrel
        have hl9_1 := (Kd.R_reads' HO_9.out).1
        rw [hl9_1] at HO_9
        (try simp only [hl9_1])
        (try simp only [hl9_1] at HO_7)
        (try simp only [hl9_1] at HO_12)
        cases gk with
        | zero => exact absurd HA.out (by simp [divide_knuth.l0])
        | succ k1 =>
         have H := HA.out
         clear HA
         simp only [divide_knuth.l0] at H
         by_cases c25 : x13_1 ≥ 0
         ·
          rw [if_pos c25] at H
          have c25b0 : decide (0 ≤ x13_1) = true := decide_eq_true c25
          (try simp only [hl9_1] at c25b0)
          clear c25
          replace H := Option.bind_eq_some_iff.mp H
          obtain ⟨t448, A260, H⟩ := H
          replace H : (if 0 ≤ x13_1 then (if x13_1 < (x12_1.length : Int) then ((some (x12_1.set (x13_1 : Int).toNat t448 : List Int)).bind fun y449 => ((divide_take.f k1 x9_1 x13_1 t419 (rd y449 x13_1)).bind fun bt451 => (if bt451.1 = true then ((divide_give.f k1 bt451.2 x13_1 t419).bind fun t455 => (divide_knuth.l0 k1 (wrap64 (32 - t418)) t419 t455 (y449.set (x13_1 : Int).toNat (IntKind.u64.wrap ((rd y449 x13_1) - 1))) (wrap64 (x13_1 - 1)))) else (divide_knuth.l0 k1 (wrap64 (32 - t418)) t419 bt451.2 y449 (wrap64 (x13_1 - 1)))))) else (none)) else (none)) = some (r1, r2) := H
          have A26 := Aside0.mk A260
          clear A260
          by_cases c27 : 0 ≤ x13_1
          ·
           rw [if_pos c27] at H
           have c27b0 : decide (0 ≤ x13_1) = true := decide_eq_true c27
           (try simp only [hl9_1] at c27b0)
           clear c27
           by_cases c28 : x13_1 < (x12_1.length : Int)
           ·
            rw [if_pos c28] at H
            have c28b0 : decide (x13_1 < (x12_1.length : Int)) = true := decide_eq_true c28
            (try simp only [hl9_1] at c28b0)
            clear c28
            obtain ⟨y449, hy449⟩ : ∃ y_ : List Int, y_ = (x12_1.set (x13_1 : Int).toNat t448) := ⟨_, rfl⟩
            (try (have hrs449 := rd_set_here_ hy449 (of_decide_eq_true (by assumption)) (of_decide_eq_true (by assumption))))
            replace H : ((divide_take.f k1 x9_1 x13_1 t419 (rd y449 x13_1)).bind fun bt451 => (if bt451.1 = true then ((divide_give.f k1 bt451.2 x13_1 t419).bind fun t455 => (divide_knuth.l0 k1 (wrap64 (32 - t418)) t419 t455 (y449.set (x13_1 : Int).toNat (IntKind.u64.wrap ((rd y449 x13_1) - 1))) (wrap64 (x13_1 - 1)))) else (divide_knuth.l0 k1 (wrap64 (32 - t418)) t419 bt451.2 y449 (wrap64 (x13_1 - 1))))) = some (r1, r2) := by first | (rw [hy449]; with_reducible exact H) | (have H2_ := (Option.bind_some _ _).symm.trans H; rw [hy449]; with_reducible exact H2_) | (have H2_ := (Option.bind_some _ _).symm.trans H; with_reducible exact H2_) | with_reducible exact H | (rw [hy449]; exact H) | exact H
            have Ny449 := Aside0.mk hy449
            clear hy449
            replace H := Option.bind_eq_some_iff.mp H
            obtain ⟨⟨t451, t452⟩, A300, H⟩ := H
            replace H : (if t451 = true then ((divide_give.f k1 t452 x13_1 t419).bind fun t455 => (divide_knuth.l0 k1 (wrap64 (32 - t418)) t419 t455 (y449.set (x13_1 : Int).toNat (IntKind.u64.wrap ((rd y449 x13_1) - 1))) (wrap64 (x13_1 - 1)))) else (divide_knuth.l0 k1 (wrap64 (32 - t418)) t419 t452 y449 (wrap64 (x13_1 - 1)))) = some (r1, r2) := H
            have A30 := Aside0.mk A300
            clear A300
            by_cases c31 : t451 = true
            ·
             subst c31
             have H1 : ((divide_give.f k1 t452 x13_1 t419).bind fun t455 => (divide_knuth.l0 k1 (wrap64 (32 - t418)) t419 t455 (y449.set (x13_1 : Int).toNat (IntKind.u64.wrap ((rd y449 x13_1) - 1))) (wrap64 (x13_1 - 1)))) = some (r1, r2) := by rw [if_pos rfl] at H; exact H
             clear H
             have H := H1
             clear H1
             obtain ⟨y454, hy454⟩ : ∃ y_ : List Int, y_ = (y449.set (x13_1 : Int).toNat (IntKind.u64.wrap ((rd y449 x13_1) - 1))) := ⟨_, rfl⟩
             replace H : ((divide_give.f k1 t452 x13_1 t419).bind fun t455 => (divide_knuth.l0 k1 (wrap64 (32 - t418)) t419 t455 y454 (wrap64 (x13_1 - 1)))) = some (r1, r2) := by first | (rw [hy454]; with_reducible exact H) | (have H2_ := (Option.bind_some _ _).symm.trans H; rw [hy454]; with_reducible exact H2_) | (have H2_ := (Option.bind_some _ _).symm.trans H; with_reducible exact H2_) | with_reducible exact H | (rw [hy454]; exact H) | exact H
             have Ny454 := Aside0.mk hy454
             clear hy454
             replace H := Option.bind_eq_some_iff.mp H
             obtain ⟨t455, A330, H⟩ := H
             replace H : (divide_knuth.l0 k1 (wrap64 (32 - t418)) t419 t455 y454 (wrap64 (x13_1 - 1))) = some (r1, r2) := H
             have A33 := Aside0.mk A330
             clear A330
             have H' := Aside0.mk H
             clear H
             obtain ⟨Ao34, co34, eo34⟩ := Kd.R_slice HO_7.out
             subst eo34
             go_wp2_with (first | ((with_reducible refine gate_callee (f := 161) rfl ?_); refine goesL_ (some 66) rfl rfl Try.func161 (by kernel_rfl) rfl #[.slice Ao21 x9_1.length co21, .int .i64 x13_1, .slice Ao34 t419.length co34] rfl (by (try simp only [List.map_toArray, List.map_cons, List.map_nil]); first | done | rfl | (simp only [hrs449]; done) | (simp only [hrs449]; rfl) | (simp only [List.length_drop, List.length_take]; rfl)) ?_; (with_reducible refine (divide_guess.calls k1 _ _ x9_1 x13_1 _ _ t419 t448 _ ?side1 ?side2 ?side3 ?side4 A26.out).mono ?_); (case side1 => exact Kd.Cx (Kd.R_reads' HO_9.out).2.2); (case side2 => exact (Kd.R_reads' HO_9.out).2.1); (case side3 => exact Kd.Cx (Kd.R_reads' HO_7.out).2.2); (case side4 => exact (Kd.R_reads' HO_7.out).2.1); rintro e w' ⟨rfl, ⟨nd, rfl⟩⟩; refine ⟨_, rfl, ?_⟩; (try (rw [drewN_self wr]; generalize hq_ : World.drewN wr _ = wr; have n0_ : Aside0 (Kd.R (Kd.int .u64) 96 wr w.heap.size (fun k_ => nb k_ (.slice Ao34 t419.length co34) ∧ nb k_ (.slice Ao21 x9_1.length co21)) v434 x12_1) := ⟨by rw [← hq_]; exact (Kd.Rx HO_12.out)⟩; have n1_ : Aside0 (Kd.R (Kd.int .u64) 96 wr w.heap.size (fun k_ => nb k_ v434 ∧ nb k_ (.slice Ao21 x9_1.length co21)) (.slice Ao34 t419.length co34) t419) := ⟨by rw [← hq_]; exact (Kd.Rm HO_7.out)⟩; have n2_ : Aside0 (Kd.R (Kd.int .u64) 96 wr w.heap.size (fun k_ => nb k_ v434 ∧ nb k_ (.slice Ao34 t419.length co34)) (.slice Ao21 x9_1.length co21) x9_1) := ⟨by rw [← hq_]; exact (Kd.Rm HO_9.out)⟩; have n3_ : Aside0 (Below w.heap.size w wr) := ⟨by rw [← hq_]; exact (Bx HB.out)⟩; clear HO_12 HO_7 HO_9 HB hq_; have HO_12 := n0_; have HO_7 := n1_; have HO_9 := n2_; have HB := n3_; clear n0_ n1_ n2_ n3_)); have p29 : 0 ≤ (x13_1 : Int) := tx; have q29 : (x13_1 : Int) < ((x12_1.length : Int) : Int) := tx; obtain ⟨go29, co29, eo29, gb29, gl29, cl29, HG29⟩ := Kd.R_form HO_12.out (by omega); (first | cases eo29 | (injection eo29 with ea_ en_ ec_; (first | subst ea_ | (injection ea_ with ea_; subst ea_)); subst ec_; clear en_)); have GB29 := Aside0.mk gb29; have GG29 := Aside0.mk HG29; clear gb29 gl29 HG29; obtain ⟨hx29_0, hf29_0⟩ := Kd.R_celln 0 HO_12.out (x13_1 : Int) p29 q29; replace p29 := eq_true p29; replace q29 := eq_true q29; obtain ⟨hy35_, hz35_⟩ := Kd.R_celln 0 HO_12.out (x13_1 : Int) (tx) (tx); have HP35 := Kd.R_putg HO_12.out (x13_1 : Int) t448) | ((with_reducible refine gate_store (t := 96) (p := 67) rfl ?_); refine store_event (t := 96) (p := 67) (v := ?vo_w36) (w1 := (wr.setCell ⟨go29, (x13_1 : Int).toNat, none⟩ (.int .u64 t448))) ?hg ?ho ?hn ?hr ?_; (case ho => rfl); (case hg => rfl); (case hn => rfl); (case hr => first | (go_simp; done) | (go_simp; rfl)); intro w36 hw; have hg : wr.grownBy w36 (some go29) := (by rw [hw]; exact HP35.2); have hp_ : Kd.R (Kd.int .u64) 96 w36 w.heap.size (fun k_ => nb k_ (.slice Ao34 t419.length co34) ∧ nb k_ (.slice Ao21 x9_1.length co21)) (.slice (some ⟨go29, 0, none⟩) x12_1.length co29) y449 := (by rw [hw, Ny449.out]; exact HP35.1); clear HP35; replace HO_7 := Aside0.mk (Kd.R_after (v := (.slice (some ⟨go29, 0, none⟩) x12_1.length co29)) (v1 := (.slice (some ⟨go29, 0, none⟩) x12_1.length co29)) (ok := (fun k_ => nb k_ (.slice Ao21 x9_1.length co21))) (by first | exact Kd.Rx HO_7.out | exact Kd.Rx (Kd.R_mono HO_7.out (fun _ hk => by (repeat' apply And.intro) <;> first | exact hk | exact hk.1 | exact hk.2 | exact hk.1.1 | exact hk.1.2 | exact hk.2.1 | exact hk.2.2))) hg (.inl rfl)); replace HO_9 := Aside0.mk (Kd.R_after (v := (.slice (some ⟨go29, 0, none⟩) x12_1.length co29)) (v1 := (.slice (some ⟨go29, 0, none⟩) x12_1.length co29)) (ok := (fun k_ => nb k_ (.slice Ao34 t419.length co34))) (by first | exact Kd.Rx HO_9.out | exact Kd.Rx (Kd.R_mono HO_9.out (fun _ hk => by (repeat' apply And.intro) <;> first | exact hk | exact hk.1 | exact hk.2 | exact hk.1.1 | exact hk.1.2 | exact hk.2.1 | exact hk.2.2))) hg (.inl rfl)); replace HO_12 := Aside0.mk (hp_); replace HB := Aside0.mk ((by rw [hw]; exact below_set (HB.out) GB29.out : Below w.heap.size w w36)); clear hg hw hp_; have p450 : 0 ≤ (x13_1 : Int) := tx; have q450 : x13_1 < (y449.length : Int) := (by have h_ : (x13_1 : Int) < ((x12_1.length : Int) : Int) := tx; first | (have e_ := (Kd.R_reads' HO_12.out).1; omega) | simpa only [Ny449.out, List.length_set] using h_); have ql450 : ((x13_1 : Int) < ((x12_1.length : Int) : Int)) = True := eq_true (tx); obtain ⟨ad450, e450, hx450_0⟩ := Kd.at_int (Kd.R_reads' HO_12.out).2.2 x13_1 p450 q450; obtain rfl : (⟨go29, 0, none⟩ : Addr) = ad450 := (by injection e450); (first | simp only [add_plain] at hx450_0 | simp only [add_at] at hx450_0 | simp only [Addr.add, Nat.zero_add] at hx450_0 | skip); replace p450 := eq_true p450; replace q450 := eq_true q450) | ((with_reducible refine gate_callee (f := 162) rfl ?_); refine goesL_ (some 75) rfl rfl Try.func162 (by kernel_rfl) rfl #[.slice Ao21 x9_1.length co21, .int .i64 x13_1, .slice Ao34 t419.length co34, .int .u64 (rd y449 x13_1)] rfl (by (try simp only [List.map_toArray, List.map_cons, List.map_nil]); first | done | rfl | (simp only [hrs449]; done) | (simp only [hrs449]; rfl) | (simp only [List.length_drop, List.length_take]; rfl)) ?_; (with_reducible refine (divide_take.calls k1 (fun k_ => some k_ = (.slice Ao21 x9_1.length co21 : Value).ownBlock) (.slice Ao21 x9_1.length co21) x9_1 x13_1 _ _ t419 (rd y449 x13_1) true t452 w _ ?side1 ?side2 ?side3 ?side4 A30.out).mono ?_); (case side1 => exact Bx HB.out); (case side2 => exact Kd.R_tight rfl HO_9.out); (case side3 => exact Kd.C_kept_own (HO_7.out) (fun k_ hk_ hs_ => (hk_.1) hs_)); (case side4 => exact (Kd.R_reads' HO_7.out).2.1); rintro e w37 ⟨rfl, hy0, hb, hkp⟩; refine ⟨_, rfl, ?_⟩; replace HO_7 := Aside0.mk (Kd.R_mono (ok' := fun k_ => nb k_ (.slice Ao21 x9_1.length co21) ∧ nb k_ (.slice (some ⟨go29, 0, none⟩) x12_1.length co29)) (Kd.R_keptB (HO_7.out) hkp (fun k_ hk_ hs_ => (hk_.1) hs_)) (fun k_ hk_ => ⟨hk_.1.1, hk_.1.2⟩)); replace HO_9 := Aside0.mk (Kd.R_reok rfl hy0 (fun k_ e_ => HO_9.out.1 k_ e_)); replace HO_12 := Aside0.mk (Kd.R_mono (ok' := fun k_ => nb k_ (.slice Ao34 t419.length co34) ∧ nb k_ (.slice Ao21 x9_1.length co21)) (Kd.R_keptB (HO_12.out) hkp (fun k_ hk_ hs_ => (hk_.2) hs_)) (fun k_ hk_ => ⟨hk_.1.1, hk_.1.2⟩)); replace HB := Aside0.mk (hb); (try clear hb); (try clear hkp); (try clear hy0); have p453 : 0 ≤ (x13_1 : Int) := tx; have q453 : x13_1 < (y449.length : Int) := (by have h_ : (x13_1 : Int) < ((x12_1.length : Int) : Int) := tx; first | (have e_ := (Kd.R_reads' HO_12.out).1; omega) | simpa only [Ny449.out, List.length_set] using h_); have ql453 : ((x13_1 : Int) < ((x12_1.length : Int) : Int)) = True := eq_true (tx); obtain ⟨ad453, e453, hx453_0⟩ := Kd.at_int (Kd.R_reads' HO_12.out).2.2 x13_1 p453 q453; obtain rfl : (⟨go29, 0, none⟩ : Addr) = ad453 := (by injection e453); (first | simp only [add_plain] at hx453_0 | simp only [add_at] at hx453_0 | simp only [Addr.add, Nat.zero_add] at hx453_0 | skip); replace p453 := eq_true p453; replace q453 := eq_true q453; have p32 : 0 ≤ (x13_1 : Int) := tx; have q32 : (x13_1 : Int) < ((x12_1.length : Int) : Int) := tx; obtain ⟨hx32_0, hf32_0⟩ := Kd.R_celln 0 HO_12.out (x13_1 : Int) p32 q32; replace p32 := eq_true p32; replace q32 := eq_true q32; obtain ⟨hy38_, hz38_⟩ := Kd.R_celln 0 HO_12.out (x13_1 : Int) (tx) (tx); have HP38 := Kd.R_putg HO_12.out (x13_1 : Int) (IntKind.u64.wrap ((rd y449 x13_1) - 1))) | ((with_reducible refine gate_store (t := 96) (p := 81) rfl ?_); refine store_event (t := 96) (p := 81) (v := ?vo_w39) (w1 := (w37.setCell ⟨go29, (x13_1 : Int).toNat, none⟩ (.int .u64 (IntKind.u64.wrap ((rd y449 x13_1) - 1))))) ?hg ?ho ?hn ?hr ?_; (case ho => rfl); (case hg => rfl); (case hn => rfl); (case hr => first | (go_simp; done) | (go_simp; rfl)); intro w39 hw; have hg : w37.grownBy w39 (some go29) := (by rw [hw]; exact HP38.2); have hp_ : Kd.R (Kd.int .u64) 96 w39 w.heap.size (fun k_ => nb k_ (.slice Ao34 t419.length co34) ∧ nb k_ (.slice Ao21 x9_1.length co21)) (.slice (some ⟨go29, 0, none⟩) x12_1.length co29) y454 := (by rw [hw, Ny454.out]; exact HP38.1); clear HP38; replace HO_7 := Aside0.mk (Kd.R_after (v := (.slice (some ⟨go29, 0, none⟩) x12_1.length co29)) (v1 := (.slice (some ⟨go29, 0, none⟩) x12_1.length co29)) (ok := (fun k_ => nb k_ (.slice Ao21 x9_1.length co21))) (by first | exact Kd.Rx HO_7.out | exact Kd.Rx (Kd.R_mono HO_7.out (fun _ hk => by (repeat' apply And.intro) <;> first | exact hk | exact hk.1 | exact hk.2 | exact hk.1.1 | exact hk.1.2 | exact hk.2.1 | exact hk.2.2))) hg (.inl rfl)); replace HO_9 := Aside0.mk (Kd.R_after (v := (.slice (some ⟨go29, 0, none⟩) x12_1.length co29)) (v1 := (.slice (some ⟨go29, 0, none⟩) x12_1.length co29)) (ok := (fun k_ => nb k_ (.slice Ao34 t419.length co34))) (by first | exact Kd.Rx HO_9.out | exact Kd.Rx (Kd.R_mono HO_9.out (fun _ hk => by (repeat' apply And.intro) <;> first | exact hk | exact hk.1 | exact hk.2 | exact hk.1.1 | exact hk.1.2 | exact hk.2.1 | exact hk.2.2))) hg (.inl rfl)); replace HO_12 := Aside0.mk (hp_); replace HB := Aside0.mk ((by rw [hw]; exact below_set (HB.out) GB29.out : Below w.heap.size w w39)); clear hg hw hp_) | ((with_reducible refine gate_callee (f := 163) rfl ?_); refine goesL_ (some 85) rfl rfl Try.func163 (by kernel_rfl) rfl #[.slice Ao21 x9_1.length co21, .int .i64 x13_1, .slice Ao34 t419.length co34] rfl (by (try simp only [List.map_toArray, List.map_cons, List.map_nil]); first | done | rfl | (simp only [hrs449]; done) | (simp only [hrs449]; rfl) | (simp only [List.length_drop, List.length_take]; rfl)) ?_; (with_reducible refine (divide_give.calls k1 (fun k_ => some k_ = (.slice Ao21 x9_1.length co21 : Value).ownBlock) (.slice Ao21 x9_1.length co21) t452 x13_1 _ _ t419 t455 w _ ?side1 ?side2 ?side3 ?side4 A33.out).mono ?_); (case side1 => exact Bx HB.out); (case side2 => exact Kd.R_tight rfl HO_9.out); (case side3 => exact Kd.C_kept_own (HO_7.out) (fun k_ hk_ hs_ => (hk_.1) hs_)); (case side4 => exact (Kd.R_reads' HO_7.out).2.1); rintro e w40 ⟨rfl, hy0, hb, hkp⟩; refine ⟨_, rfl, ?_⟩; replace HO_7 := Aside0.mk (Kd.R_mono (ok' := fun k_ => nb k_ (.slice Ao21 x9_1.length co21) ∧ nb k_ (.slice (some ⟨go29, 0, none⟩) x12_1.length co29)) (Kd.R_keptB (HO_7.out) hkp (fun k_ hk_ hs_ => (hk_.1) hs_)) (fun k_ hk_ => ⟨hk_.1.1, hk_.1.2⟩)); replace HO_9 := Aside0.mk (Kd.R_reok rfl hy0 (fun k_ e_ => HO_9.out.1 k_ e_)); replace HO_12 := Aside0.mk (Kd.R_mono (ok' := fun k_ => nb k_ (.slice Ao34 t419.length co34) ∧ nb k_ (.slice Ao21 x9_1.length co21)) (Kd.R_keptB (HO_12.out) hkp (fun k_ hk_ hs_ => (hk_.2) hs_)) (fun k_ hk_ => ⟨hk_.1.1, hk_.1.2⟩)); replace HB := Aside0.mk (hb); (try clear hb); (try clear hkp); (try clear hy0)))
             (try simp only [← hl9_1])
             go_roundg k1
             case measure => have := HK1.out; omega
             case rel => exact ⟨(t455), (y454), (wrap64 (x13_1 - 1)), (by first | rfl | (simp; done) | (simp [*]; done)), H', ⟨by have := HK1.out; omega⟩, ⟨by (try simp only [hl9_1]); (with_reducible repeat (first | apply Kd.R_alloc | apply Kd.R_drewN | apply Kd.R_drew)); exact HO_7.out⟩, ⟨by (try simp only [hl9_1]); (with_reducible repeat (first | apply Kd.R_alloc | apply Kd.R_drewN | apply Kd.R_drew)); exact HO_9.out⟩, ⟨by (try simp only [hl9_1]); (with_reducible repeat (first | apply Kd.R_alloc | apply Kd.R_drewN | apply Kd.R_drew)); exact HO_12.out⟩, ⟨Bx HB.out⟩⟩
            ·
             replace c31 := Bool.eq_false_iff.mpr c31
             subst c31
             have H1 : (divide_knuth.l0 k1 (wrap64 (32 - t418)) t419 t452 y449 (wrap64 (x13_1 - 1))) = some (r1, r2) := by rw [if_neg (show ¬ (false = true) by decide)] at H; exact H
             clear H
             have H := H1
             clear H1
             have H' := Aside0.mk H
             clear H
             obtain ⟨Ao41, co41, eo41⟩ := Kd.R_slice HO_7.out
             subst eo41
             go_wp2_with (first | ((with_reducible refine gate_callee (f := 161) rfl ?_); refine goesL_ (some 66) rfl rfl Try.func161 (by kernel_rfl) rfl #[.slice Ao21 x9_1.length co21, .int .i64 x13_1, .slice Ao41 t419.length co41] rfl (by (try simp only [List.map_toArray, List.map_cons, List.map_nil]); first | done | rfl | (simp only [hrs449]; done) | (simp only [hrs449]; rfl) | (simp only [List.length_drop, List.length_take]; rfl)) ?_; (with_reducible refine (divide_guess.calls k1 _ _ x9_1 x13_1 _ _ t419 t448 _ ?side1 ?side2 ?side3 ?side4 A26.out).mono ?_); (case side1 => exact Kd.Cx (Kd.R_reads' HO_9.out).2.2); (case side2 => exact (Kd.R_reads' HO_9.out).2.1); (case side3 => exact Kd.Cx (Kd.R_reads' HO_7.out).2.2); (case side4 => exact (Kd.R_reads' HO_7.out).2.1); rintro e w' ⟨rfl, ⟨nd, rfl⟩⟩; refine ⟨_, rfl, ?_⟩; (try (rw [drewN_self wr]; generalize hq_ : World.drewN wr _ = wr; have n0_ : Aside0 (Kd.R (Kd.int .u64) 96 wr w.heap.size (fun k_ => nb k_ (.slice Ao41 t419.length co41) ∧ nb k_ (.slice Ao21 x9_1.length co21)) v434 x12_1) := ⟨by rw [← hq_]; exact (Kd.Rx HO_12.out)⟩; have n1_ : Aside0 (Kd.R (Kd.int .u64) 96 wr w.heap.size (fun k_ => nb k_ v434 ∧ nb k_ (.slice Ao21 x9_1.length co21)) (.slice Ao41 t419.length co41) t419) := ⟨by rw [← hq_]; exact (Kd.Rm HO_7.out)⟩; have n2_ : Aside0 (Kd.R (Kd.int .u64) 96 wr w.heap.size (fun k_ => nb k_ v434 ∧ nb k_ (.slice Ao41 t419.length co41)) (.slice Ao21 x9_1.length co21) x9_1) := ⟨by rw [← hq_]; exact (Kd.Rm HO_9.out)⟩; have n3_ : Aside0 (Below w.heap.size w wr) := ⟨by rw [← hq_]; exact (Bx HB.out)⟩; clear HO_12 HO_7 HO_9 HB hq_; have HO_12 := n0_; have HO_7 := n1_; have HO_9 := n2_; have HB := n3_; clear n0_ n1_ n2_ n3_)); have p29 : 0 ≤ (x13_1 : Int) := tx; have q29 : (x13_1 : Int) < ((x12_1.length : Int) : Int) := tx; obtain ⟨go29, co29, eo29, gb29, gl29, cl29, HG29⟩ := Kd.R_form HO_12.out (by omega); (first | cases eo29 | (injection eo29 with ea_ en_ ec_; (first | subst ea_ | (injection ea_ with ea_; subst ea_)); subst ec_; clear en_)); have GB29 := Aside0.mk gb29; have GG29 := Aside0.mk HG29; clear gb29 gl29 HG29; obtain ⟨hx29_0, hf29_0⟩ := Kd.R_celln 0 HO_12.out (x13_1 : Int) p29 q29; replace p29 := eq_true p29; replace q29 := eq_true q29; obtain ⟨hy42_, hz42_⟩ := Kd.R_celln 0 HO_12.out (x13_1 : Int) (tx) (tx); have HP42 := Kd.R_putg HO_12.out (x13_1 : Int) t448) | ((with_reducible refine gate_store (t := 96) (p := 67) rfl ?_); refine store_event (t := 96) (p := 67) (v := ?vo_w43) (w1 := (wr.setCell ⟨go29, (x13_1 : Int).toNat, none⟩ (.int .u64 t448))) ?hg ?ho ?hn ?hr ?_; (case ho => rfl); (case hg => rfl); (case hn => rfl); (case hr => first | (go_simp; done) | (go_simp; rfl)); intro w43 hw; have hg : wr.grownBy w43 (some go29) := (by rw [hw]; exact HP42.2); have hp_ : Kd.R (Kd.int .u64) 96 w43 w.heap.size (fun k_ => nb k_ (.slice Ao41 t419.length co41) ∧ nb k_ (.slice Ao21 x9_1.length co21)) (.slice (some ⟨go29, 0, none⟩) x12_1.length co29) y449 := (by rw [hw, Ny449.out]; exact HP42.1); clear HP42; replace HO_7 := Aside0.mk (Kd.R_after (v := (.slice (some ⟨go29, 0, none⟩) x12_1.length co29)) (v1 := (.slice (some ⟨go29, 0, none⟩) x12_1.length co29)) (ok := (fun k_ => nb k_ (.slice Ao21 x9_1.length co21))) (by first | exact Kd.Rx HO_7.out | exact Kd.Rx (Kd.R_mono HO_7.out (fun _ hk => by (repeat' apply And.intro) <;> first | exact hk | exact hk.1 | exact hk.2 | exact hk.1.1 | exact hk.1.2 | exact hk.2.1 | exact hk.2.2))) hg (.inl rfl)); replace HO_9 := Aside0.mk (Kd.R_after (v := (.slice (some ⟨go29, 0, none⟩) x12_1.length co29)) (v1 := (.slice (some ⟨go29, 0, none⟩) x12_1.length co29)) (ok := (fun k_ => nb k_ (.slice Ao41 t419.length co41))) (by first | exact Kd.Rx HO_9.out | exact Kd.Rx (Kd.R_mono HO_9.out (fun _ hk => by (repeat' apply And.intro) <;> first | exact hk | exact hk.1 | exact hk.2 | exact hk.1.1 | exact hk.1.2 | exact hk.2.1 | exact hk.2.2))) hg (.inl rfl)); replace HO_12 := Aside0.mk (hp_); replace HB := Aside0.mk ((by rw [hw]; exact below_set (HB.out) GB29.out : Below w.heap.size w w43)); clear hg hw hp_; have p450 : 0 ≤ (x13_1 : Int) := tx; have q450 : x13_1 < (y449.length : Int) := (by have h_ : (x13_1 : Int) < ((x12_1.length : Int) : Int) := tx; first | (have e_ := (Kd.R_reads' HO_12.out).1; omega) | simpa only [Ny449.out, List.length_set] using h_); have ql450 : ((x13_1 : Int) < ((x12_1.length : Int) : Int)) = True := eq_true (tx); obtain ⟨ad450, e450, hx450_0⟩ := Kd.at_int (Kd.R_reads' HO_12.out).2.2 x13_1 p450 q450; obtain rfl : (⟨go29, 0, none⟩ : Addr) = ad450 := (by injection e450); (first | simp only [add_plain] at hx450_0 | simp only [add_at] at hx450_0 | simp only [Addr.add, Nat.zero_add] at hx450_0 | skip); replace p450 := eq_true p450; replace q450 := eq_true q450) | ((with_reducible refine gate_callee (f := 162) rfl ?_); refine goesL_ (some 75) rfl rfl Try.func162 (by kernel_rfl) rfl #[.slice Ao21 x9_1.length co21, .int .i64 x13_1, .slice Ao41 t419.length co41, .int .u64 (rd y449 x13_1)] rfl (by (try simp only [List.map_toArray, List.map_cons, List.map_nil]); first | done | rfl | (simp only [hrs449]; done) | (simp only [hrs449]; rfl) | (simp only [List.length_drop, List.length_take]; rfl)) ?_; (with_reducible refine (divide_take.calls k1 (fun k_ => some k_ = (.slice Ao21 x9_1.length co21 : Value).ownBlock) (.slice Ao21 x9_1.length co21) x9_1 x13_1 _ _ t419 (rd y449 x13_1) false t452 w _ ?side1 ?side2 ?side3 ?side4 A30.out).mono ?_); (case side1 => exact Bx HB.out); (case side2 => exact Kd.R_tight rfl HO_9.out); (case side3 => exact Kd.C_kept_own (HO_7.out) (fun k_ hk_ hs_ => (hk_.1) hs_)); (case side4 => exact (Kd.R_reads' HO_7.out).2.1); rintro e w44 ⟨rfl, hy0, hb, hkp⟩; refine ⟨_, rfl, ?_⟩; replace HO_7 := Aside0.mk (Kd.R_mono (ok' := fun k_ => nb k_ (.slice Ao21 x9_1.length co21) ∧ nb k_ (.slice (some ⟨go29, 0, none⟩) x12_1.length co29)) (Kd.R_keptB (HO_7.out) hkp (fun k_ hk_ hs_ => (hk_.1) hs_)) (fun k_ hk_ => ⟨hk_.1.1, hk_.1.2⟩)); replace HO_9 := Aside0.mk (Kd.R_reok rfl hy0 (fun k_ e_ => HO_9.out.1 k_ e_)); replace HO_12 := Aside0.mk (Kd.R_mono (ok' := fun k_ => nb k_ (.slice Ao41 t419.length co41) ∧ nb k_ (.slice Ao21 x9_1.length co21)) (Kd.R_keptB (HO_12.out) hkp (fun k_ hk_ hs_ => (hk_.2) hs_)) (fun k_ hk_ => ⟨hk_.1.1, hk_.1.2⟩)); replace HB := Aside0.mk (hb); (try clear hb); (try clear hkp); (try clear hy0)))
             (try simp only [← hl9_1])
             go_roundg k1
             case measure => have := HK1.out; omega
             case rel => exact ⟨(t452), (y449), (wrap64 (x13_1 - 1)), (by first | rfl | (simp; done) | (simp [*]; done)), H', ⟨by have := HK1.out; omega⟩, ⟨by (try simp only [hl9_1]); (with_reducible repeat (first | apply Kd.R_alloc | apply Kd.R_drewN | apply Kd.R_drew)); exact HO_7.out⟩, ⟨by (try simp only [hl9_1]); (with_reducible repeat (first | apply Kd.R_alloc | apply Kd.R_drewN | apply Kd.R_drew)); exact HO_9.out⟩, ⟨by (try simp only [hl9_1]); (with_reducible repeat (first | apply Kd.R_alloc | apply Kd.R_drewN | apply Kd.R_drew)); exact HO_12.out⟩, ⟨Bx HB.out⟩⟩
           ·
            rw [if_neg c28] at H
            exact absurd H (by simp)
          ·
           rw [if_neg c27] at H
           exact absurd H (by simp)
         ·
          rw [if_neg c25] at H
          have c25b0 : decide (0 ≤ x13_1) = false := decide_eq_false c25
          (try simp only [hl9_1] at c25b0)
          clear c25
          replace H := Option.bind_eq_some_iff.mp H
          obtain ⟨⟨t436, t437⟩, A450, H⟩ := H
          replace H : ((nat_Make.f k1 x9_1).bind fun bt440 => ((nat_Shr.f k1 bt440.1 (wrap64 (32 - t418))).bind fun bt444 => (some (t436, bt444.1)))) = some (r1, r2) := H
          have A45 := Aside0.mk A450
          clear A450
          replace H := Option.bind_eq_some_iff.mp H
          obtain ⟨⟨t440, t441⟩, A460, H⟩ := H
          replace H : ((nat_Shr.f k1 t440 (wrap64 (32 - t418))).bind fun bt444 => (some (t436, bt444.1))) = some (r1, r2) := H
          have A46 := Aside0.mk A460
          clear A460
          replace H := Option.bind_eq_some_iff.mp H
          obtain ⟨⟨t444, t445⟩, A470, H⟩ := H
          replace H : (some (t436, t444)) = some (r1, r2) := H
          have A47 := Aside0.mk A470
          clear A470
          simp only [Option.some.injEq, Prod.mk.injEq] at H
          obtain ⟨rfl, rfl⟩ := H
          obtain ⟨Ao48, co48, eo48⟩ := Kd.R_slice HO_12.out
          subst eo48
          go_wp2_with (first | ((with_reducible refine gate_callee (f := 116) rfl ?_); refine goesx (some 88) Try.func116 #[.slice Ao48 x12_1.length co48] ?_; (with_reducible refine (nat_Make.calls k1 _ _ x12_1 t436 t437 _ ?side1 ?side2 A45.out).mono ?_); (case side1 => exact Kd.Cx (Kd.R_reads' HO_12.out).2.2); (case side2 => exact (Kd.R_reads' HO_12.out).2.1); rintro e w49 ⟨v438, rfl, ho0, hb⟩; refine ⟨_, rfl, ?_⟩; have HO439 := Aside0.mk (Kd.R_lower (Kd.R_new' (Kd.R_new' (Kd.R_new' ho0 (Kd.R_lt (Kd.Rx HO_7.out))) (Kd.R_lt (Kd.Rx HO_9.out))) (Kd.R_lt (Kd.Rx HO_12.out))) (below_size (Bx HB.out))); replace HO_7 := Aside0.mk (Kd.R_elder' (Kd.Rx HO_7.out) (Kd.R_base ho0) hb); replace HO_9 := Aside0.mk (Kd.R_elder' (Kd.Rx HO_9.out) (Kd.R_base ho0) hb); replace HO_12 := Aside0.mk (Kd.R_elder' (Kd.Rx HO_12.out) (Kd.R_base ho0) hb); replace HB := Aside0.mk (below_step (Bx HB.out) hb); (try clear hb); (try clear hb2); (try clear hk); (try clear hi); (try clear ho0)) | ((with_reducible refine gate_callee (f := 116) rfl ?_); refine goesx (some 93) Try.func116 #[.slice Ao21 x9_1.length co21] ?_; (with_reducible refine (nat_Make.calls k1 _ _ x9_1 t440 t441 _ ?side1 ?side2 A46.out).mono ?_); (case side1 => exact Kd.Cx (Kd.R_reads' HO_9.out).2.2); (case side2 => exact (Kd.R_reads' HO_9.out).2.1); rintro e w50 ⟨v442, rfl, ho0, hb⟩; refine ⟨_, rfl, ?_⟩; have HO443 := Aside0.mk (Kd.R_lower (Kd.R_new' (Kd.R_new' (Kd.R_new' (Kd.R_new' ho0 (Kd.R_lt (Kd.Rx HO_7.out))) (Kd.R_lt (Kd.Rx HO_9.out))) (Kd.R_lt (Kd.Rx HO_12.out))) (Kd.R_lt (Kd.Rx HO439.out))) (below_size (Bx HB.out))); replace HO_7 := Aside0.mk (Kd.R_elder' (Kd.Rx HO_7.out) (Kd.R_base ho0) hb); replace HO_9 := Aside0.mk (Kd.R_elder' (Kd.Rx HO_9.out) (Kd.R_base ho0) hb); replace HO_12 := Aside0.mk (Kd.R_elder' (Kd.Rx HO_12.out) (Kd.R_base ho0) hb); replace HO439 := Aside0.mk (Kd.R_elder' (Kd.Rx HO439.out) (Kd.R_base ho0) hb); replace HB := Aside0.mk (below_step (Bx HB.out) hb); (try clear hb); (try clear hb2); (try clear hk); (try clear hi); (try clear ho0); obtain ⟨Ao51, co51, eo51⟩ := Kd.R_slice HO443.out; subst eo51) | ((with_reducible refine gate_callee (f := 164) rfl ?_); refine goesx (some 99) Try.func164 #[.slice Ao51 t440.length co51, .int .i64 (wrap64 (32 - t418))] ?_; (with_reducible refine (nat_Shr.calls k1 _ _ t440 (wrap64 (32 - t418)) t444 t445 _ ?side1 ?side2 A47.out).mono ?_); (case side1 => exact Kd.Cx (Kd.R_reads' HO443.out).2.2); (case side2 => exact (Kd.R_reads' HO443.out).2.1); rintro e w52 ⟨v446, rfl, ho0, hb⟩; refine ⟨_, rfl, ?_⟩; have HO447 := Aside0.mk (Kd.R_lower (Kd.R_new' (Kd.R_new' (Kd.R_new' (Kd.R_new' (Kd.R_new' ho0 (Kd.R_lt (Kd.Rx HO_7.out))) (Kd.R_lt (Kd.Rx HO_9.out))) (Kd.R_lt (Kd.Rx HO_12.out))) (Kd.R_lt (Kd.Rx HO439.out))) (Kd.R_lt (Kd.Rx HO443.out))) (below_size (Bx HB.out))); replace HO_7 := Aside0.mk (Kd.R_elder' (Kd.Rx HO_7.out) (Kd.R_base ho0) hb); replace HO_9 := Aside0.mk (Kd.R_elder' (Kd.Rx HO_9.out) (Kd.R_base ho0) hb); replace HO_12 := Aside0.mk (Kd.R_elder' (Kd.Rx HO_12.out) (Kd.R_base ho0) hb); replace HO439 := Aside0.mk (Kd.R_elder' (Kd.Rx HO439.out) (Kd.R_base ho0) hb); replace HO443 := Aside0.mk (Kd.R_elder' (Kd.Rx HO443.out) (Kd.R_base ho0) hb); replace HB := Aside0.mk (below_step (Bx HB.out) hb); (try clear hb); (try clear hb2); (try clear hk); (try clear hi); (try clear ho0)))
          go_ret2
          exact ⟨_, _, by first | rfl | (simp [errW_none, errW_some] <;> rfl) | (simp only [← hji3, ← hji8, ← hji12]; first | rfl | (simp [errW_none, errW_some] <;> rfl)) | (simp [*, errW_none, errW_some] <;> rfl), Kd.Rm HO439.out, Kd.Rm HO447.out, Bx HB.out⟩
      ·
       rw [if_neg c14] at H
       exact absurd H (by simp)
     ·
      rw [if_neg c13] at H
      exact absurd H (by simp)
    ·
     rw [if_neg c10] at H
     exact absurd H (by simp)
   ·
    rw [if_neg c9] at H
    exact absurd H (by simp)
  ·
   rw [if_neg c5] at H
   exact absurd H (by simp)
 ·
  rw [if_neg c4] at H
  exact absurd H (by simp)
set_option maxHeartbeats 8000000 in
set_option maxRecDepth 100000 in
theorem divide_Div.calls (k : Nat) (A0 : Option Addr) (c0 : Nat) (l0 : List Int) (A1 : Option Addr) (c1 : Nat) (l1 : List Int) (r1 : List Int) (r2 : List Int) (r3 : Int) (w : World) (hr0 : Kd.C (Kd.int .u64) w A0 l0.length l0) (hc0 : l0.length ≤ c0) (hr1 : Kd.C (Kd.int .u64) w A1 l1.length l1) (hc1 : l1.length ≤ c1) (h : divide_Div.f k l0 l1 = some (r1, r2, r3)) :
  Calls Try.prog 146 #[.slice A0 l0.length c0, .slice A1 l1.length c1] w fun e w' => ∃ v0_ v1_ : Value, e = .returned (.tuple #[v0_, v1_, .int .i64 r3]) ∧ Kd.R (Kd.int .u64) 96 w' w.heap.size (fun k_ => nb k_ v1_) v0_ r1 ∧ Kd.R (Kd.int .u64) 96 w' w.heap.size (fun k_ => nb k_ v0_) v1_ r2 ∧ Below w.heap.size w w' := by
 have HR0 := Aside0.mk hr0
 have HC0 := Aside0.mk hc0
 clear hr0 hc0
 have HR1 := Aside0.mk hr1
 have HC1 := Aside0.mk hc1
 clear hr1 hc1
 have HB := Aside0.mk (Below.refl w.heap.size w)
 have H : (if (l1.length : Int) = 0 then (some (([] : List Int), ([] : List Int), 3)) else ((nat_May.f k l0).bind fun t456 => (if t456 = true then ((nat_May.f k l1).bind fun t457 => (divide_Div.j0 k l0 l1 (!t457))) else (divide_Div.j0 k l0 l1 true)))) = some (r1, r2, r3) := h
 clear h
 by_cases c3 : (l1.length : Int) = 0
 ·
  rw [if_pos c3] at H
  have c3b0 : ((l1.length : Int) == 0) = true := beq_iff_eq.mpr c3
  have c3b1 : ((l1.length : Int) != 0) = false := bne_eq_false_iff_eq.mpr c3
  clear c3
  simp only [Option.some.injEq, Prod.mk.injEq] at H
  obtain ⟨rfl, rfl, rfl⟩ := H
  go_enter Try.func146, Try.ntmps146
  go_wp2
  go_ret3
  exact ⟨_, _, by first | rfl | (simp [errW_none, errW_some] <;> rfl) | (simp [*, errW_none, errW_some] <;> rfl), by first | exact Kd.R_nil _ _ _ _ _ | exact Kd.N_nil _ _ _ _ _ | exact Kd.V_nil _ _ _ _ _ | exact Kd.Q_nil _ _ _ _ _ | exact Kd.S_nil _ _ _ _ _, by first | exact Kd.R_nil _ _ _ _ _ | exact Kd.N_nil _ _ _ _ _ | exact Kd.V_nil _ _ _ _ _ | exact Kd.Q_nil _ _ _ _ _ | exact Kd.S_nil _ _ _ _ _, Bx HB.out⟩
 ·
  rw [if_neg c3] at H
  have c3b0 : ((l1.length : Int) == 0) = false := beq_eq_false_iff_ne.mpr c3
  have c3b1 : ((l1.length : Int) != 0) = true := bne_iff_ne.mpr c3
  have c3b2 : ¬ (l1 = []) := fun h_ => c3 (by rw [h_]; rfl)
  have HC4 := Aside0.mk H
  clear H
  go_enter Try.func146, Try.ntmps146
  go_upto_region 3 with (fail)
  go_cut [18] (fun v18 wc => ∃ (kq : Nat) (x18_3 : Bool), v18 = .bool x18_3 ∧ Aside0 (divide_Div.j0 kq l0 l1 x18_3 = some (r1, r2, r3)) ∧ Aside0 (kq ≤ k) ∧ Aside0 (Below w.heap.size w wc))
  case first =>
   have H := HC4.out
   clear HC4
   replace H := Option.bind_eq_some_iff.mp H
   obtain ⟨t456, A50, H⟩ := H
   replace H : (if t456 = true then ((nat_May.f k l1).bind fun t457 => (divide_Div.j0 k l0 l1 (!t457))) else (divide_Div.j0 k l0 l1 true)) = some (r1, r2, r3) := H
   have A5 := Aside0.mk A50
   clear A50
   by_cases c6 : t456 = true
   ·
    subst c6
    have H1 : ((nat_May.f k l1).bind fun t457 => (divide_Div.j0 k l0 l1 (!t457))) = some (r1, r2, r3) := by rw [if_pos rfl] at H; exact H
    clear H
    have H := H1
    clear H1
    replace H := Option.bind_eq_some_iff.mp H
    obtain ⟨t457, A70, H⟩ := H
    replace H : (divide_Div.j0 k l0 l1 (!t457)) = some (r1, r2, r3) := H
    have A7 := Aside0.mk A70
    clear A70
    have H' := Aside0.mk H
    clear H
    go_wp2_with (first | ((with_reducible refine gate_callee (f := 154) rfl ?_); refine goesx (some 20) Try.func154 #[.slice A0 l0.length c0] ?_; (with_reducible refine (nat_May.calls k _ _ l0 true _ ?side1 ?side2 A5.out).mono ?_); (case side1 => exact Kd.Cx (Kd.C_below HR0.out HB.out)); (case side2 => exact HC0.out); rintro e w' ⟨rfl, ⟨nd, rfl⟩⟩; refine ⟨_, rfl, ?_⟩) | (go_at_call 154; (with_reducible refine (nat_May.calls k _ _ l1 t457 _ ?side1 ?side2 A7.out).mono ?_); (case side1 => exact Kd.Cx (Kd.C_below HR1.out (Bx HB.out))); (case side2 => exact HC1.out); rintro e w' ⟨rfl, ⟨nd, rfl⟩⟩))
    go_meet
    case rel => exact ⟨_, (!t457), (by first | rfl | (simp; done) | (simp [*]; done)), H', ⟨by first | omega | exact Nat.le_refl _⟩, ⟨Bx HB.out⟩⟩
   ·
    replace c6 := Bool.eq_false_iff.mpr c6
    subst c6
    have H1 : (divide_Div.j0 k l0 l1 true) = some (r1, r2, r3) := by rw [if_neg (show ¬ (false = true) by decide)] at H; exact H
    clear H
    have H := H1
    clear H1
    have H' := Aside0.mk H
    clear H
    go_wp2_with (first | ((with_reducible refine gate_callee (f := 154) rfl ?_); refine goesx (some 20) Try.func154 #[.slice A0 l0.length c0] ?_; (with_reducible refine (nat_May.calls k _ _ l0 false _ ?side1 ?side2 A5.out).mono ?_); (case side1 => exact Kd.Cx (Kd.C_below HR0.out HB.out)); (case side2 => exact HC0.out); rintro e w' ⟨rfl, ⟨nd, rfl⟩⟩; refine ⟨_, rfl, ?_⟩))
    go_meet
    case rel => exact ⟨_, (true), (by first | rfl | (simp; done) | (simp [*]; done)), H', ⟨by first | omega | exact Nat.le_refl _⟩, ⟨Bx HB.out⟩⟩
  case rest =>
   clear HC4
   try clear c1
   try clear p2
   try clear c3
   try clear c3b0
   try clear c3b1
   try clear c3b2
   try clear c6
   obtain ⟨kq, x18_3, rfl, HA, HJ3, HB⟩ := hcut
   cases kq with
   | zero => exact absurd HA.out (by simp [divide_Div.j0])
   | succ kj3 =>
    have H := HA.out
    clear HA
    simp only [divide_Div.j0] at H
    by_cases c8 : x18_3 = true
    ·
     subst c8
     have H1 : (some (([] : List Int), ([] : List Int), 2)) = some (r1, r2, r3) := by rw [if_pos rfl] at H; exact H
     clear H
     have H := H1
     clear H1
     simp only [Option.some.injEq, Prod.mk.injEq] at H
     obtain ⟨rfl, rfl, rfl⟩ := H
     go_wp2
     go_ret3
     exact ⟨_, _, by first | rfl | (simp [errW_none, errW_some] <;> rfl) | (simp [*, errW_none, errW_some] <;> rfl), by first | exact Kd.R_nil _ _ _ _ _ | exact Kd.N_nil _ _ _ _ _ | exact Kd.V_nil _ _ _ _ _ | exact Kd.Q_nil _ _ _ _ _ | exact Kd.S_nil _ _ _ _ _, by first | exact Kd.R_nil _ _ _ _ _ | exact Kd.N_nil _ _ _ _ _ | exact Kd.V_nil _ _ _ _ _ | exact Kd.Q_nil _ _ _ _ _ | exact Kd.S_nil _ _ _ _ _, Bx HB.out⟩
    ·
     replace c8 := Bool.eq_false_iff.mpr c8
     subst c8
     have H1 : ((nat_Cmp.f kj3 l0 l1).bind fun t458 => (if t458 < 0 then ((nat_Make.f kj3 l0).bind fun bt459 => (some (([] : List Int), bt459.1, bt459.2))) else (if (l1.length : Int) = 1 then (if 0 < (l1.length : Int) then ((divide_Small.f kj3 l0 (rd l1 0)).bind fun bt464 => ((nat_Of.f kj3 bt464.2.1).bind fun t469 => (some (bt464.1, t469, bt464.2.2)))) else (none)) else ((divide_knuth.f kj3 l0 l1).bind fun bt472 => (some (bt472.1, bt472.2, 0)))))) = some (r1, r2, r3) := by rw [if_neg (show ¬ (false = true) by decide)] at H; exact H
     clear H
     have H := H1
     clear H1
     replace H := Option.bind_eq_some_iff.mp H
     obtain ⟨t458, A90, H⟩ := H
     replace H : (if t458 < 0 then ((nat_Make.f kj3 l0).bind fun bt459 => (some (([] : List Int), bt459.1, bt459.2))) else (if (l1.length : Int) = 1 then (if 0 < (l1.length : Int) then ((divide_Small.f kj3 l0 (rd l1 0)).bind fun bt464 => ((nat_Of.f kj3 bt464.2.1).bind fun t469 => (some (bt464.1, t469, bt464.2.2)))) else (none)) else ((divide_knuth.f kj3 l0 l1).bind fun bt472 => (some (bt472.1, bt472.2, 0))))) = some (r1, r2, r3) := H
     have A9 := Aside0.mk A90
     clear A90
     by_cases c10 : t458 < 0
     ·
      rw [if_pos c10] at H
      have c10b0 : decide (t458 < 0) = true := decide_eq_true c10
      clear c10
      replace H := Option.bind_eq_some_iff.mp H
      obtain ⟨⟨t459, t460⟩, A110, H⟩ := H
      replace H : (some (([] : List Int), t459, t460)) = some (r1, r2, r3) := H
      have A11 := Aside0.mk A110
      clear A110
      simp only [Option.some.injEq, Prod.mk.injEq] at H
      obtain ⟨rfl, rfl, rfl⟩ := H
      go_wp2_with (first | ((with_reducible refine gate_callee (f := 52) rfl ?_); refine goesx (some 30) Try.func52 #[.slice A0 l0.length c0, .slice A1 l1.length c1] ?_; (with_reducible refine (nat_Cmp.calls kj3 _ _ l0 _ _ l1 t458 _ ?side1 ?side2 ?side3 ?side4 A9.out).mono ?_); (case side1 => exact Kd.Cx (Kd.C_below HR0.out HB.out)); (case side2 => exact HC0.out); (case side3 => exact Kd.Cx (Kd.C_below HR1.out HB.out)); (case side4 => exact HC1.out); rintro e w' ⟨rfl, ⟨nd, rfl⟩⟩; refine ⟨_, rfl, ?_⟩) | ((with_reducible refine gate_callee (f := 116) rfl ?_); refine goesx (some 34) Try.func116 #[.slice A0 l0.length c0] ?_; (with_reducible refine (nat_Make.calls kj3 _ _ l0 t459 t460 _ ?side1 ?side2 A11.out).mono ?_); (case side1 => exact Kd.Cx (Kd.C_below HR0.out (Bx HB.out))); (case side2 => exact HC0.out); rintro e w12 ⟨v461, rfl, ho0, hb⟩; refine ⟨_, rfl, ?_⟩; have HO462 := Aside0.mk (Kd.R_lower ho0 (below_size (Bx HB.out))); replace HB := Aside0.mk (below_step (Bx HB.out) hb); (try clear hb); (try clear hb2); (try clear hk); (try clear hi); (try clear ho0)))
      go_ret3
      exact ⟨_, _, by first | rfl | (simp [errW_none, errW_some] <;> rfl) | (simp [*, errW_none, errW_some] <;> rfl), by first | exact Kd.R_nil _ _ _ _ _ | exact Kd.N_nil _ _ _ _ _ | exact Kd.V_nil _ _ _ _ _ | exact Kd.Q_nil _ _ _ _ _ | exact Kd.S_nil _ _ _ _ _, by exact Kd.Rx (Kd.R_mono HO462.out (fun _ hk => (by simp [Value.ownBlock]))), Bx HB.out⟩
     ·
      rw [if_neg c10] at H
      have c10b0 : decide (t458 < 0) = false := decide_eq_false c10
      clear c10
      by_cases c13 : (l1.length : Int) = 1
      ·
       rw [if_pos c13] at H
       have c13b0 : ((l1.length : Int) == 1) = true := beq_iff_eq.mpr c13
       have c13b1 : ((l1.length : Int) != 1) = false := bne_eq_false_iff_eq.mpr c13
       clear c13
       by_cases c14 : 0 < (l1.length : Int)
       ·
        rw [if_pos c14] at H
        have c14b0 : decide (0 < (l1.length : Int)) = true := decide_eq_true c14
        have c14b1 : decide (0 < l1.length) = true := decide_eq_true (by omega)
        clear c14
        replace H := Option.bind_eq_some_iff.mp H
        obtain ⟨⟨t464, t465, t466⟩, A150, H⟩ := H
        replace H : ((nat_Of.f kj3 t465).bind fun t469 => (some (t464, t469, t466))) = some (r1, r2, r3) := H
        have A15 := Aside0.mk A150
        clear A150
        replace H := Option.bind_eq_some_iff.mp H
        obtain ⟨t469, A160, H⟩ := H
        replace H : (some (t464, t469, t466)) = some (r1, r2, r3) := H
        have A16 := Aside0.mk A160
        clear A160
        simp only [Option.some.injEq, Prod.mk.injEq] at H
        obtain ⟨rfl, rfl, rfl⟩ := H
        go_wp2_with (first | ((with_reducible refine gate_callee (f := 52) rfl ?_); refine goesx (some 30) Try.func52 #[.slice A0 l0.length c0, .slice A1 l1.length c1] ?_; (with_reducible refine (nat_Cmp.calls kj3 _ _ l0 _ _ l1 t458 _ ?side1 ?side2 ?side3 ?side4 A9.out).mono ?_); (case side1 => exact Kd.Cx (Kd.C_below HR0.out HB.out)); (case side2 => exact HC0.out); (case side3 => exact Kd.Cx (Kd.C_below HR1.out HB.out)); (case side4 => exact HC1.out); rintro e w' ⟨rfl, ⟨nd, rfl⟩⟩; refine ⟨_, rfl, ?_⟩; have p463 : 0 ≤ (0 : Int) := (by omega); have q463 : 0 < (l1.length : Int) := tx; obtain ⟨ad463, e463, hx463_0⟩ := Kd.at_int HR1.out 0 p463 q463; cases e463; have qi463 : (0 < l1.length) = True := eq_true (by omega); (try rw [show ((0 : Int)).toNat = 0 from rfl] at hx463_0); (try rw [Addr.add_zero'] at hx463_0); replace hx463_0 := (HB.out.cell (World.block_lt_of_cell? w _ hx463_0)).trans hx463_0; replace p463 := eq_true p463; replace q463 := eq_true q463) | ((with_reducible refine gate_callee (f := 155) rfl ?_); refine goesx (some 48) Try.func155 #[.slice A0 l0.length c0, .int .u64 (rd l1 0)] ?_; (with_reducible refine (divide_Small.calls kj3 _ _ l0 (rd l1 0) t464 t465 t466 _ ?side1 ?side2 A15.out).mono ?_); (case side1 => exact Kd.Cx (Kd.C_below HR0.out (Bx HB.out))); (case side2 => exact HC0.out); rintro e w17 ⟨v467, rfl, ho0, hb⟩; refine ⟨_, rfl, ?_⟩; have HO468 := Aside0.mk (Kd.R_lower ho0 (below_size (Bx HB.out))); replace HB := Aside0.mk (below_step (Bx HB.out) hb); (try clear hb); (try clear hb2); (try clear hk); (try clear hi); (try clear ho0)) | ((with_reducible refine gate_callee (f := 93) rfl ?_); refine goesx (some 54) Try.func93 #[.int .u64 t465] ?_; (with_reducible refine (nat_Of.calls kj3 t465 t469 _ A16.out).mono ?_); rintro e w18 ⟨v470, rfl, ho0, hb⟩; refine ⟨_, rfl, ?_⟩; have HO471 := Aside0.mk (Kd.R_lower (Kd.R_new' ho0 (Kd.R_lt (Kd.Rx HO468.out))) (below_size (Bx HB.out))); replace HO468 := Aside0.mk (Kd.R_elder' (Kd.Rx HO468.out) (Kd.R_base ho0) hb); replace HB := Aside0.mk (below_step (Bx HB.out) hb); (try clear hb); (try clear hb2); (try clear hk); (try clear hi); (try clear ho0)))
        go_ret3
        exact ⟨_, _, by first | rfl | (simp [errW_none, errW_some] <;> rfl) | (simp [*, errW_none, errW_some] <;> rfl), Kd.Rm HO468.out, Kd.Rm HO471.out, Bx HB.out⟩
       ·
        rw [if_neg c14] at H
        exact absurd H (by simp)
      ·
       rw [if_neg c13] at H
       have c13b0 : ((l1.length : Int) == 1) = false := beq_eq_false_iff_ne.mpr c13
       have c13b1 : ((l1.length : Int) != 1) = true := bne_iff_ne.mpr c13
       replace H := Option.bind_eq_some_iff.mp H
       obtain ⟨⟨t472, t473⟩, A190, H⟩ := H
       replace H : (some (t472, t473, 0)) = some (r1, r2, r3) := H
       have A19 := Aside0.mk A190
       clear A190
       simp only [Option.some.injEq, Prod.mk.injEq] at H
       obtain ⟨rfl, rfl, rfl⟩ := H
       go_wp2_with (first | ((with_reducible refine gate_callee (f := 52) rfl ?_); refine goesx (some 30) Try.func52 #[.slice A0 l0.length c0, .slice A1 l1.length c1] ?_; (with_reducible refine (nat_Cmp.calls kj3 _ _ l0 _ _ l1 t458 _ ?side1 ?side2 ?side3 ?side4 A9.out).mono ?_); (case side1 => exact Kd.Cx (Kd.C_below HR0.out HB.out)); (case side2 => exact HC0.out); (case side3 => exact Kd.Cx (Kd.C_below HR1.out HB.out)); (case side4 => exact HC1.out); rintro e w' ⟨rfl, ⟨nd, rfl⟩⟩; refine ⟨_, rfl, ?_⟩) | ((with_reducible refine gate_callee (f := 156) rfl ?_); refine goesx (some 59) Try.func156 #[.slice A0 l0.length c0, .slice A1 l1.length c1] ?_; (with_reducible refine (divide_knuth.calls kj3 _ _ l0 _ _ l1 t472 t473 _ ?side1 ?side2 ?side3 ?side4 A19.out).mono ?_); (case side1 => exact Kd.Cx (Kd.C_below HR0.out (Bx HB.out))); (case side2 => exact HC0.out); (case side3 => exact Kd.Cx (Kd.C_below HR1.out (Bx HB.out))); (case side4 => exact HC1.out); rintro e w20 ⟨v474, v476, rfl, ho0, ho1, hb⟩; refine ⟨_, rfl, ?_⟩; have HO475 := Aside0.mk (Kd.R_lower ho0 (below_size (Bx HB.out))); have HO477 := Aside0.mk (Kd.R_lower ho1 (below_size (Bx HB.out))); replace HB := Aside0.mk (below_step (Bx HB.out) hb); (try clear hb); (try clear hb2); (try clear hk); (try clear hi); (try clear ho0); (try clear ho1)))
       go_ret3
       exact ⟨_, _, by first | rfl | (simp [errW_none, errW_some] <;> rfl) | (simp [*, errW_none, errW_some] <;> rfl), by first | exact Kd.Rx HO475.out | exact HO475.out, by first | exact Kd.Rx HO477.out | exact HO477.out, Bx HB.out⟩
set_option maxHeartbeats 8000000 in
set_option maxRecDepth 100000 in
theorem divide_Mod.calls (k : Nat) (A0 : Option Addr) (c0 : Nat) (l0 : List Int) (A1 : Option Addr) (c1 : Nat) (l1 : List Int) (r1 : List Int) (r2 : Int) (w : World) (hr0 : Kd.C (Kd.int .u64) w A0 l0.length l0) (hc0 : l0.length ≤ c0) (hr1 : Kd.C (Kd.int .u64) w A1 l1.length l1) (hc1 : l1.length ≤ c1) (h : divide_Mod.f k l0 l1 = some (r1, r2)) :
  Calls Try.prog 145 #[.slice A0 l0.length c0, .slice A1 l1.length c1] w fun e w' => ∃ v0_ : Value, e = .returned (.tuple #[v0_, .int .i64 r2]) ∧ Kd.R (Kd.int .u64) 96 w' w.heap.size (fun _ => True) v0_ r1 ∧ Below w.heap.size w w' := by
 have HR0 := Aside0.mk hr0
 have HC0 := Aside0.mk hc0
 clear hr0 hc0
 have HR1 := Aside0.mk hr1
 have HC1 := Aside0.mk hc1
 clear hr1 hc1
 have HB := Aside0.mk (Below.refl w.heap.size w)
 have H : ((divide_Div.f k l0 l1).bind fun bt478 => (some (bt478.2.1, bt478.2.2))) = some (r1, r2) := h
 clear h
 replace H := Option.bind_eq_some_iff.mp H
 obtain ⟨⟨t478, t479, t480⟩, A30, H⟩ := H
 replace H : (some (t479, t480)) = some (r1, r2) := H
 have A3 := Aside0.mk A30
 clear A30
 simp only [Option.some.injEq, Prod.mk.injEq] at H
 obtain ⟨rfl, rfl⟩ := H
 go_enter Try.func145, Try.ntmps145
 go_wp2_with (first | ((with_reducible refine gate_callee (f := 146) rfl ?_); refine goesx (some 12) Try.func146 #[.slice A0 l0.length c0, .slice A1 l1.length c1] ?_; (with_reducible refine (divide_Div.calls k _ _ l0 _ _ l1 t478 t479 t480 _ ?side1 ?side2 ?side3 ?side4 A3.out).mono ?_); (case side1 => exact Kd.Cx HR0.out); (case side2 => exact HC0.out); (case side3 => exact Kd.Cx HR1.out); (case side4 => exact HC1.out); rintro e w4 ⟨v481, v483, rfl, ho0, ho1, hb⟩; refine ⟨_, rfl, ?_⟩; have HO482 := Aside0.mk (Kd.R_lower ho0 (below_size (Bx HB.out))); have HO484 := Aside0.mk (Kd.R_lower ho1 (below_size (Bx HB.out))); replace HB := Aside0.mk (below_step (Bx HB.out) hb); (try clear hb); (try clear hb2); (try clear hk); (try clear hi); (try clear ho0); (try clear ho1)))
 go_ret2
 exact ⟨_, by first | rfl | (simp only [u64_u32_] <;> rfl) | (simp [errW_none, errW_some] <;> rfl) | (simp [*, errW_none, errW_some] <;> rfl), Kd.Rm HO484.out, Bx HB.out⟩
set_option maxHeartbeats 8000000 in
set_option maxRecDepth 100000 in
theorem gcd_Euclid.calls (k : Nat) (A0 : Option Addr) (c0 : Nat) (l0 : List Int) (A1 : Option Addr) (c1 : Nat) (l1 : List Int) (r : List Int) (w : World) (hr0 : Kd.C (Kd.int .u64) w A0 l0.length l0) (hc0 : l0.length ≤ c0) (hr1 : Kd.C (Kd.int .u64) w A1 l1.length l1) (hc1 : l1.length ≤ c1) (h : gcd_Euclid.f k l0 l1 = some r) :
  Calls Try.prog 125 #[.slice A0 l0.length c0, .slice A1 l1.length c1] w fun e w' => ∃ v0_ : Value, e = .returned (v0_) ∧ Kd.R (Kd.int .u64) 96 w' w.heap.size (fun _ => True) v0_ r ∧ Below w.heap.size w w' := by
 have HR0 := Aside0.mk hr0
 have HC0 := Aside0.mk hc0
 clear hr0 hc0
 have HR1 := Aside0.mk hr1
 have HC1 := Aside0.mk hc1
 clear hr1 hc1
 have HB := Aside0.mk (Below.refl w.heap.size w)
 have H : ((nat_Make.f k l0).bind fun bt485 => ((nat_Make.f k l1).bind fun bt489 => (gcd_Euclid.l0 k bt485.1 bt489.1))) = some r := h
 clear h
 replace H := Option.bind_eq_some_iff.mp H
 obtain ⟨⟨t485, t486⟩, A30, H⟩ := H
 replace H : ((nat_Make.f k l1).bind fun bt489 => (gcd_Euclid.l0 k t485 bt489.1)) = some r := H
 have A3 := Aside0.mk A30
 clear A30
 replace H := Option.bind_eq_some_iff.mp H
 obtain ⟨⟨t489, t490⟩, A40, H⟩ := H
 replace H : (gcd_Euclid.l0 k t485 t489) = some r := H
 have A4 := Aside0.mk A40
 clear A40
 have H' := Aside0.mk H
 clear H
 go_enter Try.func125, Try.ntmps125
 go_wp2_with (first | ((with_reducible refine gate_callee (f := 116) rfl ?_); refine goesx (some 13) Try.func116 #[.slice A0 l0.length c0] ?_; (with_reducible refine (nat_Make.calls k _ _ l0 t485 t486 _ ?side1 ?side2 A3.out).mono ?_); (case side1 => exact Kd.Cx HR0.out); (case side2 => exact HC0.out); rintro e w5 ⟨v487, rfl, ho0, hb⟩; refine ⟨_, rfl, ?_⟩; have HO488 := Aside0.mk (Kd.R_lower ho0 (below_size (Bx HB.out))); replace HB := Aside0.mk (below_step (Bx HB.out) hb); (try clear hb); (try clear hb2); (try clear hk); (try clear hi); (try clear ho0)) | ((with_reducible refine gate_callee (f := 116) rfl ?_); refine goesx (some 18) Try.func116 #[.slice A1 l1.length c1] ?_; (with_reducible refine (nat_Make.calls k _ _ l1 t489 t490 _ ?side1 ?side2 A4.out).mono ?_); (case side1 => exact Kd.Cx (Kd.C_below HR1.out HB.out)); (case side2 => exact HC1.out); rintro e w6 ⟨v491, rfl, ho0, hb⟩; refine ⟨_, rfl, ?_⟩; have HO492 := Aside0.mk (Kd.R_lower (Kd.R_new' ho0 (Kd.R_lt (Kd.Rx HO488.out))) (below_size (Bx HB.out))); replace HO488 := Aside0.mk (Kd.R_elder' (Kd.Rx HO488.out) (Kd.R_base ho0) hb); replace HB := Aside0.mk (below_step (Bx HB.out) hb); (try clear hb); (try clear hb2); (try clear hk); (try clear hi); (try clear ho0)))
 go_loopg [5, 7] k (fun kq v5 v7 w' => ∃ (x5_1 : List Int) (x7_1 : List Int), Aside0 (gcd_Euclid.l0 kq x5_1 x7_1 = some r) ∧ Aside0 (kq ≤ k) ∧ Aside0 (Kd.R (Kd.int .u64) 96 w' w.heap.size (fun k_ => nb k_ v7) v5 x5_1) ∧ Aside0 (Kd.R (Kd.int .u64) 96 w' w.heap.size (fun k_ => nb k_ v5) v7 x7_1) ∧ Aside0 (Below w.heap.size w w'))
 case atStart => exact ⟨(t485), (t489), H', ⟨Nat.le_refl _⟩, ⟨Kd.Rm HO488.out⟩, ⟨Kd.Rm HO492.out⟩, ⟨Bx HB.out⟩⟩
 case round =>
  clear H'
  try clear c1
  try clear p2
  obtain ⟨x5_1, x7_1, HA, HK1, HO_5, HO_7, HB⟩ := hrel
  cases gk with
  | zero => exact absurd HA.out (by simp [gcd_Euclid.l0])
  | succ k1 =>
   have H := HA.out
   clear HA
   simp only [gcd_Euclid.l0] at H
   by_cases c7 : (x7_1.length : Int) > 0
   ·
    rw [if_pos c7] at H
    have c7b0 : decide (0 < (x7_1.length : Int)) = true := decide_eq_true c7
    have c7b1 : decide (0 < x7_1.length) = true := decide_eq_true (by omega)
    clear c7
    replace H := Option.bind_eq_some_iff.mp H
    obtain ⟨⟨t493, t494⟩, A80, H⟩ := H
    replace H : (gcd_Euclid.l0 k1 x7_1 t493) = some r := H
    have A8 := Aside0.mk A80
    clear A80
    have H' := Aside0.mk H
    clear H
    obtain ⟨Ao9, co9, eo9⟩ := Kd.R_slice HO_7.out
    subst eo9
    obtain ⟨Ao10, co10, eo10⟩ := Kd.R_slice HO_5.out
    subst eo10
    go_wp2_with (first | ((with_reducible refine gate_callee (f := 145) rfl ?_); refine goesx (some 27) Try.func145 #[.slice Ao10 x5_1.length co10, .slice Ao9 x7_1.length co9] ?_; (with_reducible refine (divide_Mod.calls k1 _ _ x5_1 _ _ x7_1 t493 t494 _ ?side1 ?side2 ?side3 ?side4 A8.out).mono ?_); (case side1 => exact Kd.Cx (Kd.R_reads' HO_5.out).2.2); (case side2 => exact (Kd.R_reads' HO_5.out).2.1); (case side3 => exact Kd.Cx (Kd.R_reads' HO_7.out).2.2); (case side4 => exact (Kd.R_reads' HO_7.out).2.1); rintro e w11 ⟨v495, rfl, ho0, hb⟩; refine ⟨_, rfl, ?_⟩; have HO496 := Aside0.mk (Kd.R_lower (Kd.R_new' (Kd.R_new' ho0 (Kd.R_lt (Kd.Rx HO_5.out))) (Kd.R_lt (Kd.Rx HO_7.out))) (below_size (Bx HB.out))); replace HO_5 := Aside0.mk (Kd.R_elder' (Kd.Rx HO_5.out) (Kd.R_base ho0) hb); replace HO_7 := Aside0.mk (Kd.R_elder' (Kd.Rx HO_7.out) (Kd.R_base ho0) hb); replace HB := Aside0.mk (below_step (Bx HB.out) hb); (try clear hb); (try clear hb2); (try clear hk); (try clear hi); (try clear ho0)))
    go_roundg k1
    case measure => have := HK1.out; omega
    case rel => exact ⟨(x7_1), (t493), H', ⟨by have := HK1.out; omega⟩, ⟨Kd.Rm HO_7.out⟩, ⟨Kd.Rm HO496.out⟩, ⟨Bx HB.out⟩⟩
   ·
    rw [if_neg c7] at H
    have c7b0 : decide (0 < (x7_1.length : Int)) = false := decide_eq_false c7
    have c7b1 : decide (0 < x7_1.length) = false := decide_eq_false (by omega)
    clear c7
    obtain rfl := Option.some.inj H
    obtain ⟨Ao12, co12, eo12⟩ := Kd.R_slice HO_7.out
    subst eo12
    go_wp2
    go_ret
    exact ⟨_, by first | rfl | (simp only [u64_u32_] <;> rfl) | (simp [errW_none, errW_some] <;> rfl) | (simp [*, errW_none, errW_some] <;> rfl), Kd.Rm HO_5.out, Bx HB.out⟩
set_option maxHeartbeats 8000000 in
set_option maxRecDepth 100000 in
theorem divide_Exact.calls (k : Nat) (A0 : Option Addr) (c0 : Nat) (l0 : List Int) (A1 : Option Addr) (c1 : Nat) (l1 : List Int) (r1 : List Int) (r2 : Int) (w : World) (hr0 : Kd.C (Kd.int .u64) w A0 l0.length l0) (hc0 : l0.length ≤ c0) (hr1 : Kd.C (Kd.int .u64) w A1 l1.length l1) (hc1 : l1.length ≤ c1) (h : divide_Exact.f k l0 l1 = some (r1, r2)) :
  Calls Try.prog 126 #[.slice A0 l0.length c0, .slice A1 l1.length c1] w fun e w' => ∃ v0_ : Value, e = .returned (.tuple #[v0_, .int .i64 r2]) ∧ Kd.R (Kd.int .u64) 96 w' w.heap.size (fun _ => True) v0_ r1 ∧ Below w.heap.size w w' := by
 have HR0 := Aside0.mk hr0
 have HC0 := Aside0.mk hc0
 clear hr0 hc0
 have HR1 := Aside0.mk hr1
 have HC1 := Aside0.mk hc1
 clear hr1 hc1
 have HB := Aside0.mk (Below.refl w.heap.size w)
 have H : ((divide_Div.f k l0 l1).bind fun bt497 => (if bt497.2.2 = 0 then (if (bt497.2.1.length : Int) > 0 then (some (([] : List Int), 4)) else (some (bt497.1, bt497.2.2))) else (some (([] : List Int), bt497.2.2)))) = some (r1, r2) := h
 clear h
 replace H := Option.bind_eq_some_iff.mp H
 obtain ⟨⟨t497, t498, t499⟩, A30, H⟩ := H
 replace H : (if t499 = 0 then (if (t498.length : Int) > 0 then (some (([] : List Int), 4)) else (some (t497, t499))) else (some (([] : List Int), t499))) = some (r1, r2) := H
 have A3 := Aside0.mk A30
 clear A30
 by_cases c4 : t499 = 0
 ·
  rw [if_pos c4] at H
  have c4b0 : (t499 == 0) = true := beq_iff_eq.mpr c4
  have c4b1 : (t499 != 0) = false := bne_eq_false_iff_eq.mpr c4
  clear c4
  by_cases c5 : (t498.length : Int) > 0
  ·
   rw [if_pos c5] at H
   have c5b0 : decide (0 < (t498.length : Int)) = true := decide_eq_true c5
   have c5b1 : decide (0 < t498.length) = true := decide_eq_true (by omega)
   clear c5
   simp only [Option.some.injEq, Prod.mk.injEq] at H
   obtain ⟨rfl, rfl⟩ := H
   go_enter Try.func126, Try.ntmps126
   go_wp2_with (first | ((with_reducible refine gate_callee (f := 146) rfl ?_); refine goesx (some 12) Try.func146 #[.slice A0 l0.length c0, .slice A1 l1.length c1] ?_; (with_reducible refine (divide_Div.calls k _ _ l0 _ _ l1 t497 t498 t499 _ ?side1 ?side2 ?side3 ?side4 A3.out).mono ?_); (case side1 => exact Kd.Cx HR0.out); (case side2 => exact HC0.out); (case side3 => exact Kd.Cx HR1.out); (case side4 => exact HC1.out); rintro e w6 ⟨v500, v502, rfl, ho0, ho1, hb⟩; refine ⟨_, rfl, ?_⟩; have HO501 := Aside0.mk (Kd.R_lower ho0 (below_size (Bx HB.out))); have HO503 := Aside0.mk (Kd.R_lower ho1 (below_size (Bx HB.out))); replace HB := Aside0.mk (below_step (Bx HB.out) hb); (try clear hb); (try clear hb2); (try clear hk); (try clear hi); (try clear ho0); (try clear ho1); obtain ⟨Ao7, co7, eo7⟩ := Kd.R_slice HO503.out; subst eo7))
   go_ret2
   exact ⟨_, by first | rfl | (simp only [u64_u32_] <;> rfl) | (simp [errW_none, errW_some] <;> rfl) | (simp [*, errW_none, errW_some] <;> rfl), by first | exact Kd.R_nil _ _ _ _ _ | exact Kd.N_nil _ _ _ _ _ | exact Kd.V_nil _ _ _ _ _ | exact Kd.Q_nil _ _ _ _ _ | exact Kd.S_nil _ _ _ _ _, Bx HB.out⟩
  ·
   rw [if_neg c5] at H
   have c5b0 : decide (0 < (t498.length : Int)) = false := decide_eq_false c5
   have c5b1 : decide (0 < t498.length) = false := decide_eq_false (by omega)
   clear c5
   simp only [Option.some.injEq, Prod.mk.injEq] at H
   obtain ⟨rfl, rfl⟩ := H
   go_enter Try.func126, Try.ntmps126
   go_wp2_with (first | ((with_reducible refine gate_callee (f := 146) rfl ?_); refine goesx (some 12) Try.func146 #[.slice A0 l0.length c0, .slice A1 l1.length c1] ?_; (with_reducible refine (divide_Div.calls k _ _ l0 _ _ l1 t497 t498 t499 _ ?side1 ?side2 ?side3 ?side4 A3.out).mono ?_); (case side1 => exact Kd.Cx HR0.out); (case side2 => exact HC0.out); (case side3 => exact Kd.Cx HR1.out); (case side4 => exact HC1.out); rintro e w8 ⟨v500, v502, rfl, ho0, ho1, hb⟩; refine ⟨_, rfl, ?_⟩; have HO501 := Aside0.mk (Kd.R_lower ho0 (below_size (Bx HB.out))); have HO503 := Aside0.mk (Kd.R_lower ho1 (below_size (Bx HB.out))); replace HB := Aside0.mk (below_step (Bx HB.out) hb); (try clear hb); (try clear hb2); (try clear hk); (try clear hi); (try clear ho0); (try clear ho1); obtain ⟨Ao9, co9, eo9⟩ := Kd.R_slice HO503.out; subst eo9))
   go_ret2
   exact ⟨_, by first | rfl | (simp only [u64_u32_] <;> rfl) | (simp [errW_none, errW_some] <;> rfl) | (simp [*, errW_none, errW_some] <;> rfl), Kd.Rm HO501.out, Bx HB.out⟩
 ·
  rw [if_neg c4] at H
  have c4b0 : (t499 == 0) = false := beq_eq_false_iff_ne.mpr c4
  have c4b1 : (t499 != 0) = true := bne_iff_ne.mpr c4
  simp only [Option.some.injEq, Prod.mk.injEq] at H
  obtain ⟨rfl, rfl⟩ := H
  go_enter Try.func126, Try.ntmps126
  go_wp2_with (first | ((with_reducible refine gate_callee (f := 146) rfl ?_); refine goesx (some 12) Try.func146 #[.slice A0 l0.length c0, .slice A1 l1.length c1] ?_; (with_reducible refine (divide_Div.calls k _ _ l0 _ _ l1 t497 t498 t499 _ ?side1 ?side2 ?side3 ?side4 A3.out).mono ?_); (case side1 => exact Kd.Cx HR0.out); (case side2 => exact HC0.out); (case side3 => exact Kd.Cx HR1.out); (case side4 => exact HC1.out); rintro e w10 ⟨v500, v502, rfl, ho0, ho1, hb⟩; refine ⟨_, rfl, ?_⟩; have HO501 := Aside0.mk (Kd.R_lower ho0 (below_size (Bx HB.out))); have HO503 := Aside0.mk (Kd.R_lower ho1 (below_size (Bx HB.out))); replace HB := Aside0.mk (below_step (Bx HB.out) hb); (try clear hb); (try clear hb2); (try clear hk); (try clear hi); (try clear ho0); (try clear ho1)))
  go_ret2
  exact ⟨_, by first | rfl | (simp only [u64_u32_] <;> rfl) | (simp [errW_none, errW_some] <;> rfl) | (simp [*, errW_none, errW_some] <;> rfl), by first | exact Kd.R_nil _ _ _ _ _ | exact Kd.N_nil _ _ _ _ _ | exact Kd.V_nil _ _ _ _ _ | exact Kd.Q_nil _ _ _ _ _ | exact Kd.S_nil _ _ _ _ _, Bx HB.out⟩
set_option maxHeartbeats 8000000 in
set_option maxRecDepth 100000 in
theorem rat_low.calls (k : Nat) (a0_0 : Bool) (A0_1 : Option Addr) (c0_1 : Nat) (l0_1 : List Int) (A1 : Option Addr) (c1 : Nat) (l1 : List Int) (r1 : Bool) (r2 : List Int) (r3 : List Int) (w : World) (hr0_1 : Kd.C (Kd.int .u64) w A0_1 l0_1.length l0_1) (hc0_1 : l0_1.length ≤ c0_1) (hr1 : Kd.C (Kd.int .u64) w A1 l1.length l1) (hc1 : l1.length ≤ c1) (h : rat_low.f k a0_0 l0_1 l1 = some (r1, r2, r3)) :
  Calls Try.prog 101 #[.agg #[.bool a0_0, .slice A0_1 l0_1.length c0_1], .slice A1 l1.length c1] w fun e w' => ∃ v1_ v2_ : Value, e = .returned (.agg #[.bool r1, v1_, v2_]) ∧ Kd.R (Kd.int .u64) 96 w' w.heap.size (fun k_ => nb k_ v2_) v1_ r2 ∧ Kd.R (Kd.int .u64) 96 w' w.heap.size (fun k_ => nb k_ v1_) v2_ r3 ∧ Below w.heap.size w w' := by
 have hu32 := Try.underlying32
 have hu34 := Try.underlying34
 have HR0_1 := Aside0.mk hr0_1
 have HC0_1 := Aside0.mk hc0_1
 clear hr0_1 hc0_1
 have HR1 := Aside0.mk hr1
 have HC1 := Aside0.mk hc1
 clear hr1 hc1
 have HB := Aside0.mk (Below.refl w.heap.size w)
 have H : ((gcd_Euclid.f k l0_1 l1).bind fun t506 => ((divide_Exact.f k l0_1 t506).bind fun bt509 => ((divide_Exact.f k l1 t506).bind fun bt513 => ((whole_Made.f k a0_0 bt509.1).bind fun bt517 => (some (bt517.1, bt517.2, bt513.1)))))) = some (r1, r2, r3) := h
 clear h
 replace H := Option.bind_eq_some_iff.mp H
 obtain ⟨t506, A30, H⟩ := H
 replace H : ((divide_Exact.f k l0_1 t506).bind fun bt509 => ((divide_Exact.f k l1 t506).bind fun bt513 => ((whole_Made.f k a0_0 bt509.1).bind fun bt517 => (some (bt517.1, bt517.2, bt513.1))))) = some (r1, r2, r3) := H
 have A3 := Aside0.mk A30
 clear A30
 replace H := Option.bind_eq_some_iff.mp H
 obtain ⟨⟨t509, t510⟩, A40, H⟩ := H
 replace H : ((divide_Exact.f k l1 t506).bind fun bt513 => ((whole_Made.f k a0_0 t509).bind fun bt517 => (some (bt517.1, bt517.2, bt513.1)))) = some (r1, r2, r3) := H
 have A4 := Aside0.mk A40
 clear A40
 replace H := Option.bind_eq_some_iff.mp H
 obtain ⟨⟨t513, t514⟩, A50, H⟩ := H
 replace H : ((whole_Made.f k a0_0 t509).bind fun bt517 => (some (bt517.1, bt517.2, t513))) = some (r1, r2, r3) := H
 have A5 := Aside0.mk A50
 clear A50
 replace H := Option.bind_eq_some_iff.mp H
 obtain ⟨⟨t517, t518⟩, A60, H⟩ := H
 replace H : (some (t517, t518, t513)) = some (r1, r2, r3) := H
 have A6 := Aside0.mk A60
 clear A60
 simp only [Option.some.injEq, Prod.mk.injEq] at H
 obtain ⟨rfl, rfl, rfl⟩ := H
 go_enter Try.func101, Try.ntmps101
 go_wp2_with (first | ((with_reducible refine gate_dst (N := 2) rfl ?_); refine box_event ?hg (N := 2) ?hd (cs := #[.bool a0_0, .slice A0_1 l0_1.length c0_1]) (t := 32) ?hr ?_; (case hd => rfl); (case hg => rfl); (case hr => first | (go_simp; done) | (go_simp; rfl)); intro gb504 hg w7 hbox hb; have BK504 := Aside0.mk (hbox); have GW504 := Aside0.mk ((by rw [hg]; exact (below_size (Bx HB.out)) : w.heap.size ≤ gb504)); have GE504 := Aside0.mk ((by rw [hg]; exact (below_size (Bx HB.out)) : w.heap.size ≤ gb504)); replace HB := Aside0.mk (below_step (Bx HB.out) hb); clear hb hbox hg) | ((with_reducible refine gate_dst (N := 4) rfl ?_); refine box_event ?hg (N := 4) ?hd (cs := #[.bool false, .slice none 0 0, .slice none 0 0]) (t := 34) ?hr ?_; (case hd => rfl); (case hg => rfl); (case hr => first | (go_simp; done) | (go_simp; rfl)); intro gb505 hg w8 hbox hb; have n0_ := Aside0.mk (blk_below (Kx BK504.out) hb); have n1_ := Aside0.mk (below_step (Bs) hb); have n2_ := Aside0.mk (hbox); have n3_ := Aside0.mk ((by rw [hg]; exact (below_size (Bs)) : w.heap.size ≤ gb505)); have n4_ := Aside0.mk ((by rw [hg]; exact (below_size (Bs)) : w.heap.size ≤ gb505)); have n5_ := Aside0.mk ((by rw [hg]; exact Nat.ne_of_lt (blk_lt (Kx BK504.out)) : gb504 ≠ gb505)); have n6_ := Aside0.mk ((by rw [hg]; exact Nat.ne_of_gt (blk_lt (Kx BK504.out)) : gb505 ≠ gb504)); clear BK504; clear HB; have BK504 := n0_; have HB := n1_; have BK505 := n2_; have GW505 := n3_; have GE505 := n4_; have NB504_505 := n5_; have NB505_504 := n6_; clear n0_ n1_ n2_ n3_ n4_ n5_ n6_; clear hb hbox hg; have hnb9 := NB504_505.out; have hnc9 := NB505_504.out; have hcz10_0 : w8.cell? ⟨gb504, 0, none⟩ = some (.bool a0_0) := (blk_cell BK504.out 0).trans rfl; have hcz10_1 : w8.cell? ⟨gb504, 1, none⟩ = some (.slice A0_1 l0_1.length c0_1) := (blk_cell BK504.out 1).trans rfl; have hfz10_0 := blk_frozen BK504.out 0; have hfz10_1 := blk_frozen BK504.out 1) | ((with_reducible refine gate_callee (f := 125) rfl ?_); refine goesx (some 13) Try.func125 #[.slice A0_1 l0_1.length c0_1, .slice A1 l1.length c1] ?_; (with_reducible refine (gcd_Euclid.calls k _ _ l0_1 _ _ l1 t506 _ ?side1 ?side2 ?side3 ?side4 A3.out).mono ?_); (case side1 => exact Kd.Cx (Kd.C_below HR0_1.out HB.out)); (case side2 => exact HC0_1.out); (case side3 => exact Kd.Cx (Kd.C_below HR1.out HB.out)); (case side4 => exact HC1.out); rintro e w11 ⟨v507, rfl, ho0, hb⟩; refine ⟨_, rfl, ?_⟩; have HO508 := Aside0.mk (Kd.R_lower ho0 (below_size (Bs))); replace BK504 := Aside0.mk (blk_below (Kx BK504.out) hb); replace BK505 := Aside0.mk (blk_below (Kx BK505.out) hb); replace HB := Aside0.mk (below_step (Bs) hb); (try clear hb); (try clear hb2); (try clear hk); (try clear hi); (try clear ho0); have hcz12_0 : w11.cell? ⟨gb504, 0, none⟩ = some (.bool a0_0) := (blk_cell BK504.out 0).trans rfl; have hcz12_1 : w11.cell? ⟨gb504, 1, none⟩ = some (.slice A0_1 l0_1.length c0_1) := (blk_cell BK504.out 1).trans rfl; have hfz12_0 := blk_frozen BK504.out 0; have hfz12_1 := blk_frozen BK504.out 1; obtain ⟨Ao13, co13, eo13⟩ := Kd.R_slice HO508.out; subst eo13) | ((with_reducible refine gate_callee (f := 126) rfl ?_); refine goesx (some 18) Try.func126 #[.slice A0_1 l0_1.length c0_1, .slice Ao13 t506.length co13] ?_; (with_reducible refine (divide_Exact.calls k _ _ l0_1 _ _ t506 t509 t510 _ ?side1 ?side2 ?side3 ?side4 A4.out).mono ?_); (case side1 => exact Kd.Cx (Kd.C_below HR0_1.out HB.out)); (case side2 => exact HC0_1.out); (case side3 => exact Kd.Cx (Kd.R_reads' HO508.out).2.2); (case side4 => exact (Kd.R_reads' HO508.out).2.1); rintro e w14 ⟨v511, rfl, ho0, hb⟩; refine ⟨_, rfl, ?_⟩; have HO512 := Aside0.mk (Kd.R_lower (Kd.R_new' ho0 (Kd.R_lt (Kd.Rx HO508.out))) (below_size (Bs))); replace HO508 := Aside0.mk (Kd.R_elder' (Kd.Rx HO508.out) (Kd.R_base ho0) hb); replace BK504 := Aside0.mk (blk_below (Kx BK504.out) hb); replace BK505 := Aside0.mk (blk_below (Kx BK505.out) hb); replace HB := Aside0.mk (below_step (Bs) hb); (try clear hb); (try clear hb2); (try clear hk); (try clear hi); (try clear ho0)) | ((with_reducible refine gate_callee (f := 126) rfl ?_); refine goesx (some 24) Try.func126 #[.slice A1 l1.length c1, .slice Ao13 t506.length co13] ?_; (with_reducible refine (divide_Exact.calls k _ _ l1 _ _ t506 t513 t514 _ ?side1 ?side2 ?side3 ?side4 A5.out).mono ?_); (case side1 => exact Kd.Cx (Kd.C_below HR1.out HB.out)); (case side2 => exact HC1.out); (case side3 => exact Kd.Cx (Kd.R_reads' HO508.out).2.2); (case side4 => exact (Kd.R_reads' HO508.out).2.1); rintro e w15 ⟨v515, rfl, ho0, hb⟩; refine ⟨_, rfl, ?_⟩; have HO516 := Aside0.mk (Kd.R_lower (Kd.R_new' (Kd.R_new' ho0 (Kd.R_lt (Kd.Rx HO508.out))) (Kd.R_lt (Kd.Rx HO512.out))) (below_size (Bs))); replace HO508 := Aside0.mk (Kd.R_elder' (Kd.Rx HO508.out) (Kd.R_base ho0) hb); replace HO512 := Aside0.mk (Kd.R_elder' (Kd.Rx HO512.out) (Kd.R_base ho0) hb); replace BK504 := Aside0.mk (blk_below (Kx BK504.out) hb); replace BK505 := Aside0.mk (blk_below (Kx BK505.out) hb); replace HB := Aside0.mk (below_step (Bs) hb); (try clear hb); (try clear hb2); (try clear hk); (try clear hi); (try clear ho0); have hcz16_0 : w15.cell? ⟨gb504, 0, none⟩ = some (.bool a0_0) := (blk_cell BK504.out 0).trans rfl; have hcz16_1 : w15.cell? ⟨gb504, 1, none⟩ = some (.slice A0_1 l0_1.length c0_1) := (blk_cell BK504.out 1).trans rfl; have hfz16_0 := blk_frozen BK504.out 0; have hfz16_1 := blk_frozen BK504.out 1; obtain ⟨Ao17, co17, eo17⟩ := Kd.R_slice HO512.out; subst eo17) | ((with_reducible refine gate_callee (f := 91) rfl ?_); refine goesx (some 30) Try.func91 #[.bool a0_0, .slice Ao17 t509.length co17] ?_; (with_reducible refine (whole_Made.calls k a0_0 _ _ t509 t517 t518 _ ?side1 ?side2 A6.out).mono ?_); (case side1 => exact Kd.Cx (Kd.R_reads' HO512.out).2.2); (case side2 => exact (Kd.R_reads' HO512.out).2.1); rintro e w18 ⟨v519, rfl, ho0, hb⟩; refine ⟨_, rfl, ?_⟩; have HO520 := Aside0.mk (Kd.R_lower (Kd.R_new' (Kd.R_new' (Kd.R_new' ho0 (Kd.R_lt (Kd.Rx HO508.out))) (Kd.R_lt (Kd.Rx HO512.out))) (Kd.R_lt (Kd.Rx HO516.out))) (below_size (Bs))); replace HO508 := Aside0.mk (Kd.R_elder' (Kd.Rx HO508.out) (Kd.R_base ho0) hb); replace HO512 := Aside0.mk (Kd.R_elder' (Kd.Rx HO512.out) (Kd.R_base ho0) hb); replace HO516 := Aside0.mk (Kd.R_elder' (Kd.Rx HO516.out) (Kd.R_base ho0) hb); replace BK504 := Aside0.mk (blk_below (Kx BK504.out) hb); replace BK505 := Aside0.mk (blk_below (Kx BK505.out) hb); replace HB := Aside0.mk (below_step (Bs) hb); (try clear hb); (try clear hb2); (try clear hk); (try clear hi); (try clear ho0); obtain ⟨Ao19, co19, eo19⟩ := Kd.R_slice HO516.out; subst eo19; obtain ⟨Ao20, co20, eo20⟩ := Kd.R_slice HO520.out; subst eo20; have hcz21_0 : w18.cell? ⟨gb505, 0, none⟩ = some (.bool false) := (blk_cell BK505.out 0).trans rfl; have hcz21_1 : w18.cell? ⟨gb505, 1, none⟩ = some (.slice none 0 0) := (blk_cell BK505.out 1).trans rfl; have hcz21_2 : w18.cell? ⟨gb505, 2, none⟩ = some (.slice none 0 0) := (blk_cell BK505.out 2).trans rfl; have hfz21_0 := blk_frozen BK505.out 0; have hfz21_1 := blk_frozen BK505.out 1; have hfz21_2 := blk_frozen BK505.out 2))
 refine bodyPost_ret (results_cell_row rfl _ _ gb505 34 #[.bool t517, .slice Ao20 t518.length co20, .slice Ao19 t513.length co19] (0, 0) _ rfl (by (with_reducible repeat (first | refine blk_drewN ?_ _ | refine blk_drew ?_ | refine blk_alloc ?_ _)); refine blk_put (cs := #[.bool t517, .slice Ao20 t518.length co20, .slice none 0 0]) ?_ 2 _ rfl; (with_reducible repeat (first | refine blk_drewN ?_ _ | refine blk_drew ?_ | refine blk_alloc ?_ _)); refine blk_put (cs := #[.bool t517, .slice none 0 0, .slice none 0 0]) ?_ 1 _ rfl; (with_reducible repeat (first | refine blk_drewN ?_ _ | refine blk_drew ?_ | refine blk_alloc ?_ _)); refine blk_put (cs := #[.bool false, .slice none 0 0, .slice none 0 0]) ?_ 0 _ rfl; (with_reducible repeat (first | refine blk_drewN ?_ _ | refine blk_drew ?_ | refine blk_alloc ?_ _)); exact BK505.out) Try.underlying34 rfl (by kernel_rfl)) rfl ?_
 exact ⟨_, _, by first | rfl | (simp [errW_none, errW_some] <;> rfl) | (simp [*, errW_none, errW_some] <;> rfl), by exact Kd.Rx (Kd.R_mono (Kd.R_far (p := ⟨gb505, 2, none⟩) (Kd.R_far (p := ⟨gb505, 1, none⟩) (Kd.R_far (p := ⟨gb505, 0, none⟩) (Kd.R_types HO520.out BK505.out (by decide)) (fun _ hk => hk.2) (.bool t517)) (fun _ hk => hk.2) (.slice Ao20 t518.length co20)) (fun _ hk => hk.2) (.slice Ao19 t513.length co19)) (fun _ hk => hk.1.2)), by exact Kd.Rx (Kd.R_mono (Kd.R_far (p := ⟨gb505, 2, none⟩) (Kd.R_far (p := ⟨gb505, 1, none⟩) (Kd.R_far (p := ⟨gb505, 0, none⟩) (Kd.R_types HO516.out BK505.out (by decide)) (fun _ hk => hk.2) (.bool t517)) (fun _ hk => hk.2) (.slice Ao20 t518.length co20)) (fun _ hk => hk.2) (.slice Ao19 t513.length co19)) (fun _ hk => hk.1.2)), Bs⟩
end Go.Proofs.Ytpmbcdakpmceiaa.F

end
section
namespace Go.Proofs.Ytpmbcdakpmceiaa.F
open Go.RowKit Go.Proofs.YtpmbcdakpmceiaaW.PrintWords Go.Proofs.YtpmbcdakpmceiaaW.PrintLast Go.Proofs.YtpmbcdakpmceiaaW.PrintMore
attribute [local go_sem] max2_int min2_int max_two min_two max_three min_three max_four min_four
set_option linter.unusedVariables false
set_option linter.unusedSimpArgs false
def rat_Make.f (k : Nat) (a0_0 : Bool) (l0_1 : List Int) (a1_0 : Bool) (l1_1 : List Int) : Option (Bool × List Int × List Int × Int) := (whole_Sign.f a1_0 l1_1).bind fun t524 => (if t524 = 0 then (some (false, ([] : List Int), ([] : List Int), 3)) else ((whole_Made.f k (a0_0 != a1_0) l0_1).bind fun bt525 => ((rat_low.f k bt525.1 bt525.2 l1_1).bind fun bt529 => (some (bt529.1, bt529.2.1, bt529.2.2, 0)))))
theorem rat_Make.mono : ∀ a0 a1 a2 a3 k, LeO (rat_Make.f k a0 a1 a2 a3) (rat_Make.f (k + 1) a0 a1 a2 a3) := by
 intro a0 a1 a2 a3 k
 unfold rat_Make.f
 repeat' first
   | (with_reducible exact rat_low.mono _ _ _ _)
   | (with_reducible exact whole_Made.mono _ _ _)
   | (with_reducible exact LeO.refl _)
   | (with_reducible exact LeO.none _)
   | (with_reducible refine LeO.ite ?_ ?_)
   | (with_reducible refine LeO.bind ?_ (fun _ => ?_))
   | exact rat_low.mono _ _ _ _
   | exact whole_Made.mono _ _ _
   | exact LeO.none _
   | refine LeO.ite ?_ ?_
   | refine LeO.bind ?_ (fun _ => ?_)
end Go.Proofs.Ytpmbcdakpmceiaa.F

end
section
namespace Go.Proofs.Ytpmbcdakpmceiaa.F
open Go.RowKit Go.Proofs.YtpmbcdakpmceiaaW.PrintWords Go.Proofs.YtpmbcdakpmceiaaW.PrintLast Go.Proofs.YtpmbcdakpmceiaaW.PrintMore
attribute [local go_sem] max2_int min2_int max_two min_two max_three min_three max_four min_four
set_option linter.unusedVariables false
set_option linter.unusedSimpArgs false
def rat_Make.T3 : Bool × List (List Nat × List Nat) := (true, [([], []), ([0], [0]), ([], []), ([2], [2]), ([1, 3], [1, 3]), ([], []), ([5], [5]), ([4, 6], [4, 6]), ([], []), ([8], [8]), ([7, 9, 7], [7, 9]), ([10, 10, 0, 1, 2, 3, 4, 5, 6, 7, 8, 9, 10], [10]), ([11, 0, 1, 2, 3, 4, 5, 6, 7, 8, 9, 10, 11], [])])
def rat_Make.B3 : List Nat := [0, 1, 0, 4, 15, 0, 32, 127, 0, 256, 1023, 2047, 4095]
theorem rat_Make.tab3 : rtab .any (opsOf Try.f67 3) = rat_Make.T3 := by kernel_rfl
theorem rat_Make.bits3 : waitsOk rat_Make.T3.2 rat_Make.B3 = true := by kernel_rfl
set_option maxHeartbeats 8000000 in
set_option maxRecDepth 100000 in
theorem rat_Make.calls (k : Nat) (a0_0 : Bool) (A0_1 : Option Addr) (c0_1 : Nat) (l0_1 : List Int) (a1_0 : Bool) (A1_1 : Option Addr) (c1_1 : Nat) (l1_1 : List Int) (r1 : Bool) (r2 : List Int) (r3 : List Int) (r4 : Int) (w : World) (hr0_1 : Kd.C (Kd.int .u64) w A0_1 l0_1.length l0_1) (hc0_1 : l0_1.length ≤ c0_1) (hr1_1 : Kd.C (Kd.int .u64) w A1_1 l1_1.length l1_1) (hc1_1 : l1_1.length ≤ c1_1) (h : rat_Make.f k a0_0 l0_1 a1_0 l1_1 = some (r1, r2, r3, r4)) :
  Calls Try.prog 67 #[.agg #[.bool a0_0, .slice A0_1 l0_1.length c0_1], .agg #[.bool a1_0, .slice A1_1 l1_1.length c1_1]] w fun e w' => ∃ v1_ v2_ : Value, e = .returned (.tuple #[.agg #[.bool r1, v1_, v2_], .int .i64 r4]) ∧ Kd.R (Kd.int .u64) 96 w' w.heap.size (fun k_ => nb k_ v2_) v1_ r2 ∧ Kd.R (Kd.int .u64) 96 w' w.heap.size (fun k_ => nb k_ v1_) v2_ r3 ∧ Below w.heap.size w w' := by
 have hu32 := Try.underlying32
 have hu34 := Try.underlying34
 have HR0_1 := Aside0.mk hr0_1
 have HC0_1 := Aside0.mk hc0_1
 clear hr0_1 hc0_1
 have HR1_1 := Aside0.mk hr1_1
 have HC1_1 := Aside0.mk hc1_1
 clear hr1_1 hc1_1
 have HB := Aside0.mk (Below.refl w.heap.size w)
 have H : ((whole_Sign.f a1_0 l1_1).bind fun t524 => (if t524 = 0 then (some (false, ([] : List Int), ([] : List Int), 3)) else ((whole_Made.f k (a0_0 != a1_0) l0_1).bind fun bt525 => ((rat_low.f k bt525.1 bt525.2 l1_1).bind fun bt529 => (some (bt529.1, bt529.2.1, bt529.2.2, 0)))))) = some (r1, r2, r3, r4) := h
 clear h
 replace H := Option.bind_eq_some_iff.mp H
 obtain ⟨t524, A30, H⟩ := H
 replace H : (if t524 = 0 then (some (false, ([] : List Int), ([] : List Int), 3)) else ((whole_Made.f k (a0_0 != a1_0) l0_1).bind fun bt525 => ((rat_low.f k bt525.1 bt525.2 l1_1).bind fun bt529 => (some (bt529.1, bt529.2.1, bt529.2.2, 0))))) = some (r1, r2, r3, r4) := H
 have A3 := Aside0.mk A30
 clear A30
 by_cases c4 : t524 = 0
 ·
  rw [if_pos c4] at H
  have c4b0 : (t524 == 0) = true := beq_iff_eq.mpr c4
  have c4b1 : (t524 != 0) = false := bne_eq_false_iff_eq.mpr c4
  clear c4
  simp only [Option.some.injEq, Prod.mk.injEq] at H
  obtain ⟨rfl, rfl, rfl, rfl⟩ := H
  go_enter Try.func67, Try.ntmps67
  go_wp2_with (first | ((with_reducible refine gate_dst (N := 2) rfl ?_); refine box_event ?hg (N := 2) ?hd (cs := #[.bool a0_0, .slice A0_1 l0_1.length c0_1]) (t := 32) ?hr ?_; (case hd => rfl); (case hg => rfl); (case hr => first | (go_simp; done) | (go_simp; rfl)); intro gb521 hg w5 hbox hb; have BK521 := Aside0.mk (hbox); have GW521 := Aside0.mk ((by rw [hg]; exact (below_size (Bx HB.out)) : w.heap.size ≤ gb521)); have GE521 := Aside0.mk ((by rw [hg]; exact (below_size (Bx HB.out)) : w.heap.size ≤ gb521)); replace HB := Aside0.mk (below_step (Bx HB.out) hb); clear hb hbox hg) | ((with_reducible refine gate_dst (N := 3) rfl ?_); refine box_event ?hg (N := 3) ?hd (cs := #[.bool a1_0, .slice A1_1 l1_1.length c1_1]) (t := 32) ?hr ?_; (case hd => rfl); (case hg => rfl); (case hr => first | (go_simp; done) | (go_simp; rfl)); intro gb522 hg w6 hbox hb; have n0_ := Aside0.mk (blk_below (Kx BK521.out) hb); have n1_ := Aside0.mk (below_step (Bs) hb); have n2_ := Aside0.mk (hbox); have n3_ := Aside0.mk ((by rw [hg]; exact (below_size (Bs)) : w.heap.size ≤ gb522)); have n4_ := Aside0.mk ((by rw [hg]; exact (below_size (Bs)) : w.heap.size ≤ gb522)); have n5_ := Aside0.mk ((by rw [hg]; exact Nat.ne_of_lt (blk_lt (Kx BK521.out)) : gb521 ≠ gb522)); have n6_ := Aside0.mk ((by rw [hg]; exact Nat.ne_of_gt (blk_lt (Kx BK521.out)) : gb522 ≠ gb521)); clear BK521; clear HB; have BK521 := n0_; have HB := n1_; have BK522 := n2_; have GW522 := n3_; have GE522 := n4_; have NB521_522 := n5_; have NB522_521 := n6_; clear n0_ n1_ n2_ n3_ n4_ n5_ n6_; clear hb hbox hg) | ((with_reducible refine gate_dst (N := 4) rfl ?_); refine box_event ?hg (N := 4) ?hd (cs := #[.bool false, .slice none 0 0, .slice none 0 0]) (t := 34) ?hr ?_; (case hd => rfl); (case hg => rfl); (case hr => first | (go_simp; done) | (go_simp; rfl)); intro gb523 hg w7 hbox hb; have n0_ := Aside0.mk (blk_below (Kx BK521.out) hb); have n1_ := Aside0.mk (blk_below (Kx BK522.out) hb); have n2_ := Aside0.mk (below_step (Bs) hb); have n3_ := Aside0.mk (hbox); have n4_ := Aside0.mk ((by rw [hg]; exact (below_size (Bs)) : w.heap.size ≤ gb523)); have n5_ := Aside0.mk ((by rw [hg]; exact (below_size (Bs)) : w.heap.size ≤ gb523)); have n6_ := Aside0.mk ((by rw [hg]; exact Nat.ne_of_lt (blk_lt (Kx BK521.out)) : gb521 ≠ gb523)); have n7_ := Aside0.mk ((by rw [hg]; exact Nat.ne_of_gt (blk_lt (Kx BK521.out)) : gb523 ≠ gb521)); have n8_ := Aside0.mk ((by rw [hg]; exact Nat.ne_of_lt (blk_lt (Kx BK522.out)) : gb522 ≠ gb523)); have n9_ := Aside0.mk ((by rw [hg]; exact Nat.ne_of_gt (blk_lt (Kx BK522.out)) : gb523 ≠ gb522)); clear BK521; clear BK522; clear HB; have BK521 := n0_; have BK522 := n1_; have HB := n2_; have BK523 := n3_; have GW523 := n4_; have GE523 := n5_; have NB521_523 := n6_; have NB523_521 := n7_; have NB522_523 := n8_; have NB523_522 := n9_; clear n0_ n1_ n2_ n3_ n4_ n5_ n6_ n7_ n8_ n9_; clear hb hbox hg; have hnb8 := NB522_521.out; have hnc8 := NB521_522.out; have hnb9 := NB522_523.out; have hnc9 := NB523_522.out; have hcz10_0 : w7.cell? ⟨gb522, 0, none⟩ = some (.bool a1_0) := (blk_cell BK522.out 0).trans rfl; have hcz10_1 : w7.cell? ⟨gb522, 1, none⟩ = some (.slice A1_1 l1_1.length c1_1) := (blk_cell BK522.out 1).trans rfl; have hfz10_0 := blk_frozen BK522.out 0; have hfz10_1 := blk_frozen BK522.out 1) | ((with_reducible refine gate_callee (f := 94) rfl ?_); refine goesx (some 7) Try.func94 #[.agg #[.bool a1_0, .slice A1_1 l1_1.length c1_1]] ?_; (with_reducible refine (whole_Sign.calls a1_0 _ _ l1_1 t524 _ ?side1 ?side2 A3.out).mono ?_); (case side1 => exact Kd.Cx (Kd.C_below HR1_1.out HB.out)); (case side2 => exact HC1_1.out); rintro e w11 ⟨rfl, hb⟩; refine ⟨_, rfl, ?_⟩; replace BK521 := Aside0.mk (blk_below (Kx BK521.out) hb); replace BK522 := Aside0.mk (blk_below (Kx BK522.out) hb); replace BK523 := Aside0.mk (blk_below (Kx BK523.out) hb); replace HB := Aside0.mk (below_step (Bs) hb); (try clear hb); (try clear hb2); (try clear hk); (try clear hi); have hnb12 := NB523_521.out; have hnc12 := NB521_523.out; have hcz13_0 : w11.cell? ⟨gb523, 0, none⟩ = some (.bool false) := (blk_cell BK523.out 0).trans rfl; have hcz13_1 : w11.cell? ⟨gb523, 1, none⟩ = some (.slice none 0 0) := (blk_cell BK523.out 1).trans rfl; have hcz13_2 : w11.cell? ⟨gb523, 2, none⟩ = some (.slice none 0 0) := (blk_cell BK523.out 2).trans rfl; have hfz13_0 := blk_frozen BK523.out 0; have hfz13_1 := blk_frozen BK523.out 1; have hfz13_2 := blk_frozen BK523.out 2))
  refine bodyPost_ret (results_ct rfl _ _ gb523 34 #[.bool false, .slice none 0 0, .slice none 0 0] (0, 0) _ rfl (by (with_reducible repeat (first | refine blk_drewN ?_ _ | refine blk_drew ?_ | refine blk_alloc ?_ _)); refine blk_put (cs := #[.bool false, .slice none 0 0, .slice none 0 0]) ?_ 2 _ rfl; (with_reducible repeat (first | refine blk_drewN ?_ _ | refine blk_drew ?_ | refine blk_alloc ?_ _)); refine blk_put (cs := #[.bool false, .slice none 0 0, .slice none 0 0]) ?_ 1 _ rfl; (with_reducible repeat (first | refine blk_drewN ?_ _ | refine blk_drew ?_ | refine blk_alloc ?_ _)); refine blk_put (cs := #[.bool false, .slice none 0 0, .slice none 0 0]) ?_ 0 _ rfl; (with_reducible repeat (first | refine blk_drewN ?_ _ | refine blk_drew ?_ | refine blk_alloc ?_ _)); exact BK523.out) Try.underlying34 rfl (by kernel_rfl)) rfl ?_
  exact ⟨_, _, by first | rfl | (simp [errW_none, errW_some] <;> rfl) | (simp [*, errW_none, errW_some] <;> rfl), by first | exact Kd.R_nil _ _ _ _ _ | exact Kd.N_nil _ _ _ _ _ | exact Kd.V_nil _ _ _ _ _ | exact Kd.Q_nil _ _ _ _ _ | exact Kd.S_nil _ _ _ _ _, by first | exact Kd.R_nil _ _ _ _ _ | exact Kd.N_nil _ _ _ _ _ | exact Kd.V_nil _ _ _ _ _ | exact Kd.Q_nil _ _ _ _ _ | exact Kd.S_nil _ _ _ _ _, Bs⟩
 ·
  rw [if_neg c4] at H
  have c4b0 : (t524 == 0) = false := beq_eq_false_iff_ne.mpr c4
  have c4b1 : (t524 != 0) = true := bne_iff_ne.mpr c4
  replace H := Option.bind_eq_some_iff.mp H
  obtain ⟨⟨t525, t526⟩, A140, H⟩ := H
  replace H : ((rat_low.f k t525 t526 l1_1).bind fun bt529 => (some (bt529.1, bt529.2.1, bt529.2.2, 0))) = some (r1, r2, r3, r4) := H
  have A14 := Aside0.mk A140
  clear A140
  replace H := Option.bind_eq_some_iff.mp H
  obtain ⟨⟨t529, t530, t533⟩, A150, H⟩ := H
  replace H : (some (t529, t530, t533, 0)) = some (r1, r2, r3, r4) := H
  have A15 := Aside0.mk A150
  clear A150
  simp only [Option.some.injEq, Prod.mk.injEq] at H
  obtain ⟨rfl, rfl, rfl, rfl⟩ := H
  go_enter Try.func67, Try.ntmps67
  try go_wp2_with (first | ((with_reducible refine gate_dst (N := 2) rfl ?_); refine box_event ?hg (N := 2) ?hd (cs := #[.bool a0_0, .slice A0_1 l0_1.length c0_1]) (t := 32) ?hr ?_; (case hd => rfl); (case hg => rfl); (case hr => first | (go_simp; done) | (go_simp; rfl)); intro gb521 hg w16 hbox hb; have BK521 := Aside0.mk (hbox); have GW521 := Aside0.mk ((by rw [hg]; exact (below_size (Bx HB.out)) : w.heap.size ≤ gb521)); have GE521 := Aside0.mk ((by rw [hg]; exact (below_size (Bx HB.out)) : w.heap.size ≤ gb521)); replace HB := Aside0.mk (below_step (Bx HB.out) hb); clear hb hbox hg) | ((with_reducible refine gate_dst (N := 3) rfl ?_); refine box_event ?hg (N := 3) ?hd (cs := #[.bool a1_0, .slice A1_1 l1_1.length c1_1]) (t := 32) ?hr ?_; (case hd => rfl); (case hg => rfl); (case hr => first | (go_simp; done) | (go_simp; rfl)); intro gb522 hg w17 hbox hb; have n0_ := Aside0.mk (blk_below (Kx BK521.out) hb); have n1_ := Aside0.mk (below_step (Bs) hb); have n2_ := Aside0.mk (hbox); have n3_ := Aside0.mk ((by rw [hg]; exact (below_size (Bs)) : w.heap.size ≤ gb522)); have n4_ := Aside0.mk ((by rw [hg]; exact (below_size (Bs)) : w.heap.size ≤ gb522)); have n5_ := Aside0.mk ((by rw [hg]; exact Nat.ne_of_lt (blk_lt (Kx BK521.out)) : gb521 ≠ gb522)); have n6_ := Aside0.mk ((by rw [hg]; exact Nat.ne_of_gt (blk_lt (Kx BK521.out)) : gb522 ≠ gb521)); clear BK521; clear HB; have BK521 := n0_; have HB := n1_; have BK522 := n2_; have GW522 := n3_; have GE522 := n4_; have NB521_522 := n5_; have NB522_521 := n6_; clear n0_ n1_ n2_ n3_ n4_ n5_ n6_; clear hb hbox hg) | ((with_reducible refine gate_dst (N := 4) rfl ?_); refine box_event ?hg (N := 4) ?hd (cs := #[.bool false, .slice none 0 0, .slice none 0 0]) (t := 34) ?hr ?_; (case hd => rfl); (case hg => rfl); (case hr => first | (go_simp; done) | (go_simp; rfl)); intro gb523 hg w18 hbox hb; have n0_ := Aside0.mk (blk_below (Kx BK521.out) hb); have n1_ := Aside0.mk (blk_below (Kx BK522.out) hb); have n2_ := Aside0.mk (below_step (Bs) hb); have n3_ := Aside0.mk (hbox); have n4_ := Aside0.mk ((by rw [hg]; exact (below_size (Bs)) : w.heap.size ≤ gb523)); have n5_ := Aside0.mk ((by rw [hg]; exact (below_size (Bs)) : w.heap.size ≤ gb523)); have n6_ := Aside0.mk ((by rw [hg]; exact Nat.ne_of_lt (blk_lt (Kx BK521.out)) : gb521 ≠ gb523)); have n7_ := Aside0.mk ((by rw [hg]; exact Nat.ne_of_gt (blk_lt (Kx BK521.out)) : gb523 ≠ gb521)); have n8_ := Aside0.mk ((by rw [hg]; exact Nat.ne_of_lt (blk_lt (Kx BK522.out)) : gb522 ≠ gb523)); have n9_ := Aside0.mk ((by rw [hg]; exact Nat.ne_of_gt (blk_lt (Kx BK522.out)) : gb523 ≠ gb522)); clear BK521; clear BK522; clear HB; have BK521 := n0_; have BK522 := n1_; have HB := n2_; have BK523 := n3_; have GW523 := n4_; have GE523 := n5_; have NB521_523 := n6_; have NB523_521 := n7_; have NB522_523 := n8_; have NB523_522 := n9_; clear n0_ n1_ n2_ n3_ n4_ n5_ n6_ n7_ n8_ n9_; clear hb hbox hg; have hnb19 := NB522_521.out; have hnc19 := NB521_522.out; have hnb20 := NB522_523.out; have hnc20 := NB523_522.out; have hcz21_0 : w18.cell? ⟨gb522, 0, none⟩ = some (.bool a1_0) := (blk_cell BK522.out 0).trans rfl; have hcz21_1 : w18.cell? ⟨gb522, 1, none⟩ = some (.slice A1_1 l1_1.length c1_1) := (blk_cell BK522.out 1).trans rfl; have hfz21_0 := blk_frozen BK522.out 0; have hfz21_1 := blk_frozen BK522.out 1) | ((with_reducible refine gate_callee (f := 94) rfl ?_); refine goesx (some 7) Try.func94 #[.agg #[.bool a1_0, .slice A1_1 l1_1.length c1_1]] ?_; (with_reducible refine (whole_Sign.calls a1_0 _ _ l1_1 t524 _ ?side1 ?side2 A3.out).mono ?_); (case side1 => exact Kd.Cx (Kd.C_below HR1_1.out HB.out)); (case side2 => exact HC1_1.out); rintro e w22 ⟨rfl, hb⟩; refine ⟨_, rfl, ?_⟩; replace BK521 := Aside0.mk (blk_below (Kx BK521.out) hb); replace BK522 := Aside0.mk (blk_below (Kx BK522.out) hb); replace BK523 := Aside0.mk (blk_below (Kx BK523.out) hb); replace HB := Aside0.mk (below_step (Bs) hb); (try clear hb); (try clear hb2); (try clear hk); (try clear hi)))
  replace BK521 := Aside0.mk (blk_drew BK521.out)
  replace BK522 := Aside0.mk (blk_drew BK522.out)
  replace BK523 := Aside0.mk (blk_drew BK523.out)
  replace HB := Aside0.mk (below_drew1 HB.out)
  refine start_ (n := 13) (S := fun w' => w'.cell? ⟨gb521, 0, none⟩ = some (.bool a0_0) ∧ w'.cell? ⟨gb521, 1, none⟩ = some (.slice A0_1 l0_1.length c0_1) ∧ w'.cell? ⟨gb522, 0, none⟩ = some (.bool a1_0) ∧ w'.cell? ⟨gb522, 1, none⟩ = some (.slice A1_1 l1_1.length c1_1)) (ds := []) #[false, false, false, false, false, false, false, false, false, false, false, false, false] (by kernel_rfl) rfl rfl ⟨(blk_cell BK521.out 0).trans rfl, (blk_cell BK521.out 1).trans rfl, (blk_cell BK522.out 0).trans rfl, (blk_cell BK522.out 1).trans rfl⟩ (fun hHeld => ?_); refine with_tabW rat_Make.tab3 rat_Make.bits3 (fun HT_ HW_ => ?_)
  generalize w22.drew = w23 at BK521 BK522 BK523 HB hHeld ⊢
  refine pure_ (i := 0) (N := some 10) (v := ?_) (a' := ?_) #[true, false, false, false, false, false, false, false, false, false, false, false, false] rfl rfl (any_of HT_.out (by kernel_rfl)) (fun _ _ _ h => h) (Or.inl ⟨by rfl, ?_⟩) ?_ ?_
  rotate_left
  ·
   intro w'
   go_simp
   with_reducible rfl
  rotate_left
  ·
   simp only [Act.put, List.setIfInBounds_toArray, List.set_cons_zero, List.set_cons_succ, i64_w, i32_w]
   rfl
  refine pure_ (i := 2) (N := some 12) (v := ?_) (a' := ?_) #[true, false, true, false, false, false, false, false, false, false, false, false, false] rfl rfl (any_of HT_.out (by kernel_rfl)) (fun _ _ _ h => h) (Or.inl ⟨by rfl, ?_⟩) ?_ ?_
  rotate_left
  ·
   intro w'
   go_simp
   with_reducible rfl
  rotate_left
  ·
   simp only [Act.put, List.setIfInBounds_toArray, List.set_cons_zero, List.set_cons_succ, i64_w, i32_w]
   rfl
  refine pure_ (i := 5) (N := some 15) (v := ?_) (a' := ?_) #[true, false, true, false, false, true, false, false, false, false, false, false, false] rfl rfl (any_of HT_.out (by kernel_rfl)) (fun _ _ _ h => h) (Or.inl ⟨by rfl, ?_⟩) ?_ ?_
  rotate_left
  ·
   intro w'
   go_simp
   with_reducible rfl
  rotate_left
  ·
   simp only [Act.put, List.setIfInBounds_toArray, List.set_cons_zero, List.set_cons_succ, i64_w, i32_w]
   rfl
  refine pure_ (i := 8) (N := some 18) (v := ?_) (a' := ?_) #[true, false, true, false, false, true, false, false, true, false, false, false, false] rfl rfl (any_of HT_.out (by kernel_rfl)) (fun _ _ _ h => h) (Or.inl ⟨by rfl, ?_⟩) ?_ ?_
  rotate_left
  ·
   intro w'
   go_simp
   with_reducible rfl
  rotate_left
  ·
   simp only [Act.put, List.setIfInBounds_toArray, List.set_cons_zero, List.set_cons_succ, i64_w, i32_w]
   rfl
  refine take_ (i := 1) (N := some 11) (v := ?_) (a' := ?_) #[true, true, true, false, false, true, false, false, true, false, false, false, false] rfl rfl (take_ofW HT_.out HW_.out (by kernel_rfl)) (fun _ _ _ h => h) (Or.inl ⟨by rfl, ?_⟩) hHeld ?_ ?_
  rotate_left
  ·
   rintro w' ⟨s0, s1, s2, s3⟩
   go_simp
   with_reducible rfl
  rotate_left
  ·
   simp only [Act.put, List.setIfInBounds_toArray, List.set_cons_zero, List.set_cons_succ, i64_w, i32_w]
   rfl
  refine take_ (i := 3) (N := some 13) (v := ?_) (a' := ?_) #[true, true, true, true, false, true, false, false, true, false, false, false, false] rfl rfl (take_ofW HT_.out HW_.out (by kernel_rfl)) (fun _ _ _ h => h) (Or.inl ⟨by rfl, ?_⟩) hHeld ?_ ?_
  rotate_left
  ·
   rintro w' ⟨s0, s1, s2, s3⟩
   go_simp
   with_reducible rfl
  rotate_left
  ·
   simp only [Act.put, List.setIfInBounds_toArray, List.set_cons_zero, List.set_cons_succ, i64_w, i32_w]
   rfl
  refine pure_ (i := 4) (N := some 14) (v := ?_) (a' := ?_) #[true, true, true, true, true, true, false, false, true, false, false, false, false] rfl rfl (any_of HT_.out (by kernel_rfl)) (fun _ _ _ h => h) (Or.inl ⟨by rfl, ?_⟩) ?_ ?_
  rotate_left
  ·
   intro w'
   go_simp
   with_reducible rfl
  rotate_left
  ·
   simp only [Act.put, List.setIfInBounds_toArray, List.set_cons_zero, List.set_cons_succ, i64_w, i32_w]
   rfl
  refine take_ (i := 6) (N := some 16) (v := ?_) (a' := ?_) #[true, true, true, true, true, true, true, false, true, false, false, false, false] rfl rfl (take_ofW HT_.out HW_.out (by kernel_rfl)) (fun _ _ _ h => h) (Or.inl ⟨by rfl, ?_⟩) hHeld ?_ ?_
  rotate_left
  ·
   rintro w' ⟨s0, s1, s2, s3⟩
   go_simp
   with_reducible rfl
  rotate_left
  ·
   simp only [Act.put, List.setIfInBounds_toArray, List.set_cons_zero, List.set_cons_succ, i64_w, i32_w]
   rfl
  refine take_ (i := 9) (N := some 19) (v := ?_) (a' := ?_) #[true, true, true, true, true, true, true, false, true, true, false, false, false] rfl rfl (take_ofW HT_.out HW_.out (by kernel_rfl)) (fun _ _ _ h => h) (Or.inl ⟨by rfl, ?_⟩) hHeld ?_ ?_
  rotate_left
  ·
   rintro w' ⟨s0, s1, s2, s3⟩
   go_simp
   with_reducible rfl
  rotate_left
  ·
   simp only [Act.put, List.setIfInBounds_toArray, List.set_cons_zero, List.set_cons_succ, i64_w, i32_w]
   rfl
  refine one_ (i := 7) (N := some 17) #[true, true, true, true, true, true, true, true, true, true, false, false, false] rfl rfl (one_of HT_.out (by kernel_rfl)) (by decide) (fun K hK => ?_)
  refine goes_ Try.func91 (by kernel_rfl) rfl #[.bool (a0_0 != a1_0), .slice A0_1 l0_1.length c0_1] (by rfl) rfl rfl (by (try simp only [List.map_toArray, List.map_cons, List.map_nil]); first | done | rfl | (simp only [List.length_drop, List.length_take]; rfl)) ?_
  with_reducible refine (whole_Made.calls k (a0_0 != a1_0) _ _ l0_1 t525 t526 _ ?side1 ?side2 A14.out).mono ?_
  (case side1 => exact Kd.Cx (Kd.C_below HR0_1.out HB.out))
  (case side2 => exact HC0_1.out)
  rintro e w24 ⟨v527, rfl, ho0, hb⟩
  refine ⟨_, rfl, ?_⟩
  have HO528 := Aside0.mk (Kd.R_lower ho0 (below_size (Bs)))
  replace BK521 := Aside0.mk (blk_below (Kx BK521.out) hb)
  replace BK522 := Aside0.mk (blk_below (Kx BK522.out) hb)
  replace BK523 := Aside0.mk (blk_below (Kx BK523.out) hb)
  replace HB := Aside0.mk (below_step (Bs) hb)
  (try clear hb)
  (try clear hb2)
  (try clear hk)
  (try clear hi)
  (try clear ho0)
  obtain ⟨Ao25, co25, eo25⟩ := Kd.R_slice HO528.out
  (first | subst eo25 | (injection eo25 with f1_ f2_ f3_; have f4_ := f1_.symm; have f5_ := f3_.symm; clear f1_ f2_ f3_; subst f4_; subst f5_))
  refine hK.out _ _ ⟨(blk_cell BK521.out 0).trans rfl, (blk_cell BK521.out 1).trans rfl, (blk_cell BK522.out 0).trans rfl, (blk_cell BK522.out 1).trans rfl⟩ (fun hHeld => ?_)
  clear hK K
  refine norm_ (a' := ?_) ?_ ?_
  rotate_left
  ·
   show Act.put _ (some 17) _ = _
   simp only [Act.put, List.setIfInBounds_toArray, List.set_cons_zero, List.set_cons_succ, i64_w, i32_w]
   rfl
  refine one_ (i := 10) (N := some 20) #[true, true, true, true, true, true, true, true, true, true, true, false, false] rfl rfl (one_of HT_.out (by kernel_rfl)) (by decide) (fun K hK => ?_)
  refine goes_ Try.func101 (by kernel_rfl) rfl #[.agg #[.bool t525, .slice Ao25 t526.length co25], .slice A1_1 l1_1.length c1_1] (by rfl) rfl rfl (by (try simp only [List.map_toArray, List.map_cons, List.map_nil]); first | done | rfl | (simp only [List.length_drop, List.length_take]; rfl)) ?_
  with_reducible refine (rat_low.calls k t525 _ _ t526 _ _ l1_1 t529 t530 t533 _ ?side1 ?side2 ?side3 ?side4 A15.out).mono ?_
  (case side1 => exact Kd.Cx (Kd.R_reads' HO528.out).2.2)
  (case side2 => exact (Kd.R_reads' HO528.out).2.1)
  (case side3 => exact Kd.Cx (Kd.C_below HR1_1.out HB.out))
  (case side4 => exact HC1_1.out)
  rintro e w26 ⟨v531, v534, rfl, ho0, ho1, hb⟩
  refine ⟨_, rfl, ?_⟩
  have HO532 := Aside0.mk (Kd.R_lower (Kd.R_new' ho0 (Kd.R_lt (Kd.Rx HO528.out))) (below_size (Bs)))
  have HO535 := Aside0.mk (Kd.R_lower (Kd.R_new' ho1 (Kd.R_lt (Kd.Rx HO528.out))) (below_size (Bs)))
  replace HO528 := Aside0.mk (Kd.R_mono (Kd.R_told (Kd.R_told (Kd.R_old (Kd.Rx HO528.out) hb) (Kd.R_base ho0)) (Kd.R_base ho1)) (fun _ h_ => h_.1))
  replace BK521 := Aside0.mk (blk_below (Kx BK521.out) hb)
  replace BK522 := Aside0.mk (blk_below (Kx BK522.out) hb)
  replace BK523 := Aside0.mk (blk_below (Kx BK523.out) hb)
  replace HB := Aside0.mk (below_step (Bs) hb)
  (try clear hb)
  (try clear hb2)
  (try clear hk)
  (try clear hi)
  (try clear ho0)
  (try clear ho1)
  obtain ⟨Ao28, co28, eo28⟩ := Kd.R_slice HO532.out
  (first | subst eo28 | (injection eo28 with f1_ f2_ f3_; have f4_ := f1_.symm; have f5_ := f3_.symm; clear f1_ f2_ f3_; subst f4_; subst f5_))
  obtain ⟨Ao30, co30, eo30⟩ := Kd.R_slice HO535.out
  (first | subst eo30 | (injection eo30 with f1_ f2_ f3_; have f4_ := f1_.symm; have f5_ := f3_.symm; clear f1_ f2_ f3_; subst f4_; subst f5_))
  refine hK.out _ _ ⟨(blk_cell BK521.out 0).trans rfl, (blk_cell BK521.out 1).trans rfl, (blk_cell BK522.out 0).trans rfl, (blk_cell BK522.out 1).trans rfl⟩ (fun hHeld => ?_)
  clear hK K
  refine norm_ (a' := ?_) ?_ ?_
  rotate_left
  ·
   show Act.put _ (some 20) _ = _
   simp only [Act.put, List.setIfInBounds_toArray, List.set_cons_zero, List.set_cons_succ, i64_w, i32_w]
   rfl
  refine one_ (i := 11) (N := none) #[true, true, true, true, true, true, true, true, true, true, true, true, false] rfl rfl (one_of HT_.out (by kernel_rfl)) (by decide) (fun K hK => ?_)
  have hs27 : w26.cell? ⟨gb523, 0, none⟩ = some (.bool false) := (blk_cell BK523.out 0).trans rfl
  have hfs27 := blk_frozen BK523.out 0
  have hns27_0 := NB521_523.out
  have hns27_1 := NB522_523.out
  have hms27_0 := NB523_521.out
  have hms27_1 := NB523_522.out
  have hs29 : w26.cell? ⟨gb523, 1, none⟩ = some (.slice none 0 0) := (blk_cell BK523.out 1).trans rfl
  have hfs29 := blk_frozen BK523.out 1
  have hns29_0 := NB521_523.out
  have hns29_1 := NB522_523.out
  have hms29_0 := NB523_521.out
  have hms29_1 := NB523_522.out
  have hs31 : w26.cell? ⟨gb523, 2, none⟩ = some (.slice none 0 0) := (blk_cell BK523.out 2).trans rfl
  have hfs31 := blk_frozen BK523.out 2
  have hns31_0 := NB521_523.out
  have hns31_1 := NB522_523.out
  have hms31_0 := NB523_521.out
  have hms31_1 := NB523_522.out
  refine skip_ (w1 := ?_) (by rfl) rfl ?_ ?_
  rotate_left
  ·
   go_simp
   rfl
  refine hK.out _ _ ⟨((cell_far (p := ⟨gb523, _, none⟩) NB521_523.out _).trans (((cell_far (p := ⟨gb523, _, none⟩) NB521_523.out _).trans (((cell_far (p := ⟨gb523, _, none⟩) NB521_523.out _).trans (hHeld.1)))))), ((cell_far (p := ⟨gb523, _, none⟩) NB521_523.out _).trans (((cell_far (p := ⟨gb523, _, none⟩) NB521_523.out _).trans (((cell_far (p := ⟨gb523, _, none⟩) NB521_523.out _).trans (hHeld.2.1)))))), ((cell_far (p := ⟨gb523, _, none⟩) NB522_523.out _).trans (((cell_far (p := ⟨gb523, _, none⟩) NB522_523.out _).trans (((cell_far (p := ⟨gb523, _, none⟩) NB522_523.out _).trans (hHeld.2.2.1)))))), ((cell_far (p := ⟨gb523, _, none⟩) NB522_523.out _).trans (((cell_far (p := ⟨gb523, _, none⟩) NB522_523.out _).trans (((cell_far (p := ⟨gb523, _, none⟩) NB522_523.out _).trans (hHeld.2.2.2))))))⟩ (fun hHeld => ?_)
  clear hK K
  refine pure_ (i := 12) (N := some 5) (v := ?_) (a' := ?_) #[true, true, true, true, true, true, true, true, true, true, true, true, true] rfl rfl (any_of HT_.out (by kernel_rfl)) (fun _ _ _ h => h) (Or.inl ⟨by rfl, ?_⟩) ?_ ?_
  rotate_left
  ·
   intro w'
   go_simp
   with_reducible rfl
  rotate_left
  ·
   simp only [Act.put, List.setIfInBounds_toArray, List.set_cons_zero, List.set_cons_succ, i64_w, i32_w]
   rfl
  refine done_ (done_of HT_.out (by kernel_rfl)) ?_
  try go_wp2
  refine bodyPost_ret (results_ct rfl _ _ gb523 34 #[.bool t529, .slice Ao28 t530.length co28, .slice Ao30 t533.length co30] (0, 0) _ rfl (by (with_reducible repeat (first | refine blk_drewN ?_ _ | refine blk_drew ?_ | refine blk_alloc ?_ _)); refine blk_put (cs := #[.bool t529, .slice Ao28 t530.length co28, .slice none 0 0]) ?_ 2 _ rfl; (with_reducible repeat (first | refine blk_drewN ?_ _ | refine blk_drew ?_ | refine blk_alloc ?_ _)); refine blk_put (cs := #[.bool t529, .slice none 0 0, .slice none 0 0]) ?_ 1 _ rfl; (with_reducible repeat (first | refine blk_drewN ?_ _ | refine blk_drew ?_ | refine blk_alloc ?_ _)); refine blk_put (cs := #[.bool false, .slice none 0 0, .slice none 0 0]) ?_ 0 _ rfl; (with_reducible repeat (first | refine blk_drewN ?_ _ | refine blk_drew ?_ | refine blk_alloc ?_ _)); exact BK523.out) Try.underlying34 rfl (by kernel_rfl)) rfl ?_
  exact ⟨_, _, by first | rfl | (simp [errW_none, errW_some] <;> rfl) | (simp [*, errW_none, errW_some] <;> rfl), by exact Kd.Rx (Kd.R_mono (Kd.R_far (p := ⟨gb523, 2, none⟩) (Kd.R_far (p := ⟨gb523, 1, none⟩) (Kd.R_far (p := ⟨gb523, 0, none⟩) (Kd.R_types HO532.out BK523.out (by decide)) (fun _ hk => hk.2) (.bool t529)) (fun _ hk => hk.2) (.slice Ao28 t530.length co28)) (fun _ hk => hk.2) (.slice Ao30 t533.length co30)) (fun _ hk => hk.1.1)), by exact Kd.Rx (Kd.R_mono (Kd.R_far (p := ⟨gb523, 2, none⟩) (Kd.R_far (p := ⟨gb523, 1, none⟩) (Kd.R_far (p := ⟨gb523, 0, none⟩) (Kd.R_types HO535.out BK523.out (by decide)) (fun _ hk => hk.2) (.bool t529)) (fun _ hk => hk.2) (.slice Ao28 t530.length co28)) (fun _ hk => hk.2) (.slice Ao30 t533.length co30)) (fun _ hk => hk.1.1)), Bs⟩
end Go.Proofs.Ytpmbcdakpmceiaa.F

end
section
namespace Go.Proofs.Ytpmbcdakpmceiaa.F
open Go.RowKit Go.Proofs.YtpmbcdakpmceiaaW.PrintWords Go.Proofs.YtpmbcdakpmceiaaW.PrintLast Go.Proofs.YtpmbcdakpmceiaaW.PrintMore
attribute [local go_sem] max2_int min2_int max_two min_two max_three min_three max_four min_four
set_option linter.unusedVariables false
set_option linter.unusedSimpArgs false
def rat_Add.f (k : Nat) (a0_0 : Bool) (l0_1 : List Int) (l0_2 : List Int) (a1_0 : Bool) (l1_1 : List Int) (l1_2 : List Int) : Option (Bool × List Int × List Int) := (rat_up.f k a1_0 l1_1 l1_2).bind fun bt539 => ((whole_Mul.f k a0_0 l0_1 bt539.1 bt539.2).bind fun bt543 => ((rat_up.f k a0_0 l0_1 l0_2).bind fun bt547 => ((whole_Mul.f k a1_0 l1_1 bt547.1 bt547.2).bind fun bt551 => ((whole_Add.f k bt543.1 bt543.2 bt551.1 bt551.2).bind fun bt555 => ((rat_up.f k a0_0 l0_1 l0_2).bind fun bt560 => ((rat_up.f k a1_0 l1_1 l1_2).bind fun bt564 => ((whole_Mul.f k bt560.1 bt560.2 bt564.1 bt564.2).bind fun bt568 => ((rat_Make.f k bt555.1 bt555.2 bt568.1 bt568.2).bind fun bt572 => (some (bt572.1, bt572.2.1, bt572.2.2.1))))))))))
theorem rat_Add.mono : ∀ a0 a1 a2 a3 a4 a5 k, LeO (rat_Add.f k a0 a1 a2 a3 a4 a5) (rat_Add.f (k + 1) a0 a1 a2 a3 a4 a5) := by
 intro a0 a1 a2 a3 a4 a5 k
 unfold rat_Add.f
 repeat' first
   | (with_reducible exact rat_Make.mono _ _ _ _ _)
   | (with_reducible exact rat_up.mono _ _ _ _)
   | (with_reducible exact whole_Add.mono _ _ _ _ _)
   | (with_reducible exact whole_Mul.mono _ _ _ _ _)
   | (with_reducible exact LeO.refl _)
   | (with_reducible exact LeO.none _)
   | (with_reducible refine LeO.ite ?_ ?_)
   | (with_reducible refine LeO.bind ?_ (fun _ => ?_))
   | exact rat_Make.mono _ _ _ _ _
   | exact rat_up.mono _ _ _ _
   | exact whole_Add.mono _ _ _ _ _
   | exact whole_Mul.mono _ _ _ _ _
   | exact LeO.none _
   | refine LeO.ite ?_ ?_
   | refine LeO.bind ?_ (fun _ => ?_)
end Go.Proofs.Ytpmbcdakpmceiaa.F

end
