/- A part of the proof of the law VectMakes: words, what the Go code does function by function, lemmas (assembled by wip/assemble.py). -/
import Derived.Test.YtpmbcdakpmceiaaCVectMakes1
set_option linter.unusedVariables false
set_option linter.unusedSimpArgs false
set_option linter.unusedSectionVars false
section
namespace Go.Proofs.Ytpmbcdakpmceiaa.F
open Go.RowKit Go.Proofs.YtpmbcdakpmceiaaW.PrintWords Go.Proofs.YtpmbcdakpmceiaaW.PrintLast Go.Proofs.YtpmbcdakpmceiaaW.PrintMore
attribute [local go_sem] max2_int min2_int max_two min_two max_three min_three max_four min_four
set_option linter.unusedVariables false
set_option linter.unusedSimpArgs false
set_option maxHeartbeats 8000000 in
set_option maxRecDepth 100000 in
theorem mul_Long.calls (k : Nat) (A0 : Option Addr) (c0 : Nat) (l0 : List Int) (A1 : Option Addr) (c1 : Nat) (l1 : List Int) (r : List Int) (w : World) (hr0 : Kd.C (Kd.int .u64) w A0 l0.length l0) (hc0 : l0.length ≤ c0) (hr1 : Kd.C (Kd.int .u64) w A1 l1.length l1) (hc1 : l1.length ≤ c1) (h : mul_Long.f k l0 l1 = some r) :
  Calls Try.prog 141 #[.slice A0 l0.length c0, .slice A1 l1.length c1] w fun e w' => ∃ v0_ : Value, e = .returned (v0_) ∧ Kd.R (Kd.int .u64) 96 w' w.heap.size (fun _ => True) v0_ r ∧ Below w.heap.size w w' := by
 have HR0 := Aside0.mk hr0
 have HC0 := Aside0.mk hc0
 clear hr0 hc0
 have HR1 := Aside0.mk hr1
 have HC1 := Aside0.mk hc1
 clear hr1 hc1
 have HB := Aside0.mk (Below.refl w.heap.size w)
 have H : (if 0 ≤ (wrap64 ((l0.length : Int) + (l1.length : Int))) then (if (wrap64 ((l0.length : Int) + (l1.length : Int)) : Int).toNat ≤ 35184372088832 then (mul_Long.l0 k l1 (List.replicate (wrap64 ((l0.length : Int) + (l1.length : Int)) : Int).toNat 0) l0 (l0.length : Int) 0) else (none)) else (none)) = some r := h
 clear h
 obtain ⟨ji3, hji3⟩ : ∃ j_ : Int, (wrap64 ((l0.length : Int) + (l1.length : Int))) = j_ := ⟨_, rfl⟩
 replace H : (if 0 ≤ (ji3) then (if (ji3 : Int).toNat ≤ 35184372088832 then (mul_Long.l0 k l1 (List.replicate (ji3 : Int).toNat 0) l0 (l0.length : Int) 0) else (none)) else (none)) = some r := by first | (rw [hji3] at H; exact H) | (simp only [hji3] at H ⊢; exact H)
 have hji3w : (IntKind.i64.wrap ((l0.length : Int) + (l1.length : Int))) = ji3 := (i64_w _).trans hji3
 by_cases c4 : 0 ≤ (ji3)
 ·
  rw [if_pos c4] at H
  have c4b0 := eq_true c4
  have c4b1 : decide (0 ≤ (ji3)) = true := decide_eq_true c4
  clear c4
  by_cases c5 : (ji3 : Int).toNat ≤ 35184372088832
  ·
   rw [if_pos c5] at H
   have c5b0 := eq_true c5
   have c5b1 : decide ((ji3 : Int).toNat ≤ 35184372088832) = true := decide_eq_true c5
   clear c5
   obtain ⟨y255, hy255⟩ : ∃ y_ : List Int, y_ = (List.replicate (ji3 : Int).toNat 0) := ⟨_, rfl⟩
   replace H : (mul_Long.l0 k l1 y255 l0 (l0.length : Int) 0) = some r := by first | (rw [hy255]; with_reducible exact H) | (have H2_ := (Option.bind_some _ _).symm.trans H; rw [hy255]; with_reducible exact H2_) | (have H2_ := (Option.bind_some _ _).symm.trans H; with_reducible exact H2_) | with_reducible exact H | (rw [hy255]; exact H) | exact H
   have Ny255 := Aside0.mk hy255
   clear hy255
   have H' := Aside0.mk H
   clear H
   go_enter Try.func141, Try.ntmps141
   go_wp2_with (first | ((with_reducible refine gate_dst (N := 16) rfl ?_); refine Kd.R_make (Kd.int .u64) _ 96 rfl (N := 16) rfl 29 _ _ rfl ji3 rfl rfl Try.underlying29 (.int .u64 0) 8 info96 rfl (by decide) (by omega) 0 (ok := fun _ => True) (okp := fun _ => True) rfl (fun _ hk => hk) trivial (tx) (Nat.le_trans (Nat.mul_le_mul_right _ (tx : ji3.toNat ≤ 35184372088832)) (by omega)) (Below.refl _ _) (Nat.le_refl _) ?_; intro v256 w6 ho7 hb hg_ hnew_; clear hg_ hnew_; (first | rw [← Ny255.out] at ho7 | (simp only [Int.reduceToNat] at ho7; rw [← Ny255.out] at ho7)); have HO257 := Aside0.mk (Kd.R_lower ho7 (below_size (Bx HB.out))); replace HB := Aside0.mk (below_step (Bx HB.out) hb); clear hb ho7))
   go_loopg [19] k (fun kq v19 w' => ∃ (x5_1 : List Int) (x19_1 : Int), v19 = .int .i64 x19_1 ∧ Aside0 (mul_Long.l0 kq l1 x5_1 l0 (l0.length : Int) x19_1 = some r) ∧ Aside0 (kq ≤ k) ∧ Aside0 (Kd.R (Kd.int .u64) 96 w' w.heap.size (fun _ => True) v256 x5_1) ∧ Aside0 (Below w.heap.size w w'))
   case atStart => exact ⟨(y255), (0), (by first | rfl | (simp; done) | (simp [*]; done)), H', ⟨Nat.le_refl _⟩, ⟨by first | exact Kd.Rx HO257.out | exact HO257.out⟩, ⟨Bx HB.out⟩⟩
   case round =>
    clear H'
    try clear c1
    try clear p2
    try clear c4
    try clear c4b0
    try clear c4b1
    try clear c5
    try clear c5b0
    try clear c5b1
    try clear p6
    obtain ⟨x5_1, x19_1, rfl, HA, HK1, HO_5, HB⟩ := hrel
    cases gk with
    | zero => exact absurd HA.out (by simp [mul_Long.l0])
    | succ k1 =>
     have H := HA.out
     clear HA
     simp only [mul_Long.l0] at H
     by_cases c8 : x19_1 < (l0.length : Int)
     ·
      rw [if_pos c8] at H
      have c8b0 : decide (x19_1 < (l0.length : Int)) = true := decide_eq_true c8
      clear c8
      by_cases c9 : 0 ≤ x19_1
      ·
       rw [if_pos c9] at H
       have c9b0 : decide (0 ≤ x19_1) = true := decide_eq_true c9
       clear c9
       by_cases c10 : x19_1 < (l0.length : Int)
       ·
        rw [if_pos c10] at H
        have c10b0 : decide (x19_1 < (l0.length : Int)) = true := decide_eq_true c10
        clear c10
        have H' := Aside0.mk H
        clear H
        have p261 : 0 ≤ (x19_1 : Int) := tx
        have q261 : x19_1 < (l0.length : Int) := tx
        obtain ⟨ad261, e261, hx261_0⟩ := Kd.at_int HR0.out x19_1 p261 q261
        cases e261
        replace hx261_0 := (HB.out.cell (World.block_lt_of_cell? w _ hx261_0)).trans hx261_0
        replace p261 := eq_true p261
        replace q261 := eq_true q261
        go_wp2
        go_loopg [8, 26] k1 (fun kq v8 v26 w' => ∃ (x5_2 : List Int) (x8_2 : Int) (x26_2 : Int), v8 = .int .u64 x8_2 ∧ v26 = .int .i64 x26_2 ∧ Aside0 (mul_Long.l1 kq l1 x5_2 x19_1 (rd l0 x19_1) x8_2 l0 (l0.length : Int) x19_1 l1 (l1.length : Int) x26_2 = some r) ∧ Aside0 (kq ≤ k1) ∧ Aside0 (Kd.R (Kd.int .u64) 96 w' w.heap.size (fun _ => True) v256 x5_2) ∧ Aside0 (Below w.heap.size w w'))
        case atStart => exact ⟨(x5_1), (0), (0), (by first | rfl | (simp; done) | (simp [*]; done)), (by first | rfl | (simp; done) | (simp [*]; done)), H', ⟨Nat.le_refl _⟩, ⟨by first | exact Kd.Rx HO_5.out | exact HO_5.out⟩, ⟨Bx HB.out⟩⟩
        case round =>
         clear H'
         try clear c1
         try clear p2
         try clear q2
         try clear hx2
         try clear c4
         try clear c4b0
         try clear c4b1
         try clear c5
         try clear c5b0
         try clear c5b1
         try clear p6
         try clear c8
         try clear c8b0
         try clear c9
         try clear c9b0
         try clear c10
         try clear c10b0
         try clear hx261_0
         try clear p2
         try clear p261
         try clear p6
         try clear q261
         obtain ⟨x5_2, x8_2, x26_2, rfl, rfl, HA, HK2, HO_5, HB⟩ := hrel
         cases gk with
         | zero => exact absurd HA.out (by simp [mul_Long.l1])
         | succ k2 =>
          have H := HA.out
          clear HA
          simp only [mul_Long.l1] at H
          by_cases c11 : x26_2 < (l1.length : Int)
          ·
           rw [if_pos c11] at H
           have c11b0 : decide (x26_2 < (l1.length : Int)) = true := decide_eq_true c11
           clear c11
           by_cases c12 : 0 ≤ x26_2
           ·
            rw [if_pos c12] at H
            have c12b0 : decide (0 ≤ x26_2) = true := decide_eq_true c12
            clear c12
            by_cases c13 : x26_2 < (l1.length : Int)
            ·
             rw [if_pos c13] at H
             have c13b0 : decide (x26_2 < (l1.length : Int)) = true := decide_eq_true c13
             clear c13
             obtain ⟨ji14, hji14⟩ : ∃ j_ : Int, (wrap64 (x19_1 + x26_2)) = j_ := ⟨_, rfl⟩
             replace H : (if 0 ≤ (ji14) then (if (ji14) < (x5_2.length : Int) then ((limb_Mul.f (rd l0 x19_1) (rd l1 x26_2) (rd x5_2 (ji14)) x8_2).bind fun bt264 => (mul_Long.l1 k2 l1 (x5_2.set ((ji14) : Int).toNat bt264.1) x19_1 (rd l0 x19_1) bt264.2 l0 (l0.length : Int) x19_1 l1 (l1.length : Int) (wrap64 (x26_2 + 1)))) else (none)) else (none)) = some r := by first | (rw [hji14] at H; exact H) | (simp only [hji14] at H ⊢; exact H)
             have hji14w : (IntKind.i64.wrap (x19_1 + x26_2)) = ji14 := (i64_w _).trans hji14
             by_cases c15 : 0 ≤ (ji14)
             ·
              rw [if_pos c15] at H
              have c15b0 : decide (0 ≤ (ji14)) = true := decide_eq_true c15
              clear c15
              by_cases c16 : (ji14) < (x5_2.length : Int)
              ·
               rw [if_pos c16] at H
               have c16b0 : decide ((ji14) < (x5_2.length : Int)) = true := decide_eq_true c16
               clear c16
               replace H := Option.bind_eq_some_iff.mp H
               obtain ⟨⟨t264, t265⟩, A170, H⟩ := H
               replace H : (mul_Long.l1 k2 l1 (x5_2.set ((ji14) : Int).toNat t264) x19_1 (rd l0 x19_1) t265 l0 (l0.length : Int) x19_1 l1 (l1.length : Int) (wrap64 (x26_2 + 1))) = some r := H
               have A17 := Aside0.mk A170
               clear A170
               obtain ⟨y266, hy266⟩ : ∃ y_ : List Int, y_ = (x5_2.set ((ji14) : Int).toNat t264) := ⟨_, rfl⟩
               replace H : (mul_Long.l1 k2 l1 y266 x19_1 (rd l0 x19_1) t265 l0 (l0.length : Int) x19_1 l1 (l1.length : Int) (wrap64 (x26_2 + 1))) = some r := by first | (rw [hy266]; with_reducible exact H) | (have H2_ := (Option.bind_some _ _).symm.trans H; rw [hy266]; with_reducible exact H2_) | (have H2_ := (Option.bind_some _ _).symm.trans H; with_reducible exact H2_) | with_reducible exact H | (rw [hy266]; exact H) | exact H
               have Ny266 := Aside0.mk hy266
               clear hy266
               have H' := Aside0.mk H
               clear H
               have p262 : 0 ≤ (x26_2 : Int) := tx
               have q262 : x26_2 < (l1.length : Int) := tx
               obtain ⟨ad262, e262, hx262_0⟩ := Kd.at_int HR1.out x26_2 p262 q262
               cases e262
               replace hx262_0 := (HB.out.cell (World.block_lt_of_cell? w _ hx262_0)).trans hx262_0
               replace p262 := eq_true p262
               replace q262 := eq_true q262
               obtain ⟨Ao19, co19, eo19⟩ := Kd.R_slice HO_5.out
               subst eo19
               have p263 : 0 ≤ ((ji14) : Int) := tx
               have q263 : (ji14) < (x5_2.length : Int) := tx
               obtain ⟨ad263, e263, hx263_0⟩ := Kd.at_int (Kd.R_reads' HO_5.out).2.2 (ji14) p263 q263
               cases e263
               replace p263 := eq_true p263
               replace q263 := eq_true q263
               go_wp2_with (first | ((with_reducible refine gate_callee (f := 152) rfl ?_); refine goesL_ (some 45) rfl rfl Try.func152 (by kernel_rfl) rfl #[.int .u64 (rd l0 x19_1), .int .u64 (rd l1 x26_2), .int .u64 (rd x5_2 (ji14)), .int .u64 x8_2] rfl (by (try simp only [List.map_toArray, List.map_cons, List.map_nil]); first | done | (simp only [hji14]; rfl) | rfl | (simp only [List.length_drop, List.length_take]; rfl)) ?_; (with_reducible refine (limb_Mul.calls (rd l0 x19_1) (rd l1 x26_2) (rd x5_2 (ji14)) x8_2 t264 t265 _ A17.out).mono ?_); rintro e w' ⟨rfl, ⟨nd, rfl⟩⟩; refine ⟨_, rfl, ?_⟩; (try (rw [drewN_self wr]; generalize hq_ : World.drewN wr _ = wr; have n0_ : Aside0 (Kd.R (Kd.int .u64) 96 wr w.heap.size (fun _ => True) (.slice (some ad263) x5_2.length co19) x5_2) := ⟨by rw [← hq_]; exact (Kd.Rx HO_5.out)⟩; have n1_ : Aside0 (Below w.heap.size w wr) := ⟨by rw [← hq_]; exact (Bx HB.out)⟩; clear HO_5 HB hq_; have HO_5 := n0_; have HB := n1_; clear n0_ n1_)); have p18 : 0 ≤ ((ji14) : Int) := tx; have q18 : ((ji14) : Int) < ((x5_2.length : Int) : Int) := tx; obtain ⟨go18, co18, eo18, gb18, gl18, cl18, HG18⟩ := Kd.R_form HO_5.out (by omega); (first | cases eo18 | (injection eo18 with ea_ en_ ec_; (first | subst ea_ | (injection ea_ with ea_; subst ea_)); subst ec_; clear en_)); have GB18 := Aside0.mk gb18; have GG18 := Aside0.mk HG18; clear gb18 gl18 HG18; (first | simp only [add_plain] at hx263_0 | skip); obtain ⟨hx18_0, hf18_0⟩ := Kd.R_celln 0 HO_5.out ((ji14) : Int) p18 q18; replace p18 := eq_true p18; replace q18 := eq_true q18; obtain ⟨hy20_, hz20_⟩ := Kd.R_celln 0 HO_5.out ((ji14) : Int) (tx) (tx); have HP20 := Kd.R_putg HO_5.out ((ji14) : Int) t264) | ((with_reducible refine gate_store (t := 96) (p := 48) rfl ?_); refine store_event (t := 96) (p := 48) (v := ?vo_w21) (w1 := (wr.setCell ⟨go18, ((ji14) : Int).toNat, none⟩ (.int .u64 t264))) ?hg ?ho ?hn ?hr ?_; (case ho => rfl); (case hg => rfl); (case hn => rfl); (case hr => first | (go_simp; done) | (go_simp; rfl)); intro w21 hw; have hg : wr.grownBy w21 (some go18) := (by rw [hw]; exact HP20.2); have hp_ : Kd.R (Kd.int .u64) 96 w21 w.heap.size (fun _ => True) (.slice (some ⟨go18, 0, none⟩) x5_2.length co19) y266 := (by rw [hw, Ny266.out]; exact HP20.1); clear HP20; replace HO_5 := Aside0.mk (hp_); replace HB := Aside0.mk ((by rw [hw]; exact below_set (HB.out) GB18.out : Below w.heap.size w w21)); clear hg hw hp_))
               go_roundg k2
               case measure => have := HK1.out; have := HK2.out; omega
               case rel => exact ⟨(y266), (t265), (wrap64 (x26_2 + 1)), (by first | rfl | (simp; done) | (simp [*]; done)), (by first | rfl | (simp; done) | (simp [*]; done)), H', ⟨by have := HK1.out; have := HK2.out; omega⟩, ⟨by first | exact Kd.Rx HO_5.out | exact HO_5.out⟩, ⟨Bx HB.out⟩⟩
              ·
               rw [if_neg c16] at H
               exact absurd H (by simp)
             ·
              rw [if_neg c15] at H
              exact absurd H (by simp)
            ·
             rw [if_neg c13] at H
             exact absurd H (by simp)
           ·
            rw [if_neg c12] at H
            exact absurd H (by simp)
          ·
           rw [if_neg c11] at H
           have c11b0 : decide (x26_2 < (l1.length : Int)) = false := decide_eq_false c11
           clear c11
           obtain ⟨ji22, hji22⟩ : ∃ j_ : Int, (wrap64 (x19_1 + (l1.length : Int))) = j_ := ⟨_, rfl⟩
           replace H : (if 0 ≤ (ji22) then (if (ji22) < (x5_2.length : Int) then (mul_Long.l0 k2 l1 (x5_2.set ((ji22) : Int).toNat x8_2) l0 (l0.length : Int) (wrap64 (x19_1 + 1))) else (none)) else (none)) = some r := by first | (rw [hji22] at H; exact H) | (simp only [hji22] at H ⊢; exact H)
           have hji22w : (IntKind.i64.wrap (x19_1 + (l1.length : Int))) = ji22 := (i64_w _).trans hji22
           by_cases c23 : 0 ≤ (ji22)
           ·
            rw [if_pos c23] at H
            have c23b0 : decide (0 ≤ (ji22)) = true := decide_eq_true c23
            clear c23
            by_cases c24 : (ji22) < (x5_2.length : Int)
            ·
             rw [if_pos c24] at H
             have c24b0 : decide ((ji22) < (x5_2.length : Int)) = true := decide_eq_true c24
             clear c24
             obtain ⟨y267, hy267⟩ : ∃ y_ : List Int, y_ = (x5_2.set ((ji22) : Int).toNat x8_2) := ⟨_, rfl⟩
             replace H : (mul_Long.l0 k2 l1 y267 l0 (l0.length : Int) (wrap64 (x19_1 + 1))) = some r := by first | (rw [hy267]; with_reducible exact H) | (have H2_ := (Option.bind_some _ _).symm.trans H; rw [hy267]; with_reducible exact H2_) | (have H2_ := (Option.bind_some _ _).symm.trans H; with_reducible exact H2_) | with_reducible exact H | (rw [hy267]; exact H) | exact H
             have Ny267 := Aside0.mk hy267
             clear hy267
             have H' := Aside0.mk H
             clear H
             have p25 : 0 ≤ ((ji22) : Int) := tx
             have q25 : ((ji22) : Int) < ((x5_2.length : Int) : Int) := tx
             obtain ⟨go25, co25, eo25, gb25, gl25, cl25, HG25⟩ := Kd.R_form HO_5.out (by omega)
             (first | cases eo25 | (injection eo25 with ea_ en_ ec_; (first | subst ea_ | (injection ea_ with ea_; subst ea_)); subst ec_; clear en_))
             have GB25 := Aside0.mk gb25
             have GG25 := Aside0.mk HG25
             clear gb25 gl25 HG25
             obtain ⟨hx25_0, hf25_0⟩ := Kd.R_celln 0 HO_5.out ((ji22) : Int) p25 q25
             replace p25 := eq_true p25
             replace q25 := eq_true q25
             have HP26 := Kd.R_putg HO_5.out ((ji22) : Int) x8_2
             go_wp2_with (first | ((with_reducible refine gate_store (t := 96) (p := 56) rfl ?_); refine store_event (t := 96) (p := 56) (v := ?vo_w27) (w1 := (wr.setCell ⟨go25, ((ji22) : Int).toNat, none⟩ (.int .u64 x8_2))) ?hg ?ho ?hn ?hr ?_; (case ho => rfl); (case hg => rfl); (case hn => rfl); (case hr => first | (go_simp; done) | (go_simp; rfl)); intro w27 hw; have hg : wr.grownBy w27 (some go25) := (by rw [hw]; exact HP26.2); have hp_ : Kd.R (Kd.int .u64) 96 w27 w.heap.size (fun _ => True) (.slice (some ⟨go25, 0, none⟩) x5_2.length co25) y267 := (by rw [hw, Ny267.out]; exact HP26.1); clear HP26; replace HO_5 := Aside0.mk (hp_); replace HB := Aside0.mk ((by rw [hw]; exact below_set (HB.out) GB25.out : Below w.heap.size w w27)); clear hg hw hp_))
             go_roundg k2
             case measure => have := HK1.out; have := HK2.out; omega
             case rel => exact ⟨(y267), (wrap64 (x19_1 + 1)), (by first | rfl | (simp; done) | (simp [*]; done)), H', ⟨by have := HK1.out; have := HK2.out; omega⟩, ⟨by first | exact Kd.Rx HO_5.out | exact HO_5.out⟩, ⟨Bx HB.out⟩⟩
            ·
             rw [if_neg c24] at H
             exact absurd H (by simp)
           ·
            rw [if_neg c23] at H
            exact absurd H (by simp)
       ·
        rw [if_neg c10] at H
        exact absurd H (by simp)
      ·
       rw [if_neg c9] at H
       exact absurd H (by simp)
     ·
      rw [if_neg c8] at H
      have c8b0 : decide (x19_1 < (l0.length : Int)) = false := decide_eq_false c8
      clear c8
      replace H := Option.bind_eq_some_iff.mp H
      obtain ⟨t258, A280, H⟩ := H
      replace H : (some t258) = some r := H
      have A28 := Aside0.mk A280
      clear A280
      obtain rfl := Option.some.inj H
      obtain ⟨Ao29, co29, eo29⟩ := Kd.R_slice HO_5.out
      subst eo29
      go_wp2_with (first | ((with_reducible refine gate_callee (f := 153) rfl ?_); refine goesx (some 59) Try.func153 #[.slice Ao29 x5_1.length co29] ?_; (with_reducible refine (mul_made.calls k1 _ _ x5_1 t258 _ ?side1 ?side2 A28.out).mono ?_); (case side1 => exact Kd.Cx (Kd.R_reads' HO_5.out).2.2); (case side2 => exact (Kd.R_reads' HO_5.out).2.1); rintro e w30 ⟨v259, rfl, ho0, hb⟩; refine ⟨_, rfl, ?_⟩; have HO260 := Aside0.mk (Kd.R_lower (Kd.R_new' ho0 (Kd.R_lt (Kd.Rx HO_5.out))) (below_size (Bx HB.out))); replace HO_5 := Aside0.mk (Kd.R_elder' (Kd.Rx HO_5.out) (Kd.R_base ho0) hb); replace HB := Aside0.mk (below_step (Bx HB.out) hb); (try clear hb); (try clear hb2); (try clear hk); (try clear hi); (try clear ho0)))
      go_ret
      exact ⟨_, by first | rfl | (simp only [u64_u32_] <;> rfl) | (simp [errW_none, errW_some] <;> rfl) | (simp only [← hji3]; first | rfl | (simp [errW_none, errW_some] <;> rfl)) | (simp [*, errW_none, errW_some] <;> rfl), Kd.Rm HO260.out, Bx HB.out⟩
  ·
   rw [if_neg c5] at H
   exact absurd H (by simp)
 ·
  rw [if_neg c4] at H
  exact absurd H (by simp)
def mul_cut.T2 : Bool × List (List Nat × List Nat) := (true, [([], []), ([], []), ([0, 1], [0, 1]), ([2], [2]), ([], []), ([], []), ([4, 5], [4, 5]), ([6, 3], [6]), ([3, 7, 0, 1, 2, 3], [3]), ([7, 8, 0, 1, 2, 3, 4, 5, 6, 7, 8], [7])])
def mul_cut.B2 : List Nat := [0, 0, 3, 7, 0, 0, 48, 127, 255, 511]
theorem mul_cut.tab2 : rtab .any (opsOf Try.f142 2) = mul_cut.T2 := by kernel_rfl
theorem mul_cut.bits2 : waitsOk mul_cut.T2.2 mul_cut.B2 = true := by kernel_rfl
set_option maxHeartbeats 8000000 in
set_option maxRecDepth 100000 in
theorem mul_cut.calls (k : Nat) (A0 : Option Addr) (c0 : Nat) (l0 : List Int) (a1 : Int) (r1 : List Int) (r2 : List Int) (w : World) (hr0 : Kd.C (Kd.int .u64) w A0 l0.length l0) (hc0 : l0.length ≤ c0) (h : mul_cut.f k l0 a1 = some (r1, r2)) :
  Calls Try.prog 142 #[.slice A0 l0.length c0, .int .i64 a1] w fun e w' => ∃ v0_ v1_ : Value, e = .returned (.tuple #[v0_, v1_]) ∧ Kd.R (Kd.int .u64) 96 w' w.heap.size (fun k_ => nb k_ v1_) v0_ r1 ∧ Kd.R (Kd.int .u64) 96 w' w.heap.size (fun k_ => nb k_ v0_) v1_ r2 ∧ Below w.heap.size w w' := by
 have HR0 := Aside0.mk hr0
 have HC0 := Aside0.mk hc0
 clear hr0 hc0
 have HB := Aside0.mk (Below.refl w.heap.size w)
 have H : (if 0 ≤ (mn a1 (l0.length : Int)) then (if (mn a1 (l0.length : Int)) ≤ (l0.length : Int) then ((mul_made.f k (l0.take ((mn a1 (l0.length : Int)) : Int).toNat)).bind fun t269 => ((mul_made.f k (l0.drop ((mn a1 (l0.length : Int)) : Int).toNat)).bind fun t273 => (some (t269, t273)))) else (none)) else (none)) = some (r1, r2) := h
 clear h
 obtain ⟨ji3, hji3⟩ : ∃ j_ : Int, (mn a1 (l0.length : Int)) = j_ := ⟨_, rfl⟩
 replace H : (if 0 ≤ (ji3) then (if (ji3) ≤ (l0.length : Int) then ((mul_made.f k (l0.take ((ji3) : Int).toNat)).bind fun t269 => ((mul_made.f k (l0.drop ((ji3) : Int).toNat)).bind fun t273 => (some (t269, t273)))) else (none)) else (none)) = some (r1, r2) := by first | (rw [hji3] at H; exact H) | (simp only [hji3] at H ⊢; exact H)
 have hji3_ : (if (l0.length : Int) < a1 then (l0.length : Int) else a1) = ji3 := hji3
 by_cases c4 : 0 ≤ (ji3)
 ·
  rw [if_pos c4] at H
  have c4b0 := eq_true c4
  have c4b1 : decide (0 ≤ (ji3)) = true := decide_eq_true c4
  clear c4
  by_cases c5 : (ji3) ≤ (l0.length : Int)
  ·
   rw [if_pos c5] at H
   have c5b0 := eq_true c5
   have c5b1 : decide ((ji3) ≤ (l0.length : Int)) = true := decide_eq_true c5
   clear c5
   replace H := Option.bind_eq_some_iff.mp H
   obtain ⟨t269, A60, H⟩ := H
   replace H : ((mul_made.f k (l0.drop ((ji3) : Int).toNat)).bind fun t273 => (some (t269, t273))) = some (r1, r2) := H
   have A6 := Aside0.mk A60
   clear A60
   have c7b0 := eq_true (tx : 0 ≤ (ji3))
   have c8b0 := eq_true (tx : (ji3) ≤ (l0.length : Int))
   replace H := Option.bind_eq_some_iff.mp H
   obtain ⟨t273, A90, H⟩ := H
   replace H : (some (t269, t273)) = some (r1, r2) := H
   have A9 := Aside0.mk A90
   clear A90
   simp only [Option.some.injEq, Prod.mk.injEq] at H
   obtain ⟨rfl, rfl⟩ := H
   go_enter Try.func142, Try.ntmps142
   try go_wp2
   replace HB := Aside0.mk (below_drew1 HB.out)
   obtain ⟨i011, hi011, _, hsz11, _⟩ := info_parts info96
   obtain ⟨hcut11, hA11, hC11⟩ := print_take_of (P := Try.prog) (Value.int .u64) 0 30 96 .i64 Try.underlying30 hi011 hsz11 A0 c0 l0 (ji3) (tx) (tx) HC0.out
   have HR268 := Aside0.mk (Kd.C_of_reads (h1 := fun _ => rfl) (hA11 _ (Kd.reads_of_C HR0.out)))
   have HC268 := Aside0.mk hC11
   clear hA11 hC11 hi011 hsz11
   obtain ⟨i012, hi012, _, hsz12, _⟩ := info_parts info96
   obtain ⟨A12, hcut12, hA12, hC12⟩ := print_drop_of (P := Try.prog) (Value.int .u64) 0 30 96 .i64 Try.underlying30 hi012 hsz12 A0 c0 l0 (ji3) (tx) (tx) HC0.out
   have HR272 := Aside0.mk (Kd.C_of_reads (h1 := fun _ => rfl) (hA12 _ (Kd.reads_of_C HR0.out)))
   have HC272 := Aside0.mk hC12
   clear hA12 hC12 hi012 hsz12
   refine start_ (n := 10) (S := fun w' => True) (ds := []) #[false, false, false, false, false, false, false, false, false, false] (by kernel_rfl) rfl rfl trivial (fun hHeld => ?_); refine with_tabW mul_cut.tab2 mul_cut.bits2 (fun HT_ HW_ => ?_)
   generalize World.drew _ = w10 at HB HR268 HR272 hHeld ⊢
   refine pure_ (i := 0) (N := some 10) (v := ?_) (a' := ?_) #[true, false, false, false, false, false, false, false, false, false] rfl rfl (any_of HT_.out (by kernel_rfl)) (fun _ _ _ h => h) (Or.inl ⟨by rfl, ?_⟩) ?_ ?_
   rotate_left
   ·
    intro w'
    go_simp
    with_reducible rfl
   rotate_left
   ·
    simp only [Act.put, List.setIfInBounds_toArray, List.set_cons_zero, List.set_cons_succ, i64_w, i32_w]
    rfl
   refine pure_ (i := 1) (N := some 11) (v := ?_) (a' := ?_) #[true, true, false, false, false, false, false, false, false, false] rfl rfl (any_of HT_.out (by kernel_rfl)) (fun _ _ _ h => h) (Or.inl ⟨by rfl, ?_⟩) ?_ ?_
   rotate_left
   ·
    intro w'
    go_simp
    with_reducible rfl
   rotate_left
   ·
    simp only [Act.put, List.setIfInBounds_toArray, List.set_cons_zero, List.set_cons_succ, i64_w, i32_w]
    rfl
   refine pure_ (i := 2) (N := some 12) (v := ?_) (a' := ?_) #[true, true, true, false, false, false, false, false, false, false] rfl rfl (any_of HT_.out (by kernel_rfl)) (fun _ _ _ h => h) (Or.inl ⟨by rfl, ?_⟩) ?_ ?_
   rotate_left
   ·
    intro w'
    go_simp
    with_reducible rfl
   rotate_left
   ·
    simp only [Act.put, List.setIfInBounds_toArray, List.set_cons_zero, List.set_cons_succ, i64_w, i32_w]
    rfl
   refine pure_ (i := 4) (N := some 14) (v := ?_) (a' := ?_) #[true, true, true, false, true, false, false, false, false, false] rfl rfl (any_of HT_.out (by kernel_rfl)) (fun _ _ _ h => h) (Or.inl ⟨by rfl, ?_⟩) ?_ ?_
   rotate_left
   ·
    intro w'
    go_simp
    with_reducible rfl
   rotate_left
   ·
    simp only [Act.put, List.setIfInBounds_toArray, List.set_cons_zero, List.set_cons_succ, i64_w, i32_w]
    rfl
   refine pure_ (i := 5) (N := some 15) (v := ?_) (a' := ?_) #[true, true, true, false, true, true, false, false, false, false] rfl rfl (any_of HT_.out (by kernel_rfl)) (fun _ _ _ h => h) (Or.inl ⟨by rfl, ?_⟩) ?_ ?_
   rotate_left
   ·
    intro w'
    go_simp
    with_reducible rfl
   rotate_left
   ·
    simp only [Act.put, List.setIfInBounds_toArray, List.set_cons_zero, List.set_cons_succ, i64_w, i32_w]
    rfl
   refine pure_ (i := 6) (N := some 16) (v := ?_) (a' := ?_) #[true, true, true, false, true, true, true, false, false, false] rfl rfl (any_of HT_.out (by kernel_rfl)) (fun _ _ _ h => h) (Or.inl ⟨by rfl, ?_⟩) ?_ ?_
   rotate_left
   ·
    intro w'
    go_simp
    with_reducible rfl
   rotate_left
   ·
    simp only [Act.put, List.setIfInBounds_toArray, List.set_cons_zero, List.set_cons_succ, i64_w, i32_w]
    rfl
   refine one_ (i := 3) (N := some 13) #[true, true, true, true, true, true, true, false, false, false] rfl rfl (one_of HT_.out (by kernel_rfl)) (by decide) (fun K hK => ?_)
   refine goes_ Try.func153 (by kernel_rfl) rfl #[.slice A0 (l0.take ((ji3) : Int).toNat).length c0] (by rfl) rfl rfl (by (try simp only [List.map_toArray, List.map_cons, List.map_nil]); first | done | (rw [show (l0.take ((ji3) : Int).toNat).length = (ji3).toNat from (by rw [List.length_take]; have h_ : ((ji3) : Int) ≤ (l0.length : Int) := tx; omega)] <;> rfl) | (simp only [hji3]; rfl) | rfl | (simp only [List.length_drop, List.length_take]; rfl)) ?_
   with_reducible refine (mul_made.calls k _ _ (l0.take ((ji3) : Int).toNat) t269 _ ?side1 ?side2 A6.out).mono ?_
   (case side1 => exact Kd.Cx (Kd.C_below HR268.out HB.out))
   (case side2 => exact HC268.out)
   rintro e w13 ⟨v270, rfl, ho0, hb⟩
   refine ⟨_, rfl, ?_⟩
   have HO271 := Aside0.mk (Kd.R_lower ho0 (below_size (Bx HB.out)))
   replace HB := Aside0.mk (below_step (Bx HB.out) hb)
   (try clear hb)
   (try clear hb2)
   (try clear hk)
   (try clear hi)
   (try clear ho0)
   refine hK.out _ _ trivial (fun hHeld => ?_)
   clear hK K
   refine norm_ (a' := ?_) ?_ ?_
   rotate_left
   ·
    show Act.put _ (some 13) _ = _
    simp only [Act.put, List.setIfInBounds_toArray, List.set_cons_zero, List.set_cons_succ, i64_w, i32_w]
    rfl
   refine one_ (i := 7) (N := some 17) #[true, true, true, true, true, true, true, true, false, false] rfl rfl (one_of HT_.out (by kernel_rfl)) (by decide) (fun K hK => ?_)
   refine goes_ Try.func153 (by kernel_rfl) rfl #[.slice A12 (l0.drop ((ji3) : Int).toNat).length (c0 - (ji3).toNat)] (by rfl) rfl rfl (by (try simp only [List.map_toArray, List.map_cons, List.map_nil]); first | done | (rw [show (l0.drop ((ji3) : Int).toNat).length = (l0.length - (ji3).toNat) from List.length_drop] <;> rfl) | (simp only [hji3]; rfl) | rfl | (simp only [List.length_drop, List.length_take]; rfl)) ?_
   with_reducible refine (mul_made.calls k _ _ (l0.drop ((ji3) : Int).toNat) t273 _ ?side1 ?side2 A9.out).mono ?_
   (case side1 => exact Kd.Cx (Kd.C_below HR272.out HB.out))
   (case side2 => exact HC272.out)
   rintro e w14 ⟨v274, rfl, ho0, hb⟩
   refine ⟨_, rfl, ?_⟩
   have HO275 := Aside0.mk (Kd.R_lower (Kd.R_new' ho0 (Kd.R_lt (Kd.Rx HO271.out))) (below_size (Bx HB.out)))
   replace HO271 := Aside0.mk (Kd.R_elder' (Kd.Rx HO271.out) (Kd.R_base ho0) hb)
   replace HB := Aside0.mk (below_step (Bx HB.out) hb)
   (try clear hb)
   (try clear hb2)
   (try clear hk)
   (try clear hi)
   (try clear ho0)
   refine hK.out _ _ trivial (fun hHeld => ?_)
   clear hK K
   refine norm_ (a' := ?_) ?_ ?_
   rotate_left
   ·
    show Act.put _ (some 17) _ = _
    simp only [Act.put, List.setIfInBounds_toArray, List.set_cons_zero, List.set_cons_succ, i64_w, i32_w]
    rfl
   refine pure_ (i := 8) (N := some 4) (v := ?_) (a' := ?_) #[true, true, true, true, true, true, true, true, true, false] rfl rfl (any_of HT_.out (by kernel_rfl)) (fun _ _ _ h => h) (Or.inl ⟨by rfl, ?_⟩) ?_ ?_
   rotate_left
   ·
    intro w'
    go_simp
    with_reducible rfl
   rotate_left
   ·
    simp only [Act.put, List.setIfInBounds_toArray, List.set_cons_zero, List.set_cons_succ, i64_w, i32_w]
    rfl
   refine pure_ (i := 9) (N := some 5) (v := ?_) (a' := ?_) #[true, true, true, true, true, true, true, true, true, true] rfl rfl (any_of HT_.out (by kernel_rfl)) (fun _ _ _ h => h) (Or.inl ⟨by rfl, ?_⟩) ?_ ?_
   rotate_left
   ·
    intro w'
    go_simp
    with_reducible rfl
   rotate_left
   ·
    simp only [Act.put, List.setIfInBounds_toArray, List.set_cons_zero, List.set_cons_succ, i64_w, i32_w]
    rfl
   refine done_ (done_of HT_.out (by kernel_rfl)) ?_
   try go_wp2
   go_ret2
   exact ⟨_, _, by first | rfl | (simp [errW_none, errW_some] <;> rfl) | (simp only [← hji3]; first | rfl | (simp [errW_none, errW_some] <;> rfl)) | (simp [*, errW_none, errW_some] <;> rfl), Kd.Rm HO271.out, Kd.Rm HO275.out, Bx HB.out⟩
  ·
   rw [if_neg c5] at H
   exact absurd H (by simp)
 ·
  rw [if_neg c4] at H
  exact absurd H (by simp)
set_option maxHeartbeats 8000000 in
set_option maxRecDepth 100000 in
theorem nat_Sum.calls (k : Nat) (A0 : Option Addr) (c0 : Nat) (l0 : List (List Int)) (r : List Int) (w : World) (hr0 : Kd.C (Kd.slice 96 (Kd.int .u64)) w A0 l0.length l0) (hc0 : l0.length ≤ c0) (h : nat_Sum.f k l0 = some r) :
  Calls Try.prog 143 #[.slice A0 l0.length c0] w fun e w' => ∃ v0_ : Value, e = .returned (v0_) ∧ Kd.R (Kd.int .u64) 96 w' w.heap.size (fun _ => True) v0_ r ∧ Below w.heap.size w w' := by
 have HR0 := Aside0.mk hr0
 have HC0 := Aside0.mk hc0
 clear hr0 hc0
 have HB := Aside0.mk (Below.refl w.heap.size w)
 have H : (nat_Sum.l0 k ([] : List Int) l0 (l0.length : Int) 0) = some r := h
 clear h
 have H' := Aside0.mk H
 clear H
 go_enter Try.func143, Try.ntmps143
 go_wp2
 go_loopg [3, 8] k (fun kq v3 v8 w' => ∃ (x3_1 : List Int) (x8_1 : Int), v8 = .int .i64 x8_1 ∧ Aside0 (nat_Sum.l0 kq x3_1 l0 (l0.length : Int) x8_1 = some r) ∧ Aside0 (kq ≤ k) ∧ Aside0 (Kd.R (Kd.int .u64) 96 w' w.heap.size (fun _ => True) v3 x3_1) ∧ Aside0 (Below w.heap.size w w'))
 case atStart => exact ⟨(([] : List Int)), (0), (by first | rfl | (simp; done) | (simp [*]; done)), H', ⟨Nat.le_refl _⟩, ⟨by first | exact Kd.R_nil _ _ _ _ _ | exact Kd.N_nil _ _ _ _ _ | exact Kd.V_nil _ _ _ _ _ | exact Kd.Q_nil _ _ _ _ _ | exact Kd.S_nil _ _ _ _ _⟩, ⟨Bx HB.out⟩⟩
 case round =>
  clear H'
  try clear c1
  obtain ⟨x3_1, x8_1, rfl, HA, HK1, HO_3, HB⟩ := hrel
  cases gk with
  | zero => exact absurd HA.out (by simp [nat_Sum.l0])
  | succ k1 =>
   have H := HA.out
   clear HA
   simp only [nat_Sum.l0] at H
   by_cases c2 : x8_1 < (l0.length : Int)
   ·
    rw [if_pos c2] at H
    have c2b0 : decide (x8_1 < (l0.length : Int)) = true := decide_eq_true c2
    clear c2
    by_cases c3 : 0 ≤ x8_1
    ·
     rw [if_pos c3] at H
     have c3b0 : decide (0 ≤ x8_1) = true := decide_eq_true c3
     clear c3
     by_cases c4 : x8_1 < (l0.length : Int)
     ·
      rw [if_pos c4] at H
      have c4b0 : decide (x8_1 < (l0.length : Int)) = true := decide_eq_true c4
      clear c4
      replace H := Option.bind_eq_some_iff.mp H
      obtain ⟨t277, A50, H⟩ := H
      replace H : (nat_Sum.l0 k1 t277 l0 (l0.length : Int) (wrap64 (x8_1 + 1))) = some r := H
      have A5 := Aside0.mk A50
      clear A50
      have H' := Aside0.mk H
      clear H
      have p276 : 0 ≤ (x8_1 : Int) := tx
      have q276 : x8_1 < (l0.length : Int) := tx
      obtain ⟨ad276, A276_0, c276_0, e276, hx276_0, hl276_0, hi276_0⟩ := at_L2 HR0.out x8_1 p276 q276
      cases e276
      replace hx276_0 := (HB.out.cell (World.block_lt_of_cell? w _ hx276_0)).trans hx276_0
      have HR276_0 := Aside0.mk hi276_0
      have HC276_0 := Aside0.mk hl276_0
      clear hi276_0 hl276_0
      replace p276 := eq_true p276
      replace q276 := eq_true q276
      obtain ⟨Ao6, co6, eo6⟩ := Kd.R_slice HO_3.out
      subst eo6
      go_wp2_with (first | ((with_reducible refine gate_callee (f := 92) rfl ?_); refine goesx (some 14) Try.func92 #[.slice Ao6 x3_1.length co6, .slice A276_0 (rd_L2 l0 x8_1).length c276_0] ?_; (with_reducible refine (nat_Add.calls k1 _ _ x3_1 _ _ (rd_L2 l0 x8_1) t277 _ ?side1 ?side2 ?side3 ?side4 A5.out).mono ?_); (case side1 => exact Kd.Cx (Kd.R_reads' HO_3.out).2.2); (case side2 => exact (Kd.R_reads' HO_3.out).2.1); (case side3 => exact Kd.Cx (Kd.C_below HR276_0.out HB.out)); (case side4 => exact HC276_0.out); rintro e w7 ⟨v278, rfl, ho0, hb⟩; refine ⟨_, rfl, ?_⟩; have HO279 := Aside0.mk (Kd.R_lower (Kd.R_new' ho0 (Kd.R_lt (Kd.Rx HO_3.out))) (below_size (Bx HB.out))); replace HO_3 := Aside0.mk (Kd.R_elder' (Kd.Rx HO_3.out) (Kd.R_base ho0) hb); replace HB := Aside0.mk (below_step (Bx HB.out) hb); (try clear hb); (try clear hb2); (try clear hk); (try clear hi); (try clear ho0)))
      go_roundg k1
      case measure => have := HK1.out; omega
      case rel => exact ⟨(t277), (wrap64 (x8_1 + 1)), (by first | rfl | (simp; done) | (simp [*]; done)), H', ⟨by have := HK1.out; omega⟩, ⟨Kd.Rm HO279.out⟩, ⟨Bx HB.out⟩⟩
     ·
      rw [if_neg c4] at H
      exact absurd H (by simp)
    ·
     rw [if_neg c3] at H
     exact absurd H (by simp)
   ·
    rw [if_neg c2] at H
    have c2b0 : decide (x8_1 < (l0.length : Int)) = false := decide_eq_false c2
    clear c2
    obtain rfl := Option.some.inj H
    go_wp2
    go_ret
    exact ⟨_, by first | rfl | (simp only [u64_u32_] <;> rfl) | (simp [errW_none, errW_some] <;> rfl) | (simp [*, errW_none, errW_some] <;> rfl), by first | exact Kd.Rx HO_3.out | exact HO_3.out, Bx HB.out⟩
set_option maxHeartbeats 8000000 in
set_option maxRecDepth 100000 in
theorem mul_up.calls (k : Nat) (A0 : Option Addr) (c0 : Nat) (l0 : List Int) (a1 : Int) (r : List Int) (w : World) (hr0 : Kd.C (Kd.int .u64) w A0 l0.length l0) (hc0 : l0.length ≤ c0) (h : mul_up.f k l0 a1 = some r) :
  Calls Try.prog 144 #[.slice A0 l0.length c0, .int .i64 a1] w fun e w' => ∃ v0_ : Value, e = .returned (v0_) ∧ Kd.R (Kd.int .u64) 96 w' w.heap.size (fun _ => True) v0_ r ∧ Below w.heap.size w w' := by
 have HR0 := Aside0.mk hr0
 have HC0 := Aside0.mk hc0
 clear hr0 hc0
 have HB := Aside0.mk (Below.refl w.heap.size w)
 have H : (if 0 ≤ (wrap64 (a1 + (l0.length : Int))) then (if (wrap64 (a1 + (l0.length : Int)) : Int).toNat ≤ 35184372088832 then ((some (List.replicate (wrap64 (a1 + (l0.length : Int)) : Int).toNat 0 : List Int)).bind fun y280 => (if 0 ≤ a1 then (if a1 ≤ (y280.length : Int) then ((mul_made.f k (y280.take (a1 : Int).toNat ++ (l0.take (y280.length - (a1 : Int).toNat) ++ y280.drop ((a1 : Int).toNat + min l0.length (y280.length - (a1 : Int).toNat))))).bind fun t290 => (some t290)) else (none)) else (none))) else (none)) else (none)) = some r := h
 clear h
 obtain ⟨ji3, hji3⟩ : ∃ j_ : Int, (wrap64 (a1 + (l0.length : Int))) = j_ := ⟨_, rfl⟩
 replace H : (if 0 ≤ (ji3) then (if (ji3 : Int).toNat ≤ 35184372088832 then ((some (List.replicate (ji3 : Int).toNat 0 : List Int)).bind fun y280 => (if 0 ≤ a1 then (if a1 ≤ (y280.length : Int) then ((mul_made.f k (y280.take (a1 : Int).toNat ++ (l0.take (y280.length - (a1 : Int).toNat) ++ y280.drop ((a1 : Int).toNat + min l0.length (y280.length - (a1 : Int).toNat))))).bind fun t290 => (some t290)) else (none)) else (none))) else (none)) else (none)) = some r := by first | (rw [hji3] at H; exact H) | (simp only [hji3] at H ⊢; exact H)
 have hji3w : (IntKind.i64.wrap (a1 + (l0.length : Int))) = ji3 := (i64_w _).trans hji3
 by_cases c4 : 0 ≤ (ji3)
 ·
  rw [if_pos c4] at H
  have c4b0 := eq_true c4
  have c4b1 : decide (0 ≤ (ji3)) = true := decide_eq_true c4
  clear c4
  by_cases c5 : (ji3 : Int).toNat ≤ 35184372088832
  ·
   rw [if_pos c5] at H
   have c5b0 := eq_true c5
   have c5b1 : decide ((ji3 : Int).toNat ≤ 35184372088832) = true := decide_eq_true c5
   clear c5
   obtain ⟨y280, hy280⟩ : ∃ y_ : List Int, y_ = (List.replicate (ji3 : Int).toNat 0) := ⟨_, rfl⟩
   replace H : (if 0 ≤ a1 then (if a1 ≤ (y280.length : Int) then ((mul_made.f k (y280.take (a1 : Int).toNat ++ (l0.take (y280.length - (a1 : Int).toNat) ++ y280.drop ((a1 : Int).toNat + min l0.length (y280.length - (a1 : Int).toNat))))).bind fun t290 => (some t290)) else (none)) else (none)) = some r := by first | (rw [hy280]; with_reducible exact H) | (have H2_ := (Option.bind_some _ _).symm.trans H; rw [hy280]; with_reducible exact H2_) | (have H2_ := (Option.bind_some _ _).symm.trans H; with_reducible exact H2_) | with_reducible exact H | (rw [hy280]; exact H) | exact H
   have Ny280 := Aside0.mk hy280
   clear hy280
   by_cases c6 : 0 ≤ a1
   ·
    rw [if_pos c6] at H
    have c6b0 := eq_true c6
    have c6b1 : decide (0 ≤ a1) = true := decide_eq_true c6
    clear c6
    by_cases c7 : a1 ≤ (y280.length : Int)
    ·
     rw [if_pos c7] at H
     have c7b0 := eq_true c7
     have c7b1 : decide (a1 ≤ (y280.length : Int)) = true := decide_eq_true c7
     clear c7
     obtain ⟨y283, hy283⟩ : ∃ y_ : List Int, y_ = (y280.drop (a1 : Int).toNat) := ⟨_, rfl⟩
     replace H : ((mul_made.f k (y280.take (a1 : Int).toNat ++ (l0.take (y280.length - (a1 : Int).toNat) ++ y280.drop ((a1 : Int).toNat + min l0.length (y280.length - (a1 : Int).toNat))))).bind fun t290 => (some t290)) = some r := by first | (rw [hy283]; with_reducible exact H) | (have H2_ := (Option.bind_some _ _).symm.trans H; rw [hy283]; with_reducible exact H2_) | (have H2_ := (Option.bind_some _ _).symm.trans H; with_reducible exact H2_) | with_reducible exact H | (rw [hy283]; exact H) | exact H
     have Ny283 := Aside0.mk hy283
     clear hy283
     obtain ⟨y287, hy287⟩ : ∃ y_ : List Int, y_ = (y280.take (a1 : Int).toNat ++ (l0.take (y280.length - (a1 : Int).toNat) ++ y280.drop ((a1 : Int).toNat + min l0.length (y280.length - (a1 : Int).toNat)))) := ⟨_, rfl⟩
     replace H : ((mul_made.f k y287).bind fun t290 => (some t290)) = some r := by first | (rw [hy287]; with_reducible exact H) | (have H2_ := (Option.bind_some _ _).symm.trans H; rw [hy287]; with_reducible exact H2_) | (have H2_ := (Option.bind_some _ _).symm.trans H; with_reducible exact H2_) | with_reducible exact H | (rw [hy287]; exact H) | exact H
     have Ny287 := Aside0.mk hy287
     clear hy287
     replace H := Option.bind_eq_some_iff.mp H
     obtain ⟨t290, A80, H⟩ := H
     replace H : (some t290) = some r := H
     have A8 := Aside0.mk A80
     clear A80
     obtain rfl := Option.some.inj H
     go_enter Try.func144, Try.ntmps144
     go_wp2_with (first | ((with_reducible refine gate_dst (N := 10) rfl ?_); refine Kd.R_make (Kd.int .u64) _ 96 rfl (N := 10) rfl 29 _ _ rfl ji3 rfl rfl Try.underlying29 (.int .u64 0) 8 info96 rfl (by decide) (by omega) 0 (ok := fun _ => True) (okp := fun _ => True) rfl (fun _ hk => hk) trivial (tx) (Nat.le_trans (Nat.mul_le_mul_right _ (tx : ji3.toNat ≤ 35184372088832)) (by omega)) (Below.refl _ _) (Nat.le_refl _) ?_; intro v281 w9 ho10 hb hg_ hnew_; clear hg_ hnew_; (first | rw [← Ny280.out] at ho10 | (simp only [Int.reduceToNat] at ho10; rw [← Ny280.out] at ho10)); have HO282 := Aside0.mk (Kd.R_lower ho10 (below_size (Bx HB.out))); replace HB := Aside0.mk (below_step (Bx HB.out) hb); clear hb ho10; obtain ⟨Ao12, co12, eo12⟩ := Kd.R_slice HO282.out; subst eo12; have q11 : (a1 : Int) ≤ ((y280.length : Int) : Int) := tx; obtain ⟨i011, hi011, _, hsz11, _⟩ := info_parts info96; have hroom11 : y280.length ≤ co12 := (Kd.R_reads' HO282.out).2.1; have hC11 : Kd.C (Kd.int .u64) _ Ao12 y280.length y280 := (Kd.R_reads' HO282.out).2.2; have q011 : (0 : Int) ≤ (a1 : Int) := tx; have hcut11 := cut_from (P := Try.prog) 29 96 .i64 Try.underlying29 hi011 1 hsz11 Ao12 y280.length co12 a1 q011 q11; have hr11 := Kd.C_drop (m := (a1 : Int).toNat) (c := co12) hC11 (by omega) hroom11; obtain ⟨A11, hA11⟩ : ∃ A1, A1 = (if co12 = (a1 : Int).toNat then Ao12 else (Ao12 : Option Addr).map (·.add ((a1 : Int).toNat * 1))) := ⟨_, rfl⟩; obtain ⟨c11, hc11⟩ : ∃ c1, c1 = co12 - (a1 : Int).toNat := ⟨_, rfl⟩; have hy11 : y283.length = y280.length - (a1 : Int).toNat := (by rw [Ny283.out, List.length_drop] <;> omega); rw [show (y280).drop (a1 : Int).toNat = y283 from Ny283.out.symm] at hr11; replace hr11 : Kd.C (Kd.int .u64) _ A11 y283.length y283 := (by rw [hA11]; exact hr11); rw [← hy11, ← hA11, ← hc11] at hcut11; have HR286 := Aside0.mk hr11; have HC286 := Aside0.mk (show y283.length ≤ c11 from by rw [hy11, hc11]; exact Nat.sub_le_sub_right hroom11 _); clear hr11 hC11 hroom11 hi011 hsz11 hc11; have KY11 := Aside0.mk hy11; have KA11 := Aside0.mk hA11; clear hy11 hA11; have KL11 := Aside0.mk (show (a1 : Int).toNat ≤ y280.length from by omega); replace q11 := eq_true q11) | ((with_reducible refine gate_builtin (b := .copy) (xs := #[.tmp 13, .tmp 14]) rfl ?_); refine Kd.R_copyin (Kd.int .u64) rfl (w0 := w) w.heap.size rfl (.tmp 13) (.tmp 14) 29 30 96 rfl Try.underlying29 (by kernel_rfl) (A0 := Ao12) (n := y280.length) (c := co12) (off := (a1 : Int).toNat) (xs := y280) (ys := l0) (zs := y287) (okp := fun _ => False) rfl ?hD rfl ?hoff (Kd.Rx HO282.out) ?aR (fun _ _ h => h) (fun _ h => h.elim) Ny287.out (Bx HB.out) (below_size (Bx HB.out)) ?_; (case hD => exact Kd.map_cut KA11.out KY11.out (Kd.R_reads' HO282.out).2.1); (case hoff => have h1_ := KY11.out; have h2_ := KL11.out; have h3_ := (Kd.R_reads' HO282.out).1; omega); (case aR => exact Kd.Cx (Kd.C_below HR0.out HB.out)); intro r_ w13 ho hb hg; replace HO282 := Aside0.mk (ho); replace HB := Aside0.mk (hb); clear ho hb hg) | ((with_reducible refine gate_callee (f := 153) rfl ?_); refine goesL_ (some 17) rfl rfl Try.func153 (by kernel_rfl) rfl #[.slice Ao12 y287.length co12] rfl (by (try simp only [List.map_toArray, List.map_cons, List.map_nil]); first | done | (rw [show y287.length = y280.length from (Kd.R_reads' HO282.out).1.symm] <;> rfl) | rfl | (simp only [List.length_drop, List.length_take]; rfl)) ?_; (with_reducible refine (mul_made.calls k _ _ y287 t290 _ ?side1 ?side2 A8.out).mono ?_); (case side1 => exact Kd.Cx (Kd.R_reads' HO282.out).2.2); (case side2 => rw [show y287.length = y280.length from (Kd.R_reads' HO282.out).1.symm]; exact (Kd.R_reads' HO282.out).2.1); rintro e w15 ⟨v291, rfl, ho0, hb⟩; refine ⟨_, rfl, ?_⟩; have HO292 := Aside0.mk (Kd.R_lower (Kd.R_new' ho0 (Kd.R_lt (Kd.Rx HO282.out))) (below_size (Bx HB.out))); replace HO282 := Aside0.mk (Kd.R_elder' (Kd.Rx HO282.out) (Kd.R_base ho0) hb); replace HB := Aside0.mk (below_step (Bx HB.out) hb); (try clear hb); (try clear hb2); (try clear hk); (try clear hi); (try clear ho0)))
     go_ret
     exact ⟨_, by first | rfl | (simp only [u64_u32_] <;> rfl) | (simp [errW_none, errW_some] <;> rfl) | (simp only [← hji3]; first | rfl | (simp [errW_none, errW_some] <;> rfl)) | (simp [*, errW_none, errW_some] <;> rfl), Kd.Rm HO292.out, Bx HB.out⟩
    ·
     rw [if_neg c7] at H
     exact absurd H (by simp)
   ·
    rw [if_neg c6] at H
    exact absurd H (by simp)
  ·
   rw [if_neg c5] at H
   exact absurd H (by simp)
 ·
  rw [if_neg c4] at H
  exact absurd H (by simp)
set_option maxHeartbeats 8000000 in
set_option maxRecDepth 100000 in
theorem mul_Short.calls (k : Nat) : ∀ (A0 : Option Addr) (c0 : Nat) (l0 : List Int) (A1 : Option Addr) (c1 : Nat) (l1 : List Int) (r : List Int) (w : World) (hr0 : Kd.C (Kd.int .u64) w A0 l0.length l0) (hc0 : l0.length ≤ c0) (hr1 : Kd.C (Kd.int .u64) w A1 l1.length l1) (hc1 : l1.length ≤ c1) (h : mul_Short.f k l0 l1 = some r),
  Calls Try.prog 124 #[.slice A0 l0.length c0, .slice A1 l1.length c1] w fun e w' => ∃ v0_ : Value, e = .returned (v0_) ∧ Kd.R (Kd.int .u64) 96 w' w.heap.size (fun _ => True) v0_ r ∧ Below w.heap.size w w' := by
 induction k using Nat.strongRecOn with
 | _ k ih =>
 intro A0 c0 l0 A1 c1 l1 r w hr0 hc0 hr1 hc1 h
 cases k with
 | zero => exact absurd h (by simp [mul_Short.f])
 | succ k =>
 simp only [mul_Short.f] at h
 have HR0 := Aside0.mk hr0
 have HC0 := Aside0.mk hc0
 clear hr0 hc0
 have HR1 := Aside0.mk hr1
 have HC1 := Aside0.mk hc1
 clear hr1 hc1
 have HB := Aside0.mk (Below.refl w.heap.size w)
 have H : (if (mn (l0.length : Int) (l1.length : Int)) < 4 then ((mul_Long.f k l0 l1).bind fun t293 => (some t293)) else ((mul_cut.f k l0 (wrap64 (Int.tdiv (wrap64 ((mx (l0.length : Int) (l1.length : Int)) + 1)) 2))).bind fun bt296 => ((mul_cut.f k l1 (wrap64 (Int.tdiv (wrap64 ((mx (l0.length : Int) (l1.length : Int)) + 1)) 2))).bind fun bt302 => ((mul_Short.f k bt296.1 bt302.1).bind fun t308 => ((mul_Short.f k bt296.2 bt302.2).bind fun t311 => ((nat_Add.f k bt296.1 bt296.2).bind fun t314 => ((nat_Add.f k bt302.1 bt302.2).bind fun t317 => ((mul_Short.f k t314 t317).bind fun t320 => ((nat_Sub.f k t320 t308).bind fun bt323 => ((nat_Sub.f k bt323.1 t311).bind fun bt327 => ((mul_up.f k bt327.1 (wrap64 (Int.tdiv (wrap64 ((mx (l0.length : Int) (l1.length : Int)) + 1)) 2))).bind fun t331 => ((mul_up.f k t311 (wrap64 (2 * (wrap64 (Int.tdiv (wrap64 ((mx (l0.length : Int) (l1.length : Int)) + 1)) 2))))).bind fun t334 => ((nat_Sum.f k (([t308, t331, t334] : List (List Int)))).bind fun t340 => (some t340)))))))))))))) = some r := h
 clear h
 obtain ⟨ji3, hji3⟩ : ∃ j_ : Int, (mn (l0.length : Int) (l1.length : Int)) = j_ := ⟨_, rfl⟩
 replace H : (if (ji3) < 4 then ((mul_Long.f k l0 l1).bind fun t293 => (some t293)) else ((mul_cut.f k l0 (wrap64 (Int.tdiv (wrap64 ((mx (l0.length : Int) (l1.length : Int)) + 1)) 2))).bind fun bt296 => ((mul_cut.f k l1 (wrap64 (Int.tdiv (wrap64 ((mx (l0.length : Int) (l1.length : Int)) + 1)) 2))).bind fun bt302 => ((mul_Short.f k bt296.1 bt302.1).bind fun t308 => ((mul_Short.f k bt296.2 bt302.2).bind fun t311 => ((nat_Add.f k bt296.1 bt296.2).bind fun t314 => ((nat_Add.f k bt302.1 bt302.2).bind fun t317 => ((mul_Short.f k t314 t317).bind fun t320 => ((nat_Sub.f k t320 t308).bind fun bt323 => ((nat_Sub.f k bt323.1 t311).bind fun bt327 => ((mul_up.f k bt327.1 (wrap64 (Int.tdiv (wrap64 ((mx (l0.length : Int) (l1.length : Int)) + 1)) 2))).bind fun t331 => ((mul_up.f k t311 (wrap64 (2 * (wrap64 (Int.tdiv (wrap64 ((mx (l0.length : Int) (l1.length : Int)) + 1)) 2))))).bind fun t334 => ((nat_Sum.f k (([t308, t331, t334] : List (List Int)))).bind fun t340 => (some t340)))))))))))))) = some r := by first | (rw [hji3] at H; exact H) | (simp only [hji3] at H ⊢; exact H)
 (try (have hji3l : 0 ≤ ji3 := by (rw [← hji3]; unfold mn; (repeat' split) <;> omega)))
 (try (have hji3m : 0 ≤ ji3 := by omega))
 have hji3_ : (if (l1.length : Int) < (l0.length : Int) then (l1.length : Int) else (l0.length : Int)) = ji3 := hji3
 have hji3n : (if l1.length < l0.length then (l1.length : Int) else (l0.length : Int)) = ji3 := by rw [← hji3_]; simp only [Int.ofNat_lt]
 by_cases c4 : (ji3) < 4
 ·
  rw [if_pos c4] at H
  have c4b0 : decide ((ji3) < 4) = true := decide_eq_true c4
  clear c4
  replace H := Option.bind_eq_some_iff.mp H
  obtain ⟨t293, A50, H⟩ := H
  replace H : (some t293) = some r := H
  have A5 := Aside0.mk A50
  clear A50
  obtain rfl := Option.some.inj H
  go_enter Try.func124, Try.ntmps124
  go_wp2_with (first | ((with_reducible refine gate_callee (f := 141) rfl ?_); refine goesx (some 21) Try.func141 #[.slice A0 l0.length c0, .slice A1 l1.length c1] ?_; (with_reducible refine (mul_Long.calls k _ _ l0 _ _ l1 t293 _ ?side1 ?side2 ?side3 ?side4 A5.out).mono ?_); (case side1 => exact Kd.Cx HR0.out); (case side2 => exact HC0.out); (case side3 => exact Kd.Cx HR1.out); (case side4 => exact HC1.out); rintro e w6 ⟨v294, rfl, ho0, hb⟩; refine ⟨_, rfl, ?_⟩; have HO295 := Aside0.mk (Kd.R_lower ho0 (below_size (Bx HB.out))); replace HB := Aside0.mk (below_step (Bx HB.out) hb); (try clear hb); (try clear hb2); (try clear hk); (try clear hi); (try clear ho0)))
  go_ret
  exact ⟨_, by first | rfl | (simp only [u64_u32_] <;> rfl) | (simp [errW_none, errW_some] <;> rfl) | (simp only [← hji3]; first | rfl | (simp [errW_none, errW_some] <;> rfl)) | (simp [*, errW_none, errW_some] <;> rfl), by first | exact Kd.Rx HO295.out | exact HO295.out, Bx HB.out⟩
 ·
  rw [if_neg c4] at H
  have c4b0 : decide ((ji3) < 4) = false := decide_eq_false c4
  clear c4
  obtain ⟨ji7, hji7⟩ : ∃ j_ : Int, (mx (l0.length : Int) (l1.length : Int)) = j_ := ⟨_, rfl⟩
  replace H : ((mul_cut.f k l0 (wrap64 (Int.tdiv (wrap64 ((ji7) + 1)) 2))).bind fun bt296 => ((mul_cut.f k l1 (wrap64 (Int.tdiv (wrap64 ((ji7) + 1)) 2))).bind fun bt302 => ((mul_Short.f k bt296.1 bt302.1).bind fun t308 => ((mul_Short.f k bt296.2 bt302.2).bind fun t311 => ((nat_Add.f k bt296.1 bt296.2).bind fun t314 => ((nat_Add.f k bt302.1 bt302.2).bind fun t317 => ((mul_Short.f k t314 t317).bind fun t320 => ((nat_Sub.f k t320 t308).bind fun bt323 => ((nat_Sub.f k bt323.1 t311).bind fun bt327 => ((mul_up.f k bt327.1 (wrap64 (Int.tdiv (wrap64 ((ji7) + 1)) 2))).bind fun t331 => ((mul_up.f k t311 (wrap64 (2 * (wrap64 (Int.tdiv (wrap64 ((ji7) + 1)) 2))))).bind fun t334 => ((nat_Sum.f k (([t308, t331, t334] : List (List Int)))).bind fun t340 => (some t340))))))))))))) = some r := by first | (rw [hji7] at H; exact H) | (simp only [hji7] at H ⊢; exact H)
  (try (have hji7l : 0 ≤ ji7 := by (rw [← hji7]; unfold mx; (repeat' split) <;> omega)))
  (try (have hji7m : 0 ≤ ji7 := by omega))
  have hji7_ : (if (l0.length : Int) < (l1.length : Int) then (l1.length : Int) else (l0.length : Int)) = ji7 := hji7
  have hji7n : (if l0.length < l1.length then (l1.length : Int) else (l0.length : Int)) = ji7 := by rw [← hji7_]; simp only [Int.ofNat_lt]
  replace H := Option.bind_eq_some_iff.mp H
  obtain ⟨⟨t296, t297⟩, A80, H⟩ := H
  replace H : ((mul_cut.f k l1 (wrap64 (Int.tdiv (wrap64 ((ji7) + 1)) 2))).bind fun bt302 => ((mul_Short.f k t296 bt302.1).bind fun t308 => ((mul_Short.f k t297 bt302.2).bind fun t311 => ((nat_Add.f k t296 t297).bind fun t314 => ((nat_Add.f k bt302.1 bt302.2).bind fun t317 => ((mul_Short.f k t314 t317).bind fun t320 => ((nat_Sub.f k t320 t308).bind fun bt323 => ((nat_Sub.f k bt323.1 t311).bind fun bt327 => ((mul_up.f k bt327.1 (wrap64 (Int.tdiv (wrap64 ((ji7) + 1)) 2))).bind fun t331 => ((mul_up.f k t311 (wrap64 (2 * (wrap64 (Int.tdiv (wrap64 ((ji7) + 1)) 2))))).bind fun t334 => ((nat_Sum.f k (([t308, t331, t334] : List (List Int)))).bind fun t340 => (some t340)))))))))))) = some r := H
  have A8 := Aside0.mk A80
  clear A80
  replace H := Option.bind_eq_some_iff.mp H
  obtain ⟨⟨t302, t303⟩, A90, H⟩ := H
  replace H : ((mul_Short.f k t296 t302).bind fun t308 => ((mul_Short.f k t297 t303).bind fun t311 => ((nat_Add.f k t296 t297).bind fun t314 => ((nat_Add.f k t302 t303).bind fun t317 => ((mul_Short.f k t314 t317).bind fun t320 => ((nat_Sub.f k t320 t308).bind fun bt323 => ((nat_Sub.f k bt323.1 t311).bind fun bt327 => ((mul_up.f k bt327.1 (wrap64 (Int.tdiv (wrap64 ((ji7) + 1)) 2))).bind fun t331 => ((mul_up.f k t311 (wrap64 (2 * (wrap64 (Int.tdiv (wrap64 ((ji7) + 1)) 2))))).bind fun t334 => ((nat_Sum.f k (([t308, t331, t334] : List (List Int)))).bind fun t340 => (some t340))))))))))) = some r := H
  have A9 := Aside0.mk A90
  clear A90
  replace H := Option.bind_eq_some_iff.mp H
  obtain ⟨t308, A100, H⟩ := H
  replace H : ((mul_Short.f k t297 t303).bind fun t311 => ((nat_Add.f k t296 t297).bind fun t314 => ((nat_Add.f k t302 t303).bind fun t317 => ((mul_Short.f k t314 t317).bind fun t320 => ((nat_Sub.f k t320 t308).bind fun bt323 => ((nat_Sub.f k bt323.1 t311).bind fun bt327 => ((mul_up.f k bt327.1 (wrap64 (Int.tdiv (wrap64 ((ji7) + 1)) 2))).bind fun t331 => ((mul_up.f k t311 (wrap64 (2 * (wrap64 (Int.tdiv (wrap64 ((ji7) + 1)) 2))))).bind fun t334 => ((nat_Sum.f k (([t308, t331, t334] : List (List Int)))).bind fun t340 => (some t340)))))))))) = some r := H
  have A10 := Aside0.mk A100
  clear A100
  replace H := Option.bind_eq_some_iff.mp H
  obtain ⟨t311, A110, H⟩ := H
  replace H : ((nat_Add.f k t296 t297).bind fun t314 => ((nat_Add.f k t302 t303).bind fun t317 => ((mul_Short.f k t314 t317).bind fun t320 => ((nat_Sub.f k t320 t308).bind fun bt323 => ((nat_Sub.f k bt323.1 t311).bind fun bt327 => ((mul_up.f k bt327.1 (wrap64 (Int.tdiv (wrap64 ((ji7) + 1)) 2))).bind fun t331 => ((mul_up.f k t311 (wrap64 (2 * (wrap64 (Int.tdiv (wrap64 ((ji7) + 1)) 2))))).bind fun t334 => ((nat_Sum.f k (([t308, t331, t334] : List (List Int)))).bind fun t340 => (some t340))))))))) = some r := H
  have A11 := Aside0.mk A110
  clear A110
  replace H := Option.bind_eq_some_iff.mp H
  obtain ⟨t314, A120, H⟩ := H
  replace H : ((nat_Add.f k t302 t303).bind fun t317 => ((mul_Short.f k t314 t317).bind fun t320 => ((nat_Sub.f k t320 t308).bind fun bt323 => ((nat_Sub.f k bt323.1 t311).bind fun bt327 => ((mul_up.f k bt327.1 (wrap64 (Int.tdiv (wrap64 ((ji7) + 1)) 2))).bind fun t331 => ((mul_up.f k t311 (wrap64 (2 * (wrap64 (Int.tdiv (wrap64 ((ji7) + 1)) 2))))).bind fun t334 => ((nat_Sum.f k (([t308, t331, t334] : List (List Int)))).bind fun t340 => (some t340)))))))) = some r := H
  have A12 := Aside0.mk A120
  clear A120
  replace H := Option.bind_eq_some_iff.mp H
  obtain ⟨t317, A130, H⟩ := H
  replace H : ((mul_Short.f k t314 t317).bind fun t320 => ((nat_Sub.f k t320 t308).bind fun bt323 => ((nat_Sub.f k bt323.1 t311).bind fun bt327 => ((mul_up.f k bt327.1 (wrap64 (Int.tdiv (wrap64 ((ji7) + 1)) 2))).bind fun t331 => ((mul_up.f k t311 (wrap64 (2 * (wrap64 (Int.tdiv (wrap64 ((ji7) + 1)) 2))))).bind fun t334 => ((nat_Sum.f k (([t308, t331, t334] : List (List Int)))).bind fun t340 => (some t340))))))) = some r := H
  have A13 := Aside0.mk A130
  clear A130
  replace H := Option.bind_eq_some_iff.mp H
  obtain ⟨t320, A140, H⟩ := H
  replace H : ((nat_Sub.f k t320 t308).bind fun bt323 => ((nat_Sub.f k bt323.1 t311).bind fun bt327 => ((mul_up.f k bt327.1 (wrap64 (Int.tdiv (wrap64 ((ji7) + 1)) 2))).bind fun t331 => ((mul_up.f k t311 (wrap64 (2 * (wrap64 (Int.tdiv (wrap64 ((ji7) + 1)) 2))))).bind fun t334 => ((nat_Sum.f k (([t308, t331, t334] : List (List Int)))).bind fun t340 => (some t340)))))) = some r := H
  have A14 := Aside0.mk A140
  clear A140
  replace H := Option.bind_eq_some_iff.mp H
  obtain ⟨⟨t323, t324⟩, A150, H⟩ := H
  replace H : ((nat_Sub.f k t323 t311).bind fun bt327 => ((mul_up.f k bt327.1 (wrap64 (Int.tdiv (wrap64 ((ji7) + 1)) 2))).bind fun t331 => ((mul_up.f k t311 (wrap64 (2 * (wrap64 (Int.tdiv (wrap64 ((ji7) + 1)) 2))))).bind fun t334 => ((nat_Sum.f k (([t308, t331, t334] : List (List Int)))).bind fun t340 => (some t340))))) = some r := H
  have A15 := Aside0.mk A150
  clear A150
  replace H := Option.bind_eq_some_iff.mp H
  obtain ⟨⟨t327, t328⟩, A160, H⟩ := H
  replace H : ((mul_up.f k t327 (wrap64 (Int.tdiv (wrap64 ((ji7) + 1)) 2))).bind fun t331 => ((mul_up.f k t311 (wrap64 (2 * (wrap64 (Int.tdiv (wrap64 ((ji7) + 1)) 2))))).bind fun t334 => ((nat_Sum.f k (([t308, t331, t334] : List (List Int)))).bind fun t340 => (some t340)))) = some r := H
  have A16 := Aside0.mk A160
  clear A160
  replace H := Option.bind_eq_some_iff.mp H
  obtain ⟨t331, A170, H⟩ := H
  replace H : ((mul_up.f k t311 (wrap64 (2 * (wrap64 (Int.tdiv (wrap64 ((ji7) + 1)) 2))))).bind fun t334 => ((nat_Sum.f k (([t308, t331, t334] : List (List Int)))).bind fun t340 => (some t340))) = some r := H
  have A17 := Aside0.mk A170
  clear A170
  replace H := Option.bind_eq_some_iff.mp H
  obtain ⟨t334, A180, H⟩ := H
  replace H : ((nat_Sum.f k (([t308, t331, t334] : List (List Int)))).bind fun t340 => (some t340)) = some r := H
  have A18 := Aside0.mk A180
  clear A180
  obtain ⟨y337, hy337⟩ : ∃ y_ : List (List Int), y_ = (([t308, t331, t334] : List (List Int))) := ⟨_, rfl⟩
  replace H : ((nat_Sum.f k y337).bind fun t340 => (some t340)) = some r := by first | (rw [hy337]; with_reducible exact H) | (have H2_ := (Option.bind_some _ _).symm.trans H; rw [hy337]; with_reducible exact H2_) | (have H2_ := (Option.bind_some _ _).symm.trans H; with_reducible exact H2_) | with_reducible exact H | (rw [hy337]; exact H) | exact H
  have Ny337 := Aside0.mk hy337
  clear hy337
  replace H := Option.bind_eq_some_iff.mp H
  obtain ⟨t340, A190, H⟩ := H
  replace H : (some t340) = some r := H
  have A19 := Aside0.mk A190
  clear A190
  obtain rfl := Option.some.inj H
  go_enter Try.func124, Try.ntmps124
  go_wp2_with (first | ((with_reducible refine gate_callee (f := 142) rfl ?_); refine goesL_ (some 32) rfl rfl Try.func142 (by kernel_rfl) rfl #[.slice A0 l0.length c0, .int .i64 (wrap64 (Int.tdiv (wrap64 ((ji7) + 1)) 2))] rfl (by (try simp only [List.map_toArray, List.map_cons, List.map_nil]); first | done | (simp only [hji7]; rfl) | rfl | (simp only [List.length_drop, List.length_take]; rfl)) ?_; (with_reducible refine (mul_cut.calls k _ _ l0 (wrap64 (Int.tdiv (wrap64 ((ji7) + 1)) 2)) t296 t297 _ ?side1 ?side2 A8.out).mono ?_); (case side1 => exact Kd.Cx HR0.out); (case side2 => exact HC0.out); rintro e w20 ⟨v298, v300, rfl, ho0, ho1, hb⟩; refine ⟨_, rfl, ?_⟩; have HO299 := Aside0.mk (Kd.R_lower ho0 (below_size (Bx HB.out))); have HO301 := Aside0.mk (Kd.R_lower ho1 (below_size (Bx HB.out))); replace HB := Aside0.mk (below_step (Bx HB.out) hb); (try clear hb); (try clear hb2); (try clear hk); (try clear hi); (try clear ho0); (try clear ho1)) | ((with_reducible refine gate_callee (f := 142) rfl ?_); refine goesL_ (some 38) rfl rfl Try.func142 (by kernel_rfl) rfl #[.slice A1 l1.length c1, .int .i64 (wrap64 (Int.tdiv (wrap64 ((ji7) + 1)) 2))] rfl (by (try simp only [List.map_toArray, List.map_cons, List.map_nil]); first | done | (simp only [hji7]; rfl) | rfl | (simp only [List.length_drop, List.length_take]; rfl)) ?_; (with_reducible refine (mul_cut.calls k _ _ l1 (wrap64 (Int.tdiv (wrap64 ((ji7) + 1)) 2)) t302 t303 _ ?side1 ?side2 A9.out).mono ?_); (case side1 => exact Kd.Cx (Kd.C_below HR1.out HB.out)); (case side2 => exact HC1.out); rintro e w21 ⟨v304, v306, rfl, ho0, ho1, hb⟩; refine ⟨_, rfl, ?_⟩; have HO305 := Aside0.mk (Kd.R_lower (Kd.R_new' (Kd.R_new' ho0 (Kd.R_lt (Kd.Rx HO299.out))) (Kd.R_lt (Kd.Rx HO301.out))) (below_size (Bx HB.out))); have HO307 := Aside0.mk (Kd.R_lower (Kd.R_new' (Kd.R_new' ho1 (Kd.R_lt (Kd.Rx HO299.out))) (Kd.R_lt (Kd.Rx HO301.out))) (below_size (Bx HB.out))); replace HO299 := Aside0.mk (Kd.R_mono (Kd.R_told (Kd.R_told (Kd.R_old (Kd.Rx HO299.out) hb) (Kd.R_base ho0)) (Kd.R_base ho1)) (fun _ h_ => h_.1)); replace HO301 := Aside0.mk (Kd.R_mono (Kd.R_told (Kd.R_told (Kd.R_old (Kd.Rx HO301.out) hb) (Kd.R_base ho0)) (Kd.R_base ho1)) (fun _ h_ => h_.1)); replace HB := Aside0.mk (below_step (Bx HB.out) hb); (try clear hb); (try clear hb2); (try clear hk); (try clear hi); (try clear ho0); (try clear ho1); obtain ⟨Ao22, co22, eo22⟩ := Kd.R_slice HO299.out; subst eo22; obtain ⟨Ao23, co23, eo23⟩ := Kd.R_slice HO305.out; subst eo23) | ((with_reducible refine gate_callee (f := 124) rfl ?_); refine goesx (some 43) Try.func124 #[.slice Ao22 t296.length co22, .slice Ao23 t302.length co23] ?_; (with_reducible refine (ih k (by omega) _ _ t296 _ _ t302 t308 _ ?side1 ?side2 ?side3 ?side4 A10.out).mono ?_); (case side1 => exact Kd.Cx (Kd.R_reads' HO299.out).2.2); (case side2 => exact (Kd.R_reads' HO299.out).2.1); (case side3 => exact Kd.Cx (Kd.R_reads' HO305.out).2.2); (case side4 => exact (Kd.R_reads' HO305.out).2.1); rintro e w24 ⟨v309, rfl, ho0, hb⟩; refine ⟨_, rfl, ?_⟩; have HO310 := Aside0.mk (Kd.R_lower (Kd.R_new' (Kd.R_new' (Kd.R_new' (Kd.R_new' ho0 (Kd.R_lt (Kd.Rx HO299.out))) (Kd.R_lt (Kd.Rx HO301.out))) (Kd.R_lt (Kd.Rx HO305.out))) (Kd.R_lt (Kd.Rx HO307.out))) (below_size (Bx HB.out))); replace HO299 := Aside0.mk (Kd.R_elder' (Kd.Rx HO299.out) (Kd.R_base ho0) hb); replace HO301 := Aside0.mk (Kd.R_elder' (Kd.Rx HO301.out) (Kd.R_base ho0) hb); replace HO305 := Aside0.mk (Kd.R_elder' (Kd.Rx HO305.out) (Kd.R_base ho0) hb); replace HO307 := Aside0.mk (Kd.R_elder' (Kd.Rx HO307.out) (Kd.R_base ho0) hb); replace HB := Aside0.mk (below_step (Bx HB.out) hb); (try clear hb); (try clear hb2); (try clear hk); (try clear hi); (try clear ho0); obtain ⟨Ao25, co25, eo25⟩ := Kd.R_slice HO301.out; subst eo25; obtain ⟨Ao26, co26, eo26⟩ := Kd.R_slice HO307.out; subst eo26) | ((with_reducible refine gate_callee (f := 124) rfl ?_); refine goesx (some 46) Try.func124 #[.slice Ao25 t297.length co25, .slice Ao26 t303.length co26] ?_; (with_reducible refine (ih k (by omega) _ _ t297 _ _ t303 t311 _ ?side1 ?side2 ?side3 ?side4 A11.out).mono ?_); (case side1 => exact Kd.Cx (Kd.R_reads' HO301.out).2.2); (case side2 => exact (Kd.R_reads' HO301.out).2.1); (case side3 => exact Kd.Cx (Kd.R_reads' HO307.out).2.2); (case side4 => exact (Kd.R_reads' HO307.out).2.1); rintro e w27 ⟨v312, rfl, ho0, hb⟩; refine ⟨_, rfl, ?_⟩; have HO313 := Aside0.mk (Kd.R_lower (Kd.R_new' (Kd.R_new' (Kd.R_new' (Kd.R_new' (Kd.R_new' ho0 (Kd.R_lt (Kd.Rx HO299.out))) (Kd.R_lt (Kd.Rx HO301.out))) (Kd.R_lt (Kd.Rx HO305.out))) (Kd.R_lt (Kd.Rx HO307.out))) (Kd.R_lt (Kd.Rx HO310.out))) (below_size (Bx HB.out))); replace HO299 := Aside0.mk (Kd.R_elder' (Kd.Rx HO299.out) (Kd.R_base ho0) hb); replace HO301 := Aside0.mk (Kd.R_elder' (Kd.Rx HO301.out) (Kd.R_base ho0) hb); replace HO305 := Aside0.mk (Kd.R_elder' (Kd.Rx HO305.out) (Kd.R_base ho0) hb); replace HO307 := Aside0.mk (Kd.R_elder' (Kd.Rx HO307.out) (Kd.R_base ho0) hb); replace HO310 := Aside0.mk (Kd.R_elder' (Kd.Rx HO310.out) (Kd.R_base ho0) hb); replace HB := Aside0.mk (below_step (Bx HB.out) hb); (try clear hb); (try clear hb2); (try clear hk); (try clear hi); (try clear ho0)) | ((with_reducible refine gate_callee (f := 92) rfl ?_); refine goesx (some 49) Try.func92 #[.slice Ao22 t296.length co22, .slice Ao25 t297.length co25] ?_; (with_reducible refine (nat_Add.calls k _ _ t296 _ _ t297 t314 _ ?side1 ?side2 ?side3 ?side4 A12.out).mono ?_); (case side1 => exact Kd.Cx (Kd.R_reads' HO299.out).2.2); (case side2 => exact (Kd.R_reads' HO299.out).2.1); (case side3 => exact Kd.Cx (Kd.R_reads' HO301.out).2.2); (case side4 => exact (Kd.R_reads' HO301.out).2.1); rintro e w28 ⟨v315, rfl, ho0, hb⟩; refine ⟨_, rfl, ?_⟩; have HO316 := Aside0.mk (Kd.R_lower (Kd.R_new' (Kd.R_new' (Kd.R_new' (Kd.R_new' (Kd.R_new' (Kd.R_new' ho0 (Kd.R_lt (Kd.Rx HO299.out))) (Kd.R_lt (Kd.Rx HO301.out))) (Kd.R_lt (Kd.Rx HO305.out))) (Kd.R_lt (Kd.Rx HO307.out))) (Kd.R_lt (Kd.Rx HO310.out))) (Kd.R_lt (Kd.Rx HO313.out))) (below_size (Bx HB.out))); replace HO299 := Aside0.mk (Kd.R_elder' (Kd.Rx HO299.out) (Kd.R_base ho0) hb); replace HO301 := Aside0.mk (Kd.R_elder' (Kd.Rx HO301.out) (Kd.R_base ho0) hb); replace HO305 := Aside0.mk (Kd.R_elder' (Kd.Rx HO305.out) (Kd.R_base ho0) hb); replace HO307 := Aside0.mk (Kd.R_elder' (Kd.Rx HO307.out) (Kd.R_base ho0) hb); replace HO310 := Aside0.mk (Kd.R_elder' (Kd.Rx HO310.out) (Kd.R_base ho0) hb); replace HO313 := Aside0.mk (Kd.R_elder' (Kd.Rx HO313.out) (Kd.R_base ho0) hb); replace HB := Aside0.mk (below_step (Bx HB.out) hb); (try clear hb); (try clear hb2); (try clear hk); (try clear hi); (try clear ho0)) | ((with_reducible refine gate_callee (f := 92) rfl ?_); refine goesx (some 52) Try.func92 #[.slice Ao23 t302.length co23, .slice Ao26 t303.length co26] ?_; (with_reducible refine (nat_Add.calls k _ _ t302 _ _ t303 t317 _ ?side1 ?side2 ?side3 ?side4 A13.out).mono ?_); (case side1 => exact Kd.Cx (Kd.R_reads' HO305.out).2.2); (case side2 => exact (Kd.R_reads' HO305.out).2.1); (case side3 => exact Kd.Cx (Kd.R_reads' HO307.out).2.2); (case side4 => exact (Kd.R_reads' HO307.out).2.1); rintro e w29 ⟨v318, rfl, ho0, hb⟩; refine ⟨_, rfl, ?_⟩; have HO319 := Aside0.mk (Kd.R_lower (Kd.R_new' (Kd.R_new' (Kd.R_new' (Kd.R_new' (Kd.R_new' (Kd.R_new' (Kd.R_new' ho0 (Kd.R_lt (Kd.Rx HO299.out))) (Kd.R_lt (Kd.Rx HO301.out))) (Kd.R_lt (Kd.Rx HO305.out))) (Kd.R_lt (Kd.Rx HO307.out))) (Kd.R_lt (Kd.Rx HO310.out))) (Kd.R_lt (Kd.Rx HO313.out))) (Kd.R_lt (Kd.Rx HO316.out))) (below_size (Bx HB.out))); replace HO299 := Aside0.mk (Kd.R_elder' (Kd.Rx HO299.out) (Kd.R_base ho0) hb); replace HO301 := Aside0.mk (Kd.R_elder' (Kd.Rx HO301.out) (Kd.R_base ho0) hb); replace HO305 := Aside0.mk (Kd.R_elder' (Kd.Rx HO305.out) (Kd.R_base ho0) hb); replace HO307 := Aside0.mk (Kd.R_elder' (Kd.Rx HO307.out) (Kd.R_base ho0) hb); replace HO310 := Aside0.mk (Kd.R_elder' (Kd.Rx HO310.out) (Kd.R_base ho0) hb); replace HO313 := Aside0.mk (Kd.R_elder' (Kd.Rx HO313.out) (Kd.R_base ho0) hb); replace HO316 := Aside0.mk (Kd.R_elder' (Kd.Rx HO316.out) (Kd.R_base ho0) hb); replace HB := Aside0.mk (below_step (Bx HB.out) hb); (try clear hb); (try clear hb2); (try clear hk); (try clear hi); (try clear ho0); obtain ⟨Ao30, co30, eo30⟩ := Kd.R_slice HO316.out; subst eo30; obtain ⟨Ao31, co31, eo31⟩ := Kd.R_slice HO319.out; subst eo31) | ((with_reducible refine gate_callee (f := 124) rfl ?_); refine goesx (some 53) Try.func124 #[.slice Ao30 t314.length co30, .slice Ao31 t317.length co31] ?_; (with_reducible refine (ih k (by omega) _ _ t314 _ _ t317 t320 _ ?side1 ?side2 ?side3 ?side4 A14.out).mono ?_); (case side1 => exact Kd.Cx (Kd.R_reads' HO316.out).2.2); (case side2 => exact (Kd.R_reads' HO316.out).2.1); (case side3 => exact Kd.Cx (Kd.R_reads' HO319.out).2.2); (case side4 => exact (Kd.R_reads' HO319.out).2.1); rintro e w32 ⟨v321, rfl, ho0, hb⟩; refine ⟨_, rfl, ?_⟩; have HO322 := Aside0.mk (Kd.R_lower (Kd.R_new' (Kd.R_new' (Kd.R_new' (Kd.R_new' (Kd.R_new' (Kd.R_new' (Kd.R_new' (Kd.R_new' ho0 (Kd.R_lt (Kd.Rx HO299.out))) (Kd.R_lt (Kd.Rx HO301.out))) (Kd.R_lt (Kd.Rx HO305.out))) (Kd.R_lt (Kd.Rx HO307.out))) (Kd.R_lt (Kd.Rx HO310.out))) (Kd.R_lt (Kd.Rx HO313.out))) (Kd.R_lt (Kd.Rx HO316.out))) (Kd.R_lt (Kd.Rx HO319.out))) (below_size (Bx HB.out))); replace HO299 := Aside0.mk (Kd.R_elder' (Kd.Rx HO299.out) (Kd.R_base ho0) hb); replace HO301 := Aside0.mk (Kd.R_elder' (Kd.Rx HO301.out) (Kd.R_base ho0) hb); replace HO305 := Aside0.mk (Kd.R_elder' (Kd.Rx HO305.out) (Kd.R_base ho0) hb); replace HO307 := Aside0.mk (Kd.R_elder' (Kd.Rx HO307.out) (Kd.R_base ho0) hb); replace HO310 := Aside0.mk (Kd.R_elder' (Kd.Rx HO310.out) (Kd.R_base ho0) hb); replace HO313 := Aside0.mk (Kd.R_elder' (Kd.Rx HO313.out) (Kd.R_base ho0) hb); replace HO316 := Aside0.mk (Kd.R_elder' (Kd.Rx HO316.out) (Kd.R_base ho0) hb); replace HO319 := Aside0.mk (Kd.R_elder' (Kd.Rx HO319.out) (Kd.R_base ho0) hb); replace HB := Aside0.mk (below_step (Bx HB.out) hb); (try clear hb); (try clear hb2); (try clear hk); (try clear hi); (try clear ho0); obtain ⟨Ao33, co33, eo33⟩ := Kd.R_slice HO322.out; subst eo33; obtain ⟨Ao34, co34, eo34⟩ := Kd.R_slice HO310.out; subst eo34) | ((with_reducible refine gate_callee (f := 99) rfl ?_); refine goesx (some 57) Try.func99 #[.slice Ao33 t320.length co33, .slice Ao34 t308.length co34] ?_; (with_reducible refine (nat_Sub.calls k _ _ t320 _ _ t308 t323 t324 _ ?side1 ?side2 ?side3 ?side4 A15.out).mono ?_); (case side1 => exact Kd.Cx (Kd.R_reads' HO322.out).2.2); (case side2 => exact (Kd.R_reads' HO322.out).2.1); (case side3 => exact Kd.Cx (Kd.R_reads' HO310.out).2.2); (case side4 => exact (Kd.R_reads' HO310.out).2.1); rintro e w35 ⟨v325, rfl, ho0, hb⟩; refine ⟨_, rfl, ?_⟩; have HO326 := Aside0.mk (Kd.R_lower (Kd.R_new' (Kd.R_new' (Kd.R_new' (Kd.R_new' (Kd.R_new' (Kd.R_new' (Kd.R_new' (Kd.R_new' (Kd.R_new' ho0 (Kd.R_lt (Kd.Rx HO299.out))) (Kd.R_lt (Kd.Rx HO301.out))) (Kd.R_lt (Kd.Rx HO305.out))) (Kd.R_lt (Kd.Rx HO307.out))) (Kd.R_lt (Kd.Rx HO310.out))) (Kd.R_lt (Kd.Rx HO313.out))) (Kd.R_lt (Kd.Rx HO316.out))) (Kd.R_lt (Kd.Rx HO319.out))) (Kd.R_lt (Kd.Rx HO322.out))) (below_size (Bx HB.out))); replace HO299 := Aside0.mk (Kd.R_elder' (Kd.Rx HO299.out) (Kd.R_base ho0) hb); replace HO301 := Aside0.mk (Kd.R_elder' (Kd.Rx HO301.out) (Kd.R_base ho0) hb); replace HO305 := Aside0.mk (Kd.R_elder' (Kd.Rx HO305.out) (Kd.R_base ho0) hb); replace HO307 := Aside0.mk (Kd.R_elder' (Kd.Rx HO307.out) (Kd.R_base ho0) hb); replace HO310 := Aside0.mk (Kd.R_elder' (Kd.Rx HO310.out) (Kd.R_base ho0) hb); replace HO313 := Aside0.mk (Kd.R_elder' (Kd.Rx HO313.out) (Kd.R_base ho0) hb); replace HO316 := Aside0.mk (Kd.R_elder' (Kd.Rx HO316.out) (Kd.R_base ho0) hb); replace HO319 := Aside0.mk (Kd.R_elder' (Kd.Rx HO319.out) (Kd.R_base ho0) hb); replace HO322 := Aside0.mk (Kd.R_elder' (Kd.Rx HO322.out) (Kd.R_base ho0) hb); replace HB := Aside0.mk (below_step (Bx HB.out) hb); (try clear hb); (try clear hb2); (try clear hk); (try clear hi); (try clear ho0); obtain ⟨Ao36, co36, eo36⟩ := Kd.R_slice HO326.out; subst eo36; obtain ⟨Ao37, co37, eo37⟩ := Kd.R_slice HO313.out; subst eo37) | ((with_reducible refine gate_callee (f := 99) rfl ?_); refine goesx (some 63) Try.func99 #[.slice Ao36 t323.length co36, .slice Ao37 t311.length co37] ?_; (with_reducible refine (nat_Sub.calls k _ _ t323 _ _ t311 t327 t328 _ ?side1 ?side2 ?side3 ?side4 A16.out).mono ?_); (case side1 => exact Kd.Cx (Kd.R_reads' HO326.out).2.2); (case side2 => exact (Kd.R_reads' HO326.out).2.1); (case side3 => exact Kd.Cx (Kd.R_reads' HO313.out).2.2); (case side4 => exact (Kd.R_reads' HO313.out).2.1); rintro e w38 ⟨v329, rfl, ho0, hb⟩; refine ⟨_, rfl, ?_⟩; have HO330 := Aside0.mk (Kd.R_lower (Kd.R_new' (Kd.R_new' (Kd.R_new' (Kd.R_new' (Kd.R_new' (Kd.R_new' (Kd.R_new' (Kd.R_new' (Kd.R_new' (Kd.R_new' ho0 (Kd.R_lt (Kd.Rx HO299.out))) (Kd.R_lt (Kd.Rx HO301.out))) (Kd.R_lt (Kd.Rx HO305.out))) (Kd.R_lt (Kd.Rx HO307.out))) (Kd.R_lt (Kd.Rx HO310.out))) (Kd.R_lt (Kd.Rx HO313.out))) (Kd.R_lt (Kd.Rx HO316.out))) (Kd.R_lt (Kd.Rx HO319.out))) (Kd.R_lt (Kd.Rx HO322.out))) (Kd.R_lt (Kd.Rx HO326.out))) (below_size (Bx HB.out))); replace HO299 := Aside0.mk (Kd.R_elder' (Kd.Rx HO299.out) (Kd.R_base ho0) hb); replace HO301 := Aside0.mk (Kd.R_elder' (Kd.Rx HO301.out) (Kd.R_base ho0) hb); replace HO305 := Aside0.mk (Kd.R_elder' (Kd.Rx HO305.out) (Kd.R_base ho0) hb); replace HO307 := Aside0.mk (Kd.R_elder' (Kd.Rx HO307.out) (Kd.R_base ho0) hb); replace HO310 := Aside0.mk (Kd.R_elder' (Kd.Rx HO310.out) (Kd.R_base ho0) hb); replace HO313 := Aside0.mk (Kd.R_elder' (Kd.Rx HO313.out) (Kd.R_base ho0) hb); replace HO316 := Aside0.mk (Kd.R_elder' (Kd.Rx HO316.out) (Kd.R_base ho0) hb); replace HO319 := Aside0.mk (Kd.R_elder' (Kd.Rx HO319.out) (Kd.R_base ho0) hb); replace HO322 := Aside0.mk (Kd.R_elder' (Kd.Rx HO322.out) (Kd.R_base ho0) hb); replace HO326 := Aside0.mk (Kd.R_elder' (Kd.Rx HO326.out) (Kd.R_base ho0) hb); replace HB := Aside0.mk (below_step (Bx HB.out) hb); (try clear hb); (try clear hb2); (try clear hk); (try clear hi); (try clear ho0); obtain ⟨Ao39, co39, eo39⟩ := Kd.R_slice HO330.out; subst eo39) | ((with_reducible refine gate_callee (f := 144) rfl ?_); refine goesL_ (some 69) rfl rfl Try.func144 (by kernel_rfl) rfl #[.slice Ao39 t327.length co39, .int .i64 (wrap64 (Int.tdiv (wrap64 ((ji7) + 1)) 2))] rfl (by (try simp only [List.map_toArray, List.map_cons, List.map_nil]); first | done | (simp only [hji7]; rfl) | rfl | (simp only [List.length_drop, List.length_take]; rfl)) ?_; (with_reducible refine (mul_up.calls k _ _ t327 (wrap64 (Int.tdiv (wrap64 ((ji7) + 1)) 2)) t331 _ ?side1 ?side2 A17.out).mono ?_); (case side1 => exact Kd.Cx (Kd.R_reads' HO330.out).2.2); (case side2 => exact (Kd.R_reads' HO330.out).2.1); rintro e w40 ⟨v332, rfl, ho0, hb⟩; refine ⟨_, rfl, ?_⟩; have HO333 := Aside0.mk (Kd.R_lower (Kd.R_new' (Kd.R_new' (Kd.R_new' (Kd.R_new' (Kd.R_new' (Kd.R_new' (Kd.R_new' (Kd.R_new' (Kd.R_new' (Kd.R_new' (Kd.R_new' ho0 (Kd.R_lt (Kd.Rx HO299.out))) (Kd.R_lt (Kd.Rx HO301.out))) (Kd.R_lt (Kd.Rx HO305.out))) (Kd.R_lt (Kd.Rx HO307.out))) (Kd.R_lt (Kd.Rx HO310.out))) (Kd.R_lt (Kd.Rx HO313.out))) (Kd.R_lt (Kd.Rx HO316.out))) (Kd.R_lt (Kd.Rx HO319.out))) (Kd.R_lt (Kd.Rx HO322.out))) (Kd.R_lt (Kd.Rx HO326.out))) (Kd.R_lt (Kd.Rx HO330.out))) (below_size (Bx HB.out))); replace HO299 := Aside0.mk (Kd.R_elder' (Kd.Rx HO299.out) (Kd.R_base ho0) hb); replace HO301 := Aside0.mk (Kd.R_elder' (Kd.Rx HO301.out) (Kd.R_base ho0) hb); replace HO305 := Aside0.mk (Kd.R_elder' (Kd.Rx HO305.out) (Kd.R_base ho0) hb); replace HO307 := Aside0.mk (Kd.R_elder' (Kd.Rx HO307.out) (Kd.R_base ho0) hb); replace HO310 := Aside0.mk (Kd.R_elder' (Kd.Rx HO310.out) (Kd.R_base ho0) hb); replace HO313 := Aside0.mk (Kd.R_elder' (Kd.Rx HO313.out) (Kd.R_base ho0) hb); replace HO316 := Aside0.mk (Kd.R_elder' (Kd.Rx HO316.out) (Kd.R_base ho0) hb); replace HO319 := Aside0.mk (Kd.R_elder' (Kd.Rx HO319.out) (Kd.R_base ho0) hb); replace HO322 := Aside0.mk (Kd.R_elder' (Kd.Rx HO322.out) (Kd.R_base ho0) hb); replace HO326 := Aside0.mk (Kd.R_elder' (Kd.Rx HO326.out) (Kd.R_base ho0) hb); replace HO330 := Aside0.mk (Kd.R_elder' (Kd.Rx HO330.out) (Kd.R_base ho0) hb); replace HB := Aside0.mk (below_step (Bx HB.out) hb); (try clear hb); (try clear hb2); (try clear hk); (try clear hi); (try clear ho0)) | ((with_reducible refine gate_callee (f := 144) rfl ?_); refine goesL_ (some 73) rfl rfl Try.func144 (by kernel_rfl) rfl #[.slice Ao37 t311.length co37, .int .i64 (wrap64 (2 * (wrap64 (Int.tdiv (wrap64 ((ji7) + 1)) 2))))] rfl (by (try simp only [List.map_toArray, List.map_cons, List.map_nil]); first | done | (simp only [hji7]; rfl) | rfl | (simp only [List.length_drop, List.length_take]; rfl)) ?_; (with_reducible refine (mul_up.calls k _ _ t311 (wrap64 (2 * (wrap64 (Int.tdiv (wrap64 ((ji7) + 1)) 2)))) t334 _ ?side1 ?side2 A18.out).mono ?_); (case side1 => exact Kd.Cx (Kd.R_reads' HO313.out).2.2); (case side2 => exact (Kd.R_reads' HO313.out).2.1); rintro e w41 ⟨v335, rfl, ho0, hb⟩; refine ⟨_, rfl, ?_⟩; have HO336 := Aside0.mk (Kd.R_lower (Kd.R_new' (Kd.R_new' (Kd.R_new' (Kd.R_new' (Kd.R_new' (Kd.R_new' (Kd.R_new' (Kd.R_new' (Kd.R_new' (Kd.R_new' (Kd.R_new' (Kd.R_new' ho0 (Kd.R_lt (Kd.Rx HO299.out))) (Kd.R_lt (Kd.Rx HO301.out))) (Kd.R_lt (Kd.Rx HO305.out))) (Kd.R_lt (Kd.Rx HO307.out))) (Kd.R_lt (Kd.Rx HO310.out))) (Kd.R_lt (Kd.Rx HO313.out))) (Kd.R_lt (Kd.Rx HO316.out))) (Kd.R_lt (Kd.Rx HO319.out))) (Kd.R_lt (Kd.Rx HO322.out))) (Kd.R_lt (Kd.Rx HO326.out))) (Kd.R_lt (Kd.Rx HO330.out))) (Kd.R_lt (Kd.Rx HO333.out))) (below_size (Bx HB.out))); replace HO299 := Aside0.mk (Kd.R_elder' (Kd.Rx HO299.out) (Kd.R_base ho0) hb); replace HO301 := Aside0.mk (Kd.R_elder' (Kd.Rx HO301.out) (Kd.R_base ho0) hb); replace HO305 := Aside0.mk (Kd.R_elder' (Kd.Rx HO305.out) (Kd.R_base ho0) hb); replace HO307 := Aside0.mk (Kd.R_elder' (Kd.Rx HO307.out) (Kd.R_base ho0) hb); replace HO310 := Aside0.mk (Kd.R_elder' (Kd.Rx HO310.out) (Kd.R_base ho0) hb); replace HO313 := Aside0.mk (Kd.R_elder' (Kd.Rx HO313.out) (Kd.R_base ho0) hb); replace HO316 := Aside0.mk (Kd.R_elder' (Kd.Rx HO316.out) (Kd.R_base ho0) hb); replace HO319 := Aside0.mk (Kd.R_elder' (Kd.Rx HO319.out) (Kd.R_base ho0) hb); replace HO322 := Aside0.mk (Kd.R_elder' (Kd.Rx HO322.out) (Kd.R_base ho0) hb); replace HO326 := Aside0.mk (Kd.R_elder' (Kd.Rx HO326.out) (Kd.R_base ho0) hb); replace HO330 := Aside0.mk (Kd.R_elder' (Kd.Rx HO330.out) (Kd.R_base ho0) hb); replace HO333 := Aside0.mk (Kd.R_elder' (Kd.Rx HO333.out) (Kd.R_base ho0) hb); replace HB := Aside0.mk (below_step (Bx HB.out) hb); (try clear hb); (try clear hb2); (try clear hk); (try clear hi); (try clear ho0); obtain ⟨Ao42, co42, eo42⟩ := Kd.R_slice HO333.out; subst eo42; obtain ⟨Ao43, co43, eo43⟩ := Kd.R_slice HO336.out; subst eo43) | ((with_reducible refine gate_dst (N := 74) rfl ?_); refine Kd.N_lit (Kd.slice 96 (Kd.int .u64)) _ 30 ?hg (N' := 74) ?hd (xs := ([t308, t331, t334] : List (List Int))) (inner := [.slice Ao34 t308.length co34, .slice Ao42 t331.length co42, .slice Ao43 t334.length co43]) (ok := (fun k_ => nb k_ (.slice Ao22 t296.length co22) ∧ nb k_ (.slice Ao25 t297.length co25) ∧ nb k_ (.slice Ao23 t302.length co23) ∧ nb k_ (.slice Ao26 t303.length co26) ∧ nb k_ (.slice Ao37 t311.length co37) ∧ nb k_ (.slice Ao30 t314.length co30) ∧ nb k_ (.slice Ao31 t317.length co31) ∧ nb k_ (.slice Ao33 t320.length co33) ∧ nb k_ (.slice Ao36 t323.length co36) ∧ nb k_ (.slice Ao39 t327.length co39))) (okp := (fun k_ => nb k_ (.slice Ao22 t296.length co22) ∧ nb k_ (.slice Ao25 t297.length co25) ∧ nb k_ (.slice Ao23 t302.length co23) ∧ nb k_ (.slice Ao26 t303.length co26) ∧ nb k_ (.slice Ao37 t311.length co37) ∧ nb k_ (.slice Ao30 t314.length co30) ∧ nb k_ (.slice Ao31 t317.length co31) ∧ nb k_ (.slice Ao33 t320.length co33) ∧ nb k_ (.slice Ao36 t323.length co36) ∧ nb k_ (.slice Ao39 t327.length co39))) ?hr ?hp (fun _ hk => hk) ((show ∀ k_, w41.heap.size ≤ k_ → (fun k_ => nb k_ (.slice Ao22 t296.length co22) ∧ nb k_ (.slice Ao25 t297.length co25) ∧ nb k_ (.slice Ao23 t302.length co23) ∧ nb k_ (.slice Ao26 t303.length co26) ∧ nb k_ (.slice Ao37 t311.length co37) ∧ nb k_ (.slice Ao30 t314.length co30) ∧ nb k_ (.slice Ao31 t317.length co31) ∧ nb k_ (.slice Ao33 t320.length co33) ∧ nb k_ (.slice Ao36 t323.length co36) ∧ nb k_ (.slice Ao39 t327.length co39)) k_ from fun k_ hk => ⟨Kd.fresh' (Kd.R_lt (Kd.Rx HO299.out)) k_ hk, Kd.fresh' (Kd.R_lt (Kd.Rx HO301.out)) k_ hk, Kd.fresh' (Kd.R_lt (Kd.Rx HO305.out)) k_ hk, Kd.fresh' (Kd.R_lt (Kd.Rx HO307.out)) k_ hk, Kd.fresh' (Kd.R_lt (Kd.Rx HO313.out)) k_ hk, Kd.fresh' (Kd.R_lt (Kd.Rx HO316.out)) k_ hk, Kd.fresh' (Kd.R_lt (Kd.Rx HO319.out)) k_ hk, Kd.fresh' (Kd.R_lt (Kd.Rx HO322.out)) k_ hk, Kd.fresh' (Kd.R_lt (Kd.Rx HO326.out)) k_ hk, Kd.fresh' (Kd.R_lt (Kd.Rx HO330.out)) k_ hk⟩) _ (Nat.le_refl _)) (Below.refl _ _) (Nat.le_refl _) (by simp) ?_; (case hd => rfl); (case hg => rfl); (case hr => first | (go_simp; done) | (go_simp; rfl)); (case hp => exact (Reps.one (show Kd.FK (Kd.slice 96 (Kd.int .u64)) _ _ t308 [.slice Ao34 t308.length co34] from (Kd.FK_slice_mk (Kd.R_reads' (Kd.R_mono (ok' := (fun k_ => nb k_ (.slice Ao22 t296.length co22) ∧ nb k_ (.slice Ao25 t297.length co25) ∧ nb k_ (.slice Ao23 t302.length co23) ∧ nb k_ (.slice Ao26 t303.length co26) ∧ nb k_ (.slice Ao37 t311.length co37) ∧ nb k_ (.slice Ao30 t314.length co30) ∧ nb k_ (.slice Ao31 t317.length co31) ∧ nb k_ (.slice Ao33 t320.length co33) ∧ nb k_ (.slice Ao36 t323.length co36) ∧ nb k_ (.slice Ao39 t327.length co39))) (HO310.out) (fun k_ hk => ⟨hk.1.1.1.1.1.1.1.1.1.1.1.2, ⟨hk.1.1.1.1.1.1.1.1.1.1.2, ⟨hk.1.1.1.1.1.1.1.1.1.2, ⟨hk.1.1.1.1.1.1.1.1.2, ⟨hk.1.1.1.1.1.1.1.2, ⟨hk.1.1.1.1.1.1.2, ⟨hk.1.1.1.1.1.2, ⟨hk.1.1.1.1.2, ⟨hk.1.1.1.2, hk.1.1.2⟩⟩⟩⟩⟩⟩⟩⟩⟩))).2.1 (Kd.R_F (Kd.R_mono (ok' := (fun k_ => nb k_ (.slice Ao22 t296.length co22) ∧ nb k_ (.slice Ao25 t297.length co25) ∧ nb k_ (.slice Ao23 t302.length co23) ∧ nb k_ (.slice Ao26 t303.length co26) ∧ nb k_ (.slice Ao37 t311.length co37) ∧ nb k_ (.slice Ao30 t314.length co30) ∧ nb k_ (.slice Ao31 t317.length co31) ∧ nb k_ (.slice Ao33 t320.length co33) ∧ nb k_ (.slice Ao36 t323.length co36) ∧ nb k_ (.slice Ao39 t327.length co39))) (HO310.out) (fun k_ hk => ⟨hk.1.1.1.1.1.1.1.1.1.1.1.2, ⟨hk.1.1.1.1.1.1.1.1.1.1.2, ⟨hk.1.1.1.1.1.1.1.1.1.2, ⟨hk.1.1.1.1.1.1.1.1.2, ⟨hk.1.1.1.1.1.1.1.2, ⟨hk.1.1.1.1.1.1.2, ⟨hk.1.1.1.1.1.2, ⟨hk.1.1.1.1.2, ⟨hk.1.1.1.2, hk.1.1.2⟩⟩⟩⟩⟩⟩⟩⟩⟩))))) (Reps.one (show Kd.FK (Kd.slice 96 (Kd.int .u64)) _ _ t331 [.slice Ao42 t331.length co42] from (Kd.FK_slice_mk (Kd.R_reads' (Kd.R_mono (ok' := (fun k_ => nb k_ (.slice Ao22 t296.length co22) ∧ nb k_ (.slice Ao25 t297.length co25) ∧ nb k_ (.slice Ao23 t302.length co23) ∧ nb k_ (.slice Ao26 t303.length co26) ∧ nb k_ (.slice Ao37 t311.length co37) ∧ nb k_ (.slice Ao30 t314.length co30) ∧ nb k_ (.slice Ao31 t317.length co31) ∧ nb k_ (.slice Ao33 t320.length co33) ∧ nb k_ (.slice Ao36 t323.length co36) ∧ nb k_ (.slice Ao39 t327.length co39))) (HO333.out) (fun k_ hk => ⟨hk.1.1.1.1.1.1.1.1.1.1.1.2, ⟨hk.1.1.1.1.1.1.1.1.1.1.2, ⟨hk.1.1.1.1.1.1.1.1.1.2, ⟨hk.1.1.1.1.1.1.1.1.2, ⟨hk.1.1.1.1.1.1.2, ⟨hk.1.1.1.1.1.2, ⟨hk.1.1.1.1.2, ⟨hk.1.1.1.2, ⟨hk.1.1.2, hk.1.2⟩⟩⟩⟩⟩⟩⟩⟩⟩))).2.1 (Kd.R_F (Kd.R_mono (ok' := (fun k_ => nb k_ (.slice Ao22 t296.length co22) ∧ nb k_ (.slice Ao25 t297.length co25) ∧ nb k_ (.slice Ao23 t302.length co23) ∧ nb k_ (.slice Ao26 t303.length co26) ∧ nb k_ (.slice Ao37 t311.length co37) ∧ nb k_ (.slice Ao30 t314.length co30) ∧ nb k_ (.slice Ao31 t317.length co31) ∧ nb k_ (.slice Ao33 t320.length co33) ∧ nb k_ (.slice Ao36 t323.length co36) ∧ nb k_ (.slice Ao39 t327.length co39))) (HO333.out) (fun k_ hk => ⟨hk.1.1.1.1.1.1.1.1.1.1.1.2, ⟨hk.1.1.1.1.1.1.1.1.1.1.2, ⟨hk.1.1.1.1.1.1.1.1.1.2, ⟨hk.1.1.1.1.1.1.1.1.2, ⟨hk.1.1.1.1.1.1.2, ⟨hk.1.1.1.1.1.2, ⟨hk.1.1.1.1.2, ⟨hk.1.1.1.2, ⟨hk.1.1.2, hk.1.2⟩⟩⟩⟩⟩⟩⟩⟩⟩))))) (Reps.one (show Kd.FK (Kd.slice 96 (Kd.int .u64)) _ _ t334 [.slice Ao43 t334.length co43] from (Kd.FK_slice_mk (Kd.R_reads' (Kd.R_mono (ok' := (fun k_ => nb k_ (.slice Ao22 t296.length co22) ∧ nb k_ (.slice Ao25 t297.length co25) ∧ nb k_ (.slice Ao23 t302.length co23) ∧ nb k_ (.slice Ao26 t303.length co26) ∧ nb k_ (.slice Ao37 t311.length co37) ∧ nb k_ (.slice Ao30 t314.length co30) ∧ nb k_ (.slice Ao31 t317.length co31) ∧ nb k_ (.slice Ao33 t320.length co33) ∧ nb k_ (.slice Ao36 t323.length co36) ∧ nb k_ (.slice Ao39 t327.length co39))) (HO336.out) (fun k_ hk => ⟨hk.1.1.1.1.1.1.1.1.1.1.1.2, ⟨hk.1.1.1.1.1.1.1.1.1.1.2, ⟨hk.1.1.1.1.1.1.1.1.1.2, ⟨hk.1.1.1.1.1.1.1.1.2, ⟨hk.1.1.1.1.1.1.2, ⟨hk.1.1.1.1.1.2, ⟨hk.1.1.1.1.2, ⟨hk.1.1.1.2, ⟨hk.1.1.2, hk.1.2⟩⟩⟩⟩⟩⟩⟩⟩⟩))).2.1 (Kd.R_F (Kd.R_mono (ok' := (fun k_ => nb k_ (.slice Ao22 t296.length co22) ∧ nb k_ (.slice Ao25 t297.length co25) ∧ nb k_ (.slice Ao23 t302.length co23) ∧ nb k_ (.slice Ao26 t303.length co26) ∧ nb k_ (.slice Ao37 t311.length co37) ∧ nb k_ (.slice Ao30 t314.length co30) ∧ nb k_ (.slice Ao31 t317.length co31) ∧ nb k_ (.slice Ao33 t320.length co33) ∧ nb k_ (.slice Ao36 t323.length co36) ∧ nb k_ (.slice Ao39 t327.length co39))) (HO336.out) (fun k_ hk => ⟨hk.1.1.1.1.1.1.1.1.1.1.1.2, ⟨hk.1.1.1.1.1.1.1.1.1.1.2, ⟨hk.1.1.1.1.1.1.1.1.1.2, ⟨hk.1.1.1.1.1.1.1.1.2, ⟨hk.1.1.1.1.1.1.2, ⟨hk.1.1.1.1.1.2, ⟨hk.1.1.1.1.2, ⟨hk.1.1.1.2, ⟨hk.1.1.2, hk.1.2⟩⟩⟩⟩⟩⟩⟩⟩⟩))))) (Reps.none _ _))))); intro v338 w44 ho45 hb hg_ hnew_; clear hg_ hnew_; (first | rw [← Ny337.out] at ho45 | (simp only [Int.reduceToNat] at ho45; rw [← Ny337.out] at ho45)); replace HO299 := Aside0.mk (Kd.R_below (Kd.Rx HO299.out) hb); replace HO301 := Aside0.mk (Kd.R_below (Kd.Rx HO301.out) hb); replace HO305 := Aside0.mk (Kd.R_below (Kd.Rx HO305.out) hb); replace HO307 := Aside0.mk (Kd.R_below (Kd.Rx HO307.out) hb); replace HO313 := Aside0.mk (Kd.R_below (Kd.Rx HO313.out) hb); replace HO316 := Aside0.mk (Kd.R_below (Kd.Rx HO316.out) hb); replace HO319 := Aside0.mk (Kd.R_below (Kd.Rx HO319.out) hb); replace HO322 := Aside0.mk (Kd.R_below (Kd.Rx HO322.out) hb); replace HO326 := Aside0.mk (Kd.R_below (Kd.Rx HO326.out) hb); replace HO330 := Aside0.mk (Kd.R_below (Kd.Rx HO330.out) hb); have HO339 := Aside0.mk (Kd.N_lower ho45 (below_size (Bx HB.out))); replace HB := Aside0.mk (below_step (Bx HB.out) hb); clear HO310 HO333 HO336; clear hb ho45; obtain ⟨Ao46, co46, eo46⟩ := Kd.N_slice HO339.out; subst eo46) | ((with_reducible refine gate_callee (f := 143) rfl ?_); refine goesx (some 75) Try.func143 #[.slice Ao46 y337.length co46] ?_; (with_reducible refine (nat_Sum.calls k _ _ y337 t340 _ ?side1 ?side2 A19.out).mono ?_); (case side1 => exact Kd.Cx (Kd.N_reads' HO339.out).2.2); (case side2 => exact (Kd.N_reads' HO339.out).2.1); rintro e w47 ⟨v341, rfl, ho0, hb⟩; refine ⟨_, rfl, ?_⟩; replace HO339 := Aside0.mk (Kd.N_elder' (by (with_reducible repeat (first | apply Kd.N_alloc | apply Kd.N_drewN | apply Kd.N_drew)); exact HO339.out) (Kd.R_base ho0) hb); have HO342 := Aside0.mk (Kd.R_lower (Kd.R_new' (Kd.R_new' (Kd.R_new' (Kd.R_new' (Kd.R_new' (Kd.R_new' (Kd.R_new' (Kd.R_new' (Kd.R_new' (Kd.R_new' ho0 (Kd.R_lt (Kd.Rx HO299.out))) (Kd.R_lt (Kd.Rx HO301.out))) (Kd.R_lt (Kd.Rx HO305.out))) (Kd.R_lt (Kd.Rx HO307.out))) (Kd.R_lt (Kd.Rx HO313.out))) (Kd.R_lt (Kd.Rx HO316.out))) (Kd.R_lt (Kd.Rx HO319.out))) (Kd.R_lt (Kd.Rx HO322.out))) (Kd.R_lt (Kd.Rx HO326.out))) (Kd.R_lt (Kd.Rx HO330.out))) (below_size (Bx HB.out))); replace HO299 := Aside0.mk (Kd.R_elder' (Kd.Rx HO299.out) (Kd.R_base ho0) hb); replace HO301 := Aside0.mk (Kd.R_elder' (Kd.Rx HO301.out) (Kd.R_base ho0) hb); replace HO305 := Aside0.mk (Kd.R_elder' (Kd.Rx HO305.out) (Kd.R_base ho0) hb); replace HO307 := Aside0.mk (Kd.R_elder' (Kd.Rx HO307.out) (Kd.R_base ho0) hb); replace HO313 := Aside0.mk (Kd.R_elder' (Kd.Rx HO313.out) (Kd.R_base ho0) hb); replace HO316 := Aside0.mk (Kd.R_elder' (Kd.Rx HO316.out) (Kd.R_base ho0) hb); replace HO319 := Aside0.mk (Kd.R_elder' (Kd.Rx HO319.out) (Kd.R_base ho0) hb); replace HO322 := Aside0.mk (Kd.R_elder' (Kd.Rx HO322.out) (Kd.R_base ho0) hb); replace HO326 := Aside0.mk (Kd.R_elder' (Kd.Rx HO326.out) (Kd.R_base ho0) hb); replace HO330 := Aside0.mk (Kd.R_elder' (Kd.Rx HO330.out) (Kd.R_base ho0) hb); replace HB := Aside0.mk (below_step (Bx HB.out) hb); (try clear hb); (try clear hb2); (try clear hk); (try clear hi); (try clear ho0)))
  go_ret
  exact ⟨_, by first | rfl | (simp only [u64_u32_] <;> rfl) | (simp [errW_none, errW_some] <;> rfl) | (simp only [← hji3, ← hji7]; first | rfl | (simp [errW_none, errW_some] <;> rfl)) | (simp [*, errW_none, errW_some] <;> rfl), Kd.Rm HO342.out, Bx HB.out⟩
set_option maxHeartbeats 8000000 in
set_option maxRecDepth 100000 in
theorem mul_Mul.calls (k : Nat) (A0 : Option Addr) (c0 : Nat) (l0 : List Int) (A1 : Option Addr) (c1 : Nat) (l1 : List Int) (r : List Int) (w : World) (hr0 : Kd.C (Kd.int .u64) w A0 l0.length l0) (hc0 : l0.length ≤ c0) (hr1 : Kd.C (Kd.int .u64) w A1 l1.length l1) (hc1 : l1.length ≤ c1) (h : mul_Mul.f k l0 l1 = some r) :
  Calls Try.prog 100 #[.slice A0 l0.length c0, .slice A1 l1.length c1] w fun e w' => ∃ v0_ : Value, e = .returned (v0_) ∧ Kd.R (Kd.int .u64) 96 w' w.heap.size (fun _ => True) v0_ r ∧ Below w.heap.size w w' := by
 have HR0 := Aside0.mk hr0
 have HC0 := Aside0.mk hc0
 clear hr0 hc0
 have HR1 := Aside0.mk hr1
 have HC1 := Aside0.mk hc1
 clear hr1 hc1
 have HB := Aside0.mk (Below.refl w.heap.size w)
 have H : ((mul_Short.f k l0 l1).bind fun t343 => (some t343)) = some r := h
 clear h
 replace H := Option.bind_eq_some_iff.mp H
 obtain ⟨t343, A30, H⟩ := H
 replace H : (some t343) = some r := H
 have A3 := Aside0.mk A30
 clear A30
 obtain rfl := Option.some.inj H
 go_enter Try.func100, Try.ntmps100
 go_wp2_with (first | ((with_reducible refine gate_callee (f := 124) rfl ?_); refine goesx (some 7) Try.func124 #[.slice A0 l0.length c0, .slice A1 l1.length c1] ?_; (with_reducible refine (mul_Short.calls k _ _ l0 _ _ l1 t343 _ ?side1 ?side2 ?side3 ?side4 A3.out).mono ?_); (case side1 => exact Kd.Cx HR0.out); (case side2 => exact HC0.out); (case side3 => exact Kd.Cx HR1.out); (case side4 => exact HC1.out); rintro e w4 ⟨v344, rfl, ho0, hb⟩; refine ⟨_, rfl, ?_⟩; have HO345 := Aside0.mk (Kd.R_lower ho0 (below_size (Bx HB.out))); replace HB := Aside0.mk (below_step (Bx HB.out) hb); (try clear hb); (try clear hb2); (try clear hk); (try clear hi); (try clear ho0)))
 go_ret
 exact ⟨_, by first | rfl | (simp only [u64_u32_] <;> rfl) | (simp [errW_none, errW_some] <;> rfl) | (simp [*, errW_none, errW_some] <;> rfl), by first | exact Kd.Rx HO345.out | exact HO345.out, Bx HB.out⟩
end Go.Proofs.Ytpmbcdakpmceiaa.F

end
section
namespace Go.Proofs.Ytpmbcdakpmceiaa.F
open Go.RowKit Go.Proofs.YtpmbcdakpmceiaaW.PrintWords Go.Proofs.YtpmbcdakpmceiaaW.PrintLast Go.Proofs.YtpmbcdakpmceiaaW.PrintMore
attribute [local go_sem] max2_int min2_int max_two min_two max_three min_three max_four min_four
set_option linter.unusedVariables false
set_option linter.unusedSimpArgs false
def whole_Mul.f (k : Nat) (a0_0 : Bool) (l0_1 : List Int) (a1_0 : Bool) (l1_1 : List Int) : Option (Bool × List Int) := (mul_Mul.f k l0_1 l1_1).bind fun t349 => ((whole_Made.f k (a0_0 != a1_0) t349).bind fun bt352 => (some (bt352.1, bt352.2)))
theorem whole_Mul.mono : ∀ a0 a1 a2 a3 k, LeO (whole_Mul.f k a0 a1 a2 a3) (whole_Mul.f (k + 1) a0 a1 a2 a3) := by
 intro a0 a1 a2 a3 k
 unfold whole_Mul.f
 repeat' first
   | (with_reducible exact mul_Mul.mono _ _ _)
   | (with_reducible exact whole_Made.mono _ _ _)
   | (with_reducible exact LeO.refl _)
   | (with_reducible exact LeO.none _)
   | (with_reducible refine LeO.ite ?_ ?_)
   | (with_reducible refine LeO.bind ?_ (fun _ => ?_))
   | exact mul_Mul.mono _ _ _
   | exact whole_Made.mono _ _ _
   | exact LeO.none _
   | refine LeO.ite ?_ ?_
   | refine LeO.bind ?_ (fun _ => ?_)
def rat_up.f (k : Nat) (a0_0 : Bool) (l0_1 : List Int) (l0_2 : List Int) : Option (Bool × List Int) := (whole_Made.f k false l0_2).bind fun bt358 => (some (bt358.1, bt358.2))
theorem rat_up.mono : ∀ a0 a1 a2 k, LeO (rat_up.f k a0 a1 a2) (rat_up.f (k + 1) a0 a1 a2) := by
 intro a0 a1 a2 k
 unfold rat_up.f
 repeat' first
   | (with_reducible exact whole_Made.mono _ _ _)
   | (with_reducible exact LeO.refl _)
   | (with_reducible exact LeO.none _)
   | (with_reducible refine LeO.ite ?_ ?_)
   | (with_reducible refine LeO.bind ?_ (fun _ => ?_))
   | exact whole_Made.mono _ _ _
   | exact LeO.none _
   | refine LeO.ite ?_ ?_
   | refine LeO.bind ?_ (fun _ => ?_)
def nat_May.l0 : Nat → List Int → List Int → Int → Int → Option (Bool)
 | 0, _, _, _, _ => none
 | k + 1, x0, x5, x6, x7 => if x7 < x6 then (if 0 ≤ x7 then (if x7 < (x5.length : Int) then (if (rd x5 x7) ≥ 4294967296 then (some false) else (nat_May.l0 k x0 x5 x6 (wrap64 (x7 + 1)))) else (none)) else (none)) else (if (x0.length : Int) = 0 then (some true) else (if 0 ≤ (wrap64 ((x0.length : Int) - 1)) then (if (wrap64 ((x0.length : Int) - 1)) < (x0.length : Int) then (some ((rd x0 (wrap64 ((x0.length : Int) - 1))) != 0)) else (none)) else (none)))
def nat_May.f (k : Nat) (l0 : List Int) : Option (Bool) := nat_May.l0 k l0 l0 (l0.length : Int) 0
theorem nat_May.mono_l : ∀ k, (∀ y0 y1 y2 y3, LeO (nat_May.l0 k y0 y1 y2 y3) (nat_May.l0 (k + 1) y0 y1 y2 y3))
 | 0 => fun _ _ _ _ r h => by simp [nat_May.l0] at h
 | k + 1 => by
  have ih0 := nat_May.mono_l k
  ·
   intro y0 y1 y2 y3
   unfold nat_May.l0
   repeat' first
   | (with_reducible exact ih0 _ _ _ _)
   | (with_reducible exact LeO.refl _)
   | (with_reducible exact LeO.none _)
   | (with_reducible refine LeO.ite ?_ ?_)
   | (with_reducible refine LeO.bind ?_ (fun _ => ?_))
   | exact ih0 _ _ _ _
   | exact LeO.none _
   | refine LeO.ite ?_ ?_
   | refine LeO.bind ?_ (fun _ => ?_)
theorem nat_May.mono : ∀ a0 k, LeO (nat_May.f k a0) (nat_May.f (k + 1) a0) := by
 intro a0 k
 have ih0 := nat_May.mono_l k
 unfold nat_May.f
 repeat' first
   | (with_reducible exact ih0 _ _ _ _)
   | (with_reducible exact LeO.refl _)
   | (with_reducible exact LeO.none _)
   | (with_reducible refine LeO.ite ?_ ?_)
   | (with_reducible refine LeO.bind ?_ (fun _ => ?_))
   | exact ih0 _ _ _ _
   | exact LeO.none _
   | refine LeO.ite ?_ ?_
   | refine LeO.bind ?_ (fun _ => ?_)
def limb_Div.f (a0 : Int) (a1 : Int) (a2 : Int) : Option (Int × Int × Int) := if (Go.bits .and .u64 a2 4294967295) = 0 then (some (0, 0, 3)) else (if (Go.bits .and .u64 a0 4294967295) ≥ (Go.bits .and .u64 a2 4294967295) then (some (0, 0, 2)) else (some (IntKind.u64.wrap (Int.tdiv (Go.bits .or .u64 (IntKind.u64.wrap ((Go.bits .and .u64 a0 4294967295) * 4294967296)) (Go.bits .and .u64 a1 4294967295)) (Go.bits .and .u64 a2 4294967295)), Int.tmod (Go.bits .or .u64 (IntKind.u64.wrap ((Go.bits .and .u64 a0 4294967295) * 4294967296)) (Go.bits .and .u64 a1 4294967295)) (Go.bits .and .u64 a2 4294967295), 0)))
def divide_Small.l0 : Nat → List Int → Int → List Int → Int → Int → Int → Option (List Int × Int × Int)
 | 0, _, _, _, _, _, _ => none
 | k + 1, x0, x1, x7, x8, x20, x21 => if x21 < x20 then (if 0 ≤ (wrap64 ((wrap64 ((x0.length : Int) - 1)) - x21)) then (if (wrap64 ((wrap64 ((x0.length : Int) - 1)) - x21)) < (x0.length : Int) then ((limb_Div.f x8 (rd x0 (wrap64 ((wrap64 ((x0.length : Int) - 1)) - x21))) x1).bind fun bt368 => (if (wrap64 ((wrap64 ((x0.length : Int) - 1)) - x21)) < (x7.length : Int) then (divide_Small.l0 k x0 x1 (x7.set ((wrap64 ((wrap64 ((x0.length : Int) - 1)) - x21)) : Int).toNat bt368.1) bt368.2.1 x20 (wrap64 (x21 + 1))) else (none))) else (none)) else (none)) else ((nat_Make.f k x7).bind fun bt372 => (some (bt372.1, x8, 0)))
def divide_Small.f (k : Nat) (l0 : List Int) (a1 : Int) : Option (List Int × Int × Int) := if (Int.tmod a1 4294967296) = 0 then (some (([] : List Int), 0, 3)) else (if 0 ≤ (l0.length : Int) then (if ((l0.length : Int) : Int).toNat ≤ 35184372088832 then (divide_Small.l0 k l0 a1 (List.replicate ((l0.length : Int) : Int).toNat 0) 0 (l0.length : Int) 0) else (none)) else (none))
theorem divide_Small.mono_l : ∀ k, (∀ y0 y1 y2 y3 y4 y5, LeO (divide_Small.l0 k y0 y1 y2 y3 y4 y5) (divide_Small.l0 (k + 1) y0 y1 y2 y3 y4 y5))
 | 0 => fun _ _ _ _ _ _ r h => by simp [divide_Small.l0] at h
 | k + 1 => by
  have ih0 := divide_Small.mono_l k
  ·
   intro y0 y1 y2 y3 y4 y5
   unfold divide_Small.l0
   repeat' first
   | (with_reducible exact ih0 _ _ _ _ _ _)
   | (with_reducible exact nat_Make.mono _ _)
   | (with_reducible exact LeO.refl _)
   | (with_reducible exact LeO.none _)
   | (with_reducible refine LeO.ite ?_ ?_)
   | (with_reducible refine LeO.bind ?_ (fun _ => ?_))
   | exact ih0 _ _ _ _ _ _
   | exact nat_Make.mono _ _
   | exact LeO.none _
   | refine LeO.ite ?_ ?_
   | refine LeO.bind ?_ (fun _ => ?_)
theorem divide_Small.mono : ∀ a0 a1 k, LeO (divide_Small.f k a0 a1) (divide_Small.f (k + 1) a0 a1) := by
 intro a0 a1 k
 have ih0 := divide_Small.mono_l k
 unfold divide_Small.f
 repeat' first
   | (with_reducible exact ih0 _ _ _ _ _ _)
   | (with_reducible exact nat_Make.mono _ _)
   | (with_reducible exact LeO.refl _)
   | (with_reducible exact LeO.none _)
   | (with_reducible refine LeO.ite ?_ ?_)
   | (with_reducible refine LeO.bind ?_ (fun _ => ?_))
   | exact ih0 _ _ _ _ _ _
   | exact nat_Make.mono _ _
   | exact LeO.none _
   | refine LeO.ite ?_ ?_
   | refine LeO.bind ?_ (fun _ => ?_)
def limb_Bits.l0 : Nat → Int → Int → Int → Option (Int)
 | 0, _, _, _ => none
 | k + 1, x0, x3, x5 => if x5 < 32 then (if 0 ≤ x5 then (if (Go.bits .and .u64 (shr .u64 x0 x5) 1) = 1 then (limb_Bits.l0 k x0 (wrap64 (x5 + 1)) (wrap64 (x5 + 1))) else (limb_Bits.l0 k x0 x3 (wrap64 (x5 + 1)))) else (none)) else (some x3)
def limb_Bits.f (k : Nat) (a0 : Int) : Option (Int) := limb_Bits.l0 k a0 0 0
theorem limb_Bits.mono_l : ∀ k, (∀ y0 y1 y2, LeO (limb_Bits.l0 k y0 y1 y2) (limb_Bits.l0 (k + 1) y0 y1 y2))
 | 0 => fun _ _ _ r h => by simp [limb_Bits.l0] at h
 | k + 1 => by
  have ih0 := limb_Bits.mono_l k
  ·
   intro y0 y1 y2
   unfold limb_Bits.l0
   repeat' first
   | (with_reducible exact ih0 _ _ _)
   | (with_reducible exact LeO.refl _)
   | (with_reducible exact LeO.none _)
   | (with_reducible refine LeO.ite ?_ ?_)
   | (with_reducible refine LeO.bind ?_ (fun _ => ?_))
   | exact ih0 _ _ _
   | exact LeO.none _
   | refine LeO.ite ?_ ?_
   | refine LeO.bind ?_ (fun _ => ?_)
theorem limb_Bits.mono : ∀ a0 k, LeO (limb_Bits.f k a0) (limb_Bits.f (k + 1) a0) := by
 intro a0 k
 have ih0 := limb_Bits.mono_l k
 unfold limb_Bits.f
 repeat' first
   | (with_reducible exact ih0 _ _ _)
   | (with_reducible exact LeO.refl _)
   | (with_reducible exact LeO.none _)
   | (with_reducible refine LeO.ite ?_ ?_)
   | (with_reducible refine LeO.bind ?_ (fun _ => ?_))
   | exact ih0 _ _ _
   | exact LeO.none _
   | refine LeO.ite ?_ ?_
   | refine LeO.bind ?_ (fun _ => ?_)
def nat_shift.f (a0 : Int) : Option (Int) := if a0 < 0 then (some 2) else (if a0 > 100000 then (some 2) else (some 0))
end Go.Proofs.Ytpmbcdakpmceiaa.F

end
section
namespace Go.Proofs.Ytpmbcdakpmceiaa.F
open Go.RowKit Go.Proofs.YtpmbcdakpmceiaaW.PrintWords Go.Proofs.YtpmbcdakpmceiaaW.PrintLast Go.Proofs.YtpmbcdakpmceiaaW.PrintMore
attribute [local go_sem] max2_int min2_int max_two min_two max_three min_three max_four min_four
set_option linter.unusedVariables false
set_option linter.unusedSimpArgs false
def whole_Mul.T1 : Bool × List (List Nat × List Nat) := (true, [([], []), ([0], [0]), ([], []), ([2], [2]), ([1, 3], [1, 3]), ([], []), ([5], [5]), ([], []), ([7], [7]), ([6, 8], [6, 8]), ([4, 9, 9], [4, 9]), ([10, 10, 0, 1, 2, 3, 4, 5, 6, 7, 8, 9, 10], [10])])
def whole_Mul.B1 : List Nat := [0, 1, 0, 4, 15, 0, 32, 0, 128, 480, 1023, 2047]
theorem whole_Mul.tab1 : rtab .any (opsOf Try.f65 1) = whole_Mul.T1 := by kernel_rfl
theorem whole_Mul.bits1 : waitsOk whole_Mul.T1.2 whole_Mul.B1 = true := by kernel_rfl
set_option maxHeartbeats 8000000 in
set_option maxRecDepth 100000 in
theorem whole_Mul.calls (k : Nat) (a0_0 : Bool) (A0_1 : Option Addr) (c0_1 : Nat) (l0_1 : List Int) (a1_0 : Bool) (A1_1 : Option Addr) (c1_1 : Nat) (l1_1 : List Int) (r1 : Bool) (r2 : List Int) (w : World) (hr0_1 : Kd.C (Kd.int .u64) w A0_1 l0_1.length l0_1) (hc0_1 : l0_1.length ≤ c0_1) (hr1_1 : Kd.C (Kd.int .u64) w A1_1 l1_1.length l1_1) (hc1_1 : l1_1.length ≤ c1_1) (h : whole_Mul.f k a0_0 l0_1 a1_0 l1_1 = some (r1, r2)) :
  Calls Try.prog 65 #[.agg #[.bool a0_0, .slice A0_1 l0_1.length c0_1], .agg #[.bool a1_0, .slice A1_1 l1_1.length c1_1]] w fun e w' => ∃ v1_ : Value, e = .returned (.agg #[.bool r1, v1_]) ∧ Kd.R (Kd.int .u64) 96 w' w.heap.size (fun _ => True) v1_ r2 ∧ Below w.heap.size w w' := by
 have hu32 := Try.underlying32
 have HR0_1 := Aside0.mk hr0_1
 have HC0_1 := Aside0.mk hc0_1
 clear hr0_1 hc0_1
 have HR1_1 := Aside0.mk hr1_1
 have HC1_1 := Aside0.mk hc1_1
 clear hr1_1 hc1_1
 have HB := Aside0.mk (Below.refl w.heap.size w)
 have H : ((mul_Mul.f k l0_1 l1_1).bind fun t349 => ((whole_Made.f k (a0_0 != a1_0) t349).bind fun bt352 => (some (bt352.1, bt352.2)))) = some (r1, r2) := h
 clear h
 replace H := Option.bind_eq_some_iff.mp H
 obtain ⟨t349, A30, H⟩ := H
 replace H : ((whole_Made.f k (a0_0 != a1_0) t349).bind fun bt352 => (some (bt352.1, bt352.2))) = some (r1, r2) := H
 have A3 := Aside0.mk A30
 clear A30
 replace H := Option.bind_eq_some_iff.mp H
 obtain ⟨⟨t352, t353⟩, A40, H⟩ := H
 replace H : (some (t352, t353)) = some (r1, r2) := H
 have A4 := Aside0.mk A40
 clear A40
 simp only [Option.some.injEq, Prod.mk.injEq] at H
 obtain ⟨rfl, rfl⟩ := H
 go_enter Try.func65, Try.ntmps65
 try go_wp2_with (first | ((with_reducible refine gate_dst (N := 2) rfl ?_); refine box_event ?hg (N := 2) ?hd (cs := #[.bool a0_0, .slice A0_1 l0_1.length c0_1]) (t := 32) ?hr ?_; (case hd => rfl); (case hg => rfl); (case hr => first | (go_simp; done) | (go_simp; rfl)); intro gb346 hg w5 hbox hb; have BK346 := Aside0.mk (hbox); have GW346 := Aside0.mk ((by rw [hg]; exact (below_size (Bx HB.out)) : w.heap.size ≤ gb346)); have GE346 := Aside0.mk ((by rw [hg]; exact (below_size (Bx HB.out)) : w.heap.size ≤ gb346)); replace HB := Aside0.mk (below_step (Bx HB.out) hb); clear hb hbox hg) | ((with_reducible refine gate_dst (N := 3) rfl ?_); refine box_event ?hg (N := 3) ?hd (cs := #[.bool a1_0, .slice A1_1 l1_1.length c1_1]) (t := 32) ?hr ?_; (case hd => rfl); (case hg => rfl); (case hr => first | (go_simp; done) | (go_simp; rfl)); intro gb347 hg w6 hbox hb; have n0_ := Aside0.mk (blk_below (Kx BK346.out) hb); have n1_ := Aside0.mk (below_step (Bs) hb); have n2_ := Aside0.mk (hbox); have n3_ := Aside0.mk ((by rw [hg]; exact (below_size (Bs)) : w.heap.size ≤ gb347)); have n4_ := Aside0.mk ((by rw [hg]; exact (below_size (Bs)) : w.heap.size ≤ gb347)); have n5_ := Aside0.mk ((by rw [hg]; exact Nat.ne_of_lt (blk_lt (Kx BK346.out)) : gb346 ≠ gb347)); have n6_ := Aside0.mk ((by rw [hg]; exact Nat.ne_of_gt (blk_lt (Kx BK346.out)) : gb347 ≠ gb346)); clear BK346; clear HB; have BK346 := n0_; have HB := n1_; have BK347 := n2_; have GW347 := n3_; have GE347 := n4_; have NB346_347 := n5_; have NB347_346 := n6_; clear n0_ n1_ n2_ n3_ n4_ n5_ n6_; clear hb hbox hg) | ((with_reducible refine gate_dst (N := 4) rfl ?_); refine box_event ?hg (N := 4) ?hd (cs := #[.bool false, .slice none 0 0]) (t := 32) ?hr ?_; (case hd => rfl); (case hg => rfl); (case hr => first | (go_simp; done) | (go_simp; rfl)); intro gb348 hg w7 hbox hb; have n0_ := Aside0.mk (blk_below (Kx BK346.out) hb); have n1_ := Aside0.mk (blk_below (Kx BK347.out) hb); have n2_ := Aside0.mk (below_step (Bs) hb); have n3_ := Aside0.mk (hbox); have n4_ := Aside0.mk ((by rw [hg]; exact (below_size (Bs)) : w.heap.size ≤ gb348)); have n5_ := Aside0.mk ((by rw [hg]; exact (below_size (Bs)) : w.heap.size ≤ gb348)); have n6_ := Aside0.mk ((by rw [hg]; exact Nat.ne_of_lt (blk_lt (Kx BK346.out)) : gb346 ≠ gb348)); have n7_ := Aside0.mk ((by rw [hg]; exact Nat.ne_of_gt (blk_lt (Kx BK346.out)) : gb348 ≠ gb346)); have n8_ := Aside0.mk ((by rw [hg]; exact Nat.ne_of_lt (blk_lt (Kx BK347.out)) : gb347 ≠ gb348)); have n9_ := Aside0.mk ((by rw [hg]; exact Nat.ne_of_gt (blk_lt (Kx BK347.out)) : gb348 ≠ gb347)); clear BK346; clear BK347; clear HB; have BK346 := n0_; have BK347 := n1_; have HB := n2_; have BK348 := n3_; have GW348 := n4_; have GE348 := n5_; have NB346_348 := n6_; have NB348_346 := n7_; have NB347_348 := n8_; have NB348_347 := n9_; clear n0_ n1_ n2_ n3_ n4_ n5_ n6_ n7_ n8_ n9_; clear hb hbox hg))
 replace BK346 := Aside0.mk (blk_drew BK346.out)
 replace BK347 := Aside0.mk (blk_drew BK347.out)
 replace BK348 := Aside0.mk (blk_drew BK348.out)
 replace HB := Aside0.mk (below_drew1 HB.out)
 refine start_ (n := 12) (S := fun w' => w'.cell? ⟨gb346, 0, none⟩ = some (.bool a0_0) ∧ w'.cell? ⟨gb346, 1, none⟩ = some (.slice A0_1 l0_1.length c0_1) ∧ w'.cell? ⟨gb347, 0, none⟩ = some (.bool a1_0) ∧ w'.cell? ⟨gb347, 1, none⟩ = some (.slice A1_1 l1_1.length c1_1)) (ds := []) #[false, false, false, false, false, false, false, false, false, false, false, false] (by kernel_rfl) rfl rfl ⟨(blk_cell BK346.out 0).trans rfl, (blk_cell BK346.out 1).trans rfl, (blk_cell BK347.out 0).trans rfl, (blk_cell BK347.out 1).trans rfl⟩ (fun hHeld => ?_); refine with_tabW whole_Mul.tab1 whole_Mul.bits1 (fun HT_ HW_ => ?_)
 generalize w7.drew = w8 at BK346 BK347 BK348 HB hHeld ⊢
 refine pure_ (i := 0) (N := some 5) (v := ?_) (a' := ?_) #[true, false, false, false, false, false, false, false, false, false, false, false] rfl rfl (any_of HT_.out (by kernel_rfl)) (fun _ _ _ h => h) (Or.inl ⟨by rfl, ?_⟩) ?_ ?_
 rotate_left
 ·
  intro w'
  go_simp
  with_reducible rfl
 rotate_left
 ·
  simp only [Act.put, List.setIfInBounds_toArray, List.set_cons_zero, List.set_cons_succ, i64_w, i32_w]
  rfl
 refine pure_ (i := 2) (N := some 7) (v := ?_) (a' := ?_) #[true, false, true, false, false, false, false, false, false, false, false, false] rfl rfl (any_of HT_.out (by kernel_rfl)) (fun _ _ _ h => h) (Or.inl ⟨by rfl, ?_⟩) ?_ ?_
 rotate_left
 ·
  intro w'
  go_simp
  with_reducible rfl
 rotate_left
 ·
  simp only [Act.put, List.setIfInBounds_toArray, List.set_cons_zero, List.set_cons_succ, i64_w, i32_w]
  rfl
 refine pure_ (i := 5) (N := some 10) (v := ?_) (a' := ?_) #[true, false, true, false, false, true, false, false, false, false, false, false] rfl rfl (any_of HT_.out (by kernel_rfl)) (fun _ _ _ h => h) (Or.inl ⟨by rfl, ?_⟩) ?_ ?_
 rotate_left
 ·
  intro w'
  go_simp
  with_reducible rfl
 rotate_left
 ·
  simp only [Act.put, List.setIfInBounds_toArray, List.set_cons_zero, List.set_cons_succ, i64_w, i32_w]
  rfl
 refine pure_ (i := 7) (N := some 12) (v := ?_) (a' := ?_) #[true, false, true, false, false, true, false, true, false, false, false, false] rfl rfl (any_of HT_.out (by kernel_rfl)) (fun _ _ _ h => h) (Or.inl ⟨by rfl, ?_⟩) ?_ ?_
 rotate_left
 ·
  intro w'
  go_simp
  with_reducible rfl
 rotate_left
 ·
  simp only [Act.put, List.setIfInBounds_toArray, List.set_cons_zero, List.set_cons_succ, i64_w, i32_w]
  rfl
 refine take_ (i := 1) (N := some 6) (v := ?_) (a' := ?_) #[true, true, true, false, false, true, false, true, false, false, false, false] rfl rfl (take_ofW HT_.out HW_.out (by kernel_rfl)) (fun _ _ _ h => h) (Or.inl ⟨by rfl, ?_⟩) hHeld ?_ ?_
 rotate_left
 ·
  rintro w' ⟨s0, s1, s2, s3⟩
  go_simp
  with_reducible rfl
 rotate_left
 ·
  simp only [Act.put, List.setIfInBounds_toArray, List.set_cons_zero, List.set_cons_succ, i64_w, i32_w]
  rfl
 refine take_ (i := 3) (N := some 8) (v := ?_) (a' := ?_) #[true, true, true, true, false, true, false, true, false, false, false, false] rfl rfl (take_ofW HT_.out HW_.out (by kernel_rfl)) (fun _ _ _ h => h) (Or.inl ⟨by rfl, ?_⟩) hHeld ?_ ?_
 rotate_left
 ·
  rintro w' ⟨s0, s1, s2, s3⟩
  go_simp
  with_reducible rfl
 rotate_left
 ·
  simp only [Act.put, List.setIfInBounds_toArray, List.set_cons_zero, List.set_cons_succ, i64_w, i32_w]
  rfl
 refine pure_ (i := 4) (N := some 9) (v := ?_) (a' := ?_) #[true, true, true, true, true, true, false, true, false, false, false, false] rfl rfl (any_of HT_.out (by kernel_rfl)) (fun _ _ _ h => h) (Or.inl ⟨by rfl, ?_⟩) ?_ ?_
 rotate_left
 ·
  intro w'
  go_simp
  with_reducible rfl
 rotate_left
 ·
  simp only [Act.put, List.setIfInBounds_toArray, List.set_cons_zero, List.set_cons_succ, i64_w, i32_w]
  rfl
 refine take_ (i := 6) (N := some 11) (v := ?_) (a' := ?_) #[true, true, true, true, true, true, true, true, false, false, false, false] rfl rfl (take_ofW HT_.out HW_.out (by kernel_rfl)) (fun _ _ _ h => h) (Or.inl ⟨by rfl, ?_⟩) hHeld ?_ ?_
 rotate_left
 ·
  rintro w' ⟨s0, s1, s2, s3⟩
  go_simp
  with_reducible rfl
 rotate_left
 ·
  simp only [Act.put, List.setIfInBounds_toArray, List.set_cons_zero, List.set_cons_succ, i64_w, i32_w]
  rfl
 refine take_ (i := 8) (N := some 13) (v := ?_) (a' := ?_) #[true, true, true, true, true, true, true, true, true, false, false, false] rfl rfl (take_ofW HT_.out HW_.out (by kernel_rfl)) (fun _ _ _ h => h) (Or.inl ⟨by rfl, ?_⟩) hHeld ?_ ?_
 rotate_left
 ·
  rintro w' ⟨s0, s1, s2, s3⟩
  go_simp
  with_reducible rfl
 rotate_left
 ·
  simp only [Act.put, List.setIfInBounds_toArray, List.set_cons_zero, List.set_cons_succ, i64_w, i32_w]
  rfl
 refine one_ (i := 9) (N := some 14) #[true, true, true, true, true, true, true, true, true, true, false, false] rfl rfl (one_of HT_.out (by kernel_rfl)) (by decide) (fun K hK => ?_)
 refine goes_ Try.func100 (by kernel_rfl) rfl #[.slice A0_1 l0_1.length c0_1, .slice A1_1 l1_1.length c1_1] (by rfl) rfl rfl (by (try simp only [List.map_toArray, List.map_cons, List.map_nil]); first | done | rfl | (simp only [List.length_drop, List.length_take]; rfl)) ?_
 with_reducible refine (mul_Mul.calls k _ _ l0_1 _ _ l1_1 t349 _ ?side1 ?side2 ?side3 ?side4 A3.out).mono ?_
 (case side1 => exact Kd.Cx (Kd.C_below HR0_1.out HB.out))
 (case side2 => exact HC0_1.out)
 (case side3 => exact Kd.Cx (Kd.C_below HR1_1.out HB.out))
 (case side4 => exact HC1_1.out)
 rintro e w9 ⟨v350, rfl, ho0, hb⟩
 refine ⟨_, rfl, ?_⟩
 have HO351 := Aside0.mk (Kd.R_lower ho0 (below_size (Bs)))
 replace BK346 := Aside0.mk (blk_below (Kx BK346.out) hb)
 replace BK347 := Aside0.mk (blk_below (Kx BK347.out) hb)
 replace BK348 := Aside0.mk (blk_below (Kx BK348.out) hb)
 replace HB := Aside0.mk (below_step (Bs) hb)
 (try clear hb)
 (try clear hb2)
 (try clear hk)
 (try clear hi)
 (try clear ho0)
 obtain ⟨Ao10, co10, eo10⟩ := Kd.R_slice HO351.out
 (first | subst eo10 | (injection eo10 with f1_ f2_ f3_; have f4_ := f1_.symm; have f5_ := f3_.symm; clear f1_ f2_ f3_; subst f4_; subst f5_))
 refine hK.out _ _ ⟨(blk_cell BK346.out 0).trans rfl, (blk_cell BK346.out 1).trans rfl, (blk_cell BK347.out 0).trans rfl, (blk_cell BK347.out 1).trans rfl⟩ (fun hHeld => ?_)
 clear hK K
 refine norm_ (a' := ?_) ?_ ?_
 rotate_left
 ·
  show Act.put _ (some 14) _ = _
  simp only [Act.put, List.setIfInBounds_toArray, List.set_cons_zero, List.set_cons_succ, i64_w, i32_w]
  rfl
 refine one_ (i := 10) (N := some 15) #[true, true, true, true, true, true, true, true, true, true, true, false] rfl rfl (one_of HT_.out (by kernel_rfl)) (by decide) (fun K hK => ?_)
 refine goes_ Try.func91 (by kernel_rfl) rfl #[.bool (a0_0 != a1_0), .slice Ao10 t349.length co10] (by rfl) rfl rfl (by (try simp only [List.map_toArray, List.map_cons, List.map_nil]); first | done | rfl | (simp only [List.length_drop, List.length_take]; rfl)) ?_
 with_reducible refine (whole_Made.calls k (a0_0 != a1_0) _ _ t349 t352 t353 _ ?side1 ?side2 A4.out).mono ?_
 (case side1 => exact Kd.Cx (Kd.R_reads' HO351.out).2.2)
 (case side2 => exact (Kd.R_reads' HO351.out).2.1)
 rintro e w11 ⟨v354, rfl, ho0, hb⟩
 refine ⟨_, rfl, ?_⟩
 have HO355 := Aside0.mk (Kd.R_lower (Kd.R_new' ho0 (Kd.R_lt (Kd.Rx HO351.out))) (below_size (Bs)))
 replace HO351 := Aside0.mk (Kd.R_elder' (Kd.Rx HO351.out) (Kd.R_base ho0) hb)
 replace BK346 := Aside0.mk (blk_below (Kx BK346.out) hb)
 replace BK347 := Aside0.mk (blk_below (Kx BK347.out) hb)
 replace BK348 := Aside0.mk (blk_below (Kx BK348.out) hb)
 replace HB := Aside0.mk (below_step (Bs) hb)
 (try clear hb)
 (try clear hb2)
 (try clear hk)
 (try clear hi)
 (try clear ho0)
 obtain ⟨Ao13, co13, eo13⟩ := Kd.R_slice HO355.out
 (first | subst eo13 | (injection eo13 with f1_ f2_ f3_; have f4_ := f1_.symm; have f5_ := f3_.symm; clear f1_ f2_ f3_; subst f4_; subst f5_))
 refine hK.out _ _ ⟨(blk_cell BK346.out 0).trans rfl, (blk_cell BK346.out 1).trans rfl, (blk_cell BK347.out 0).trans rfl, (blk_cell BK347.out 1).trans rfl⟩ (fun hHeld => ?_)
 clear hK K
 refine norm_ (a' := ?_) ?_ ?_
 rotate_left
 ·
  show Act.put _ (some 15) _ = _
  simp only [Act.put, List.setIfInBounds_toArray, List.set_cons_zero, List.set_cons_succ, i64_w, i32_w]
  rfl
 refine one_ (i := 11) (N := none) #[true, true, true, true, true, true, true, true, true, true, true, true] rfl rfl (one_of HT_.out (by kernel_rfl)) (by decide) (fun K hK => ?_)
 have hs12 : w11.cell? ⟨gb348, 0, none⟩ = some (.bool false) := (blk_cell BK348.out 0).trans rfl
 have hfs12 := blk_frozen BK348.out 0
 have hns12_0 := NB346_348.out
 have hns12_1 := NB347_348.out
 have hms12_0 := NB348_346.out
 have hms12_1 := NB348_347.out
 have hs14 : w11.cell? ⟨gb348, 1, none⟩ = some (.slice none 0 0) := (blk_cell BK348.out 1).trans rfl
 have hfs14 := blk_frozen BK348.out 1
 have hns14_0 := NB346_348.out
 have hns14_1 := NB347_348.out
 have hms14_0 := NB348_346.out
 have hms14_1 := NB348_347.out
 refine skip_ (w1 := ?_) (by rfl) rfl ?_ ?_
 rotate_left
 ·
  go_simp
  rfl
 refine hK.out _ _ ⟨((cell_far (p := ⟨gb348, _, none⟩) NB346_348.out _).trans (((cell_far (p := ⟨gb348, _, none⟩) NB346_348.out _).trans (hHeld.1)))), ((cell_far (p := ⟨gb348, _, none⟩) NB346_348.out _).trans (((cell_far (p := ⟨gb348, _, none⟩) NB346_348.out _).trans (hHeld.2.1)))), ((cell_far (p := ⟨gb348, _, none⟩) NB347_348.out _).trans (((cell_far (p := ⟨gb348, _, none⟩) NB347_348.out _).trans (hHeld.2.2.1)))), ((cell_far (p := ⟨gb348, _, none⟩) NB347_348.out _).trans (((cell_far (p := ⟨gb348, _, none⟩) NB347_348.out _).trans (hHeld.2.2.2))))⟩ (fun hHeld => ?_)
 clear hK K
 refine done_ (done_of HT_.out (by kernel_rfl)) ?_
 try go_wp2
 refine bodyPost_ret (results_cell_row rfl _ _ gb348 32 #[.bool t352, .slice Ao13 t353.length co13] (0, 0) _ rfl (by (with_reducible repeat (first | refine blk_drewN ?_ _ | refine blk_drew ?_ | refine blk_alloc ?_ _)); refine blk_put (cs := #[.bool t352, .slice none 0 0]) ?_ 1 _ rfl; (with_reducible repeat (first | refine blk_drewN ?_ _ | refine blk_drew ?_ | refine blk_alloc ?_ _)); refine blk_put (cs := #[.bool false, .slice none 0 0]) ?_ 0 _ rfl; (with_reducible repeat (first | refine blk_drewN ?_ _ | refine blk_drew ?_ | refine blk_alloc ?_ _)); exact BK348.out) Try.underlying32 rfl (by kernel_rfl)) rfl ?_
 exact ⟨_, by first | rfl | (simp only [u64_u32_] <;> rfl) | (simp [errW_none, errW_some] <;> rfl) | (simp [*, errW_none, errW_some] <;> rfl), by exact Kd.Rx (Kd.R_mono (Kd.R_far (p := ⟨gb348, 1, none⟩) (Kd.R_far (p := ⟨gb348, 0, none⟩) (Kd.R_types HO355.out BK348.out (by decide)) (fun _ hk => hk.2) (.bool t352)) (fun _ hk => hk.2) (.slice Ao13 t353.length co13)) (fun _ hk => trivial)), Bs⟩
set_option maxHeartbeats 8000000 in
set_option maxRecDepth 100000 in
theorem rat_up.calls (k : Nat) (a0_0 : Bool) (A0_1 : Option Addr) (c0_1 : Nat) (l0_1 : List Int) (A0_2 : Option Addr) (c0_2 : Nat) (l0_2 : List Int) (r1 : Bool) (r2 : List Int) (w : World) (hr0_1 : Kd.C (Kd.int .u64) w A0_1 l0_1.length l0_1) (hc0_1 : l0_1.length ≤ c0_1) (hr0_2 : Kd.C (Kd.int .u64) w A0_2 l0_2.length l0_2) (hc0_2 : l0_2.length ≤ c0_2) (h : rat_up.f k a0_0 l0_1 l0_2 = some (r1, r2)) :
  Calls Try.prog 66 #[.agg #[.bool a0_0, .slice A0_1 l0_1.length c0_1, .slice A0_2 l0_2.length c0_2]] w fun e w' => ∃ v1_ : Value, e = .returned (.agg #[.bool r1, v1_]) ∧ Kd.R (Kd.int .u64) 96 w' w.heap.size (fun _ => True) v1_ r2 ∧ Below w.heap.size w w' := by
 have hu34 := Try.underlying34
 have hu32 := Try.underlying32
 have HR0_1 := Aside0.mk hr0_1
 have HC0_1 := Aside0.mk hc0_1
 clear hr0_1 hc0_1
 have HR0_2 := Aside0.mk hr0_2
 have HC0_2 := Aside0.mk hc0_2
 clear hr0_2 hc0_2
 have HB := Aside0.mk (Below.refl w.heap.size w)
 have H : ((whole_Made.f k false l0_2).bind fun bt358 => (some (bt358.1, bt358.2))) = some (r1, r2) := h
 clear h
 replace H := Option.bind_eq_some_iff.mp H
 obtain ⟨⟨t358, t359⟩, A20, H⟩ := H
 replace H : (some (t358, t359)) = some (r1, r2) := H
 have A2 := Aside0.mk A20
 clear A20
 simp only [Option.some.injEq, Prod.mk.injEq] at H
 obtain ⟨rfl, rfl⟩ := H
 go_enter Try.func66, Try.ntmps66
 go_wp2_with (first | ((with_reducible refine gate_dst (N := 1) rfl ?_); refine box_event ?hg (N := 1) ?hd (cs := #[.bool a0_0, .slice A0_1 l0_1.length c0_1, .slice A0_2 l0_2.length c0_2]) (t := 34) ?hr ?_; (case hd => rfl); (case hg => rfl); (case hr => first | (go_simp; done) | (go_simp; rfl)); intro gb356 hg w3 hbox hb; have BK356 := Aside0.mk (hbox); have GW356 := Aside0.mk ((by rw [hg]; exact (below_size (Bx HB.out)) : w.heap.size ≤ gb356)); have GE356 := Aside0.mk ((by rw [hg]; exact (below_size (Bx HB.out)) : w.heap.size ≤ gb356)); replace HB := Aside0.mk (below_step (Bx HB.out) hb); clear hb hbox hg) | ((with_reducible refine gate_dst (N := 2) rfl ?_); refine box_event ?hg (N := 2) ?hd (cs := #[.bool false, .slice none 0 0]) (t := 32) ?hr ?_; (case hd => rfl); (case hg => rfl); (case hr => first | (go_simp; done) | (go_simp; rfl)); intro gb357 hg w4 hbox hb; have n0_ := Aside0.mk (blk_below (Kx BK356.out) hb); have n1_ := Aside0.mk (below_step (Bs) hb); have n2_ := Aside0.mk (hbox); have n3_ := Aside0.mk ((by rw [hg]; exact (below_size (Bs)) : w.heap.size ≤ gb357)); have n4_ := Aside0.mk ((by rw [hg]; exact (below_size (Bs)) : w.heap.size ≤ gb357)); have n5_ := Aside0.mk ((by rw [hg]; exact Nat.ne_of_lt (blk_lt (Kx BK356.out)) : gb356 ≠ gb357)); have n6_ := Aside0.mk ((by rw [hg]; exact Nat.ne_of_gt (blk_lt (Kx BK356.out)) : gb357 ≠ gb356)); clear BK356; clear HB; have BK356 := n0_; have HB := n1_; have BK357 := n2_; have GW357 := n3_; have GE357 := n4_; have NB356_357 := n5_; have NB357_356 := n6_; clear n0_ n1_ n2_ n3_ n4_ n5_ n6_; clear hb hbox hg; have hnb5 := NB356_357.out; have hnc5 := NB357_356.out; have hcz6_0 : w4.cell? ⟨gb356, 0, none⟩ = some (.bool a0_0) := (blk_cell BK356.out 0).trans rfl; have hcz6_1 : w4.cell? ⟨gb356, 1, none⟩ = some (.slice A0_1 l0_1.length c0_1) := (blk_cell BK356.out 1).trans rfl; have hcz6_2 : w4.cell? ⟨gb356, 2, none⟩ = some (.slice A0_2 l0_2.length c0_2) := (blk_cell BK356.out 2).trans rfl; have hfz6_0 := blk_frozen BK356.out 0; have hfz6_1 := blk_frozen BK356.out 1; have hfz6_2 := blk_frozen BK356.out 2) | ((with_reducible refine gate_callee (f := 91) rfl ?_); refine goesx (some 5) Try.func91 #[.bool false, .slice A0_2 l0_2.length c0_2] ?_; (with_reducible refine (whole_Made.calls k false _ _ l0_2 t358 t359 _ ?side1 ?side2 A2.out).mono ?_); (case side1 => exact Kd.Cx (Kd.C_below HR0_2.out HB.out)); (case side2 => exact HC0_2.out); rintro e w7 ⟨v360, rfl, ho0, hb⟩; refine ⟨_, rfl, ?_⟩; have HO361 := Aside0.mk (Kd.R_lower ho0 (below_size (Bs))); replace BK356 := Aside0.mk (blk_below (Kx BK356.out) hb); replace BK357 := Aside0.mk (blk_below (Kx BK357.out) hb); replace HB := Aside0.mk (below_step (Bs) hb); (try clear hb); (try clear hb2); (try clear hk); (try clear hi); (try clear ho0); have hcz8_0 : w7.cell? ⟨gb357, 0, none⟩ = some (.bool false) := (blk_cell BK357.out 0).trans rfl; have hcz8_1 : w7.cell? ⟨gb357, 1, none⟩ = some (.slice none 0 0) := (blk_cell BK357.out 1).trans rfl; have hfz8_0 := blk_frozen BK357.out 0; have hfz8_1 := blk_frozen BK357.out 1; obtain ⟨Ao9, co9, eo9⟩ := Kd.R_slice HO361.out; subst eo9))
 refine bodyPost_ret (results_cell_row rfl _ _ gb357 32 #[.bool t358, .slice Ao9 t359.length co9] (0, 0) _ rfl (by (with_reducible repeat (first | refine blk_drewN ?_ _ | refine blk_drew ?_ | refine blk_alloc ?_ _)); refine blk_put (cs := #[.bool t358, .slice none 0 0]) ?_ 1 _ rfl; (with_reducible repeat (first | refine blk_drewN ?_ _ | refine blk_drew ?_ | refine blk_alloc ?_ _)); refine blk_put (cs := #[.bool false, .slice none 0 0]) ?_ 0 _ rfl; (with_reducible repeat (first | refine blk_drewN ?_ _ | refine blk_drew ?_ | refine blk_alloc ?_ _)); exact BK357.out) Try.underlying32 rfl (by kernel_rfl)) rfl ?_
 exact ⟨_, by first | rfl | (simp only [u64_u32_] <;> rfl) | (simp [errW_none, errW_some] <;> rfl) | (simp [*, errW_none, errW_some] <;> rfl), by exact Kd.Rx (Kd.R_mono (Kd.R_far (p := ⟨gb357, 1, none⟩) (Kd.R_far (p := ⟨gb357, 0, none⟩) (Kd.R_types HO361.out BK357.out (by decide)) (fun _ hk => hk.2) (.bool t358)) (fun _ hk => hk.2) (.slice Ao9 t359.length co9)) (fun _ hk => trivial)), Bs⟩
set_option maxHeartbeats 8000000 in
set_option maxRecDepth 100000 in
theorem nat_May.calls (k : Nat) (A0 : Option Addr) (c0 : Nat) (l0 : List Int) (r : Bool) (w : World) (hr0 : Kd.C (Kd.int .u64) w A0 l0.length l0) (hc0 : l0.length ≤ c0) (h : nat_May.f k l0 = some r) :
  Calls Try.prog 154 #[.slice A0 l0.length c0] w fun e w' => e = .returned (.bool r) ∧ Drawn0 w w' := by
 have HR0 := Aside0.mk hr0
 have HC0 := Aside0.mk hc0
 clear hr0 hc0
 have H : (nat_May.l0 k l0 l0 (l0.length : Int) 0) = some r := h
 clear h
 have H' := Aside0.mk H
 clear H
 go_enter Try.func154, Try.ntmps154
 go_wp2
 go_loopg [7] k (fun kq v7 w' => ∃ (x7_1 : Int), v7 = .int .i64 x7_1 ∧ Aside0 (nat_May.l0 kq l0 l0 (l0.length : Int) x7_1 = some r) ∧ Aside0 (kq ≤ k) ∧ Drawn0 w w')
 case atStart => exact ⟨(0), (by first | rfl | (simp; done) | (simp [*]; done)), H', ⟨Nat.le_refl _⟩, by repeat (first | exact Drawn0.refl _ | apply Drawn0.step)⟩
 case round =>
  clear H'
  try clear c1
  obtain ⟨x7_1, rfl, HA, HK1, ⟨m1, rfl⟩⟩ := hrel
  cases gk with
  | zero => exact absurd HA.out (by simp [nat_May.l0])
  | succ k1 =>
   have H := HA.out
   clear HA
   simp only [nat_May.l0] at H
   by_cases c2 : x7_1 < (l0.length : Int)
   ·
    rw [if_pos c2] at H
    have c2b0 : decide (x7_1 < (l0.length : Int)) = true := decide_eq_true c2
    clear c2
    by_cases c3 : 0 ≤ x7_1
    ·
     rw [if_pos c3] at H
     have c3b0 : decide (0 ≤ x7_1) = true := decide_eq_true c3
     clear c3
     by_cases c4 : x7_1 < (l0.length : Int)
     ·
      rw [if_pos c4] at H
      have c4b0 : decide (x7_1 < (l0.length : Int)) = true := decide_eq_true c4
      clear c4
      by_cases c5 : (rd l0 x7_1) ≥ 4294967296
      ·
       rw [if_pos c5] at H
       have c5b0 : decide (4294967296 ≤ (rd l0 x7_1)) = true := decide_eq_true c5
       clear c5
       obtain rfl := Option.some.inj H
       have p362 : 0 ≤ (x7_1 : Int) := tx
       have q362 : x7_1 < (l0.length : Int) := tx
       obtain ⟨ad362, e362, hx362_0⟩ := Kd.at_int HR0.out x7_1 p362 q362
       cases e362
       replace p362 := eq_true p362
       replace q362 := eq_true q362
       go_wp2
       go_ret
       exact ⟨by first | rfl | (simp only [u64_u32_] <;> rfl) | (simp; done) | (simp [*]; done), by repeat (first | exact Drawn0.refl _ | apply Drawn0.step)⟩
      ·
       rw [if_neg c5] at H
       have c5b0 : decide (4294967296 ≤ (rd l0 x7_1)) = false := decide_eq_false c5
       clear c5
       have H' := Aside0.mk H
       clear H
       have p362 : 0 ≤ (x7_1 : Int) := tx
       have q362 : x7_1 < (l0.length : Int) := tx
       obtain ⟨ad362, e362, hx362_0⟩ := Kd.at_int HR0.out x7_1 p362 q362
       cases e362
       replace p362 := eq_true p362
       replace q362 := eq_true q362
       go_wp2
       go_roundg k1
       case measure => have := HK1.out; omega
       case rel => exact ⟨(wrap64 (x7_1 + 1)), (by first | rfl | (simp; done) | (simp [*]; done)), H', ⟨by have := HK1.out; omega⟩, by repeat (first | exact Drawn0.refl _ | apply Drawn0.step)⟩
     ·
      rw [if_neg c4] at H
      exact absurd H (by simp)
    ·
     rw [if_neg c3] at H
     exact absurd H (by simp)
   ·
    rw [if_neg c2] at H
    have c2b0 : decide (x7_1 < (l0.length : Int)) = false := decide_eq_false c2
    clear c2
    by_cases c6 : (l0.length : Int) = 0
    ·
     rw [if_pos c6] at H
     have c6b0 : ((l0.length : Int) == 0) = true := beq_iff_eq.mpr c6
     have c6b1 : ((l0.length : Int) != 0) = false := bne_eq_false_iff_eq.mpr c6
     clear c6
     obtain rfl := Option.some.inj H
     go_wp2
     go_ret
     exact ⟨by first | rfl | (simp only [u64_u32_] <;> rfl) | (simp; done) | (simp [*]; done), by repeat (first | exact Drawn0.refl _ | apply Drawn0.step)⟩
    ·
     rw [if_neg c6] at H
     have c6b0 : ((l0.length : Int) == 0) = false := beq_eq_false_iff_ne.mpr c6
     have c6b1 : ((l0.length : Int) != 0) = true := bne_iff_ne.mpr c6
     have c6b2 : ¬ (l0 = []) := fun h_ => c6 (by rw [h_]; rfl)
     obtain ⟨ji7, hji7⟩ : ∃ j_ : Int, (wrap64 ((l0.length : Int) - 1)) = j_ := ⟨_, rfl⟩
     replace H : (if 0 ≤ (ji7) then (if (ji7) < (l0.length : Int) then (some ((rd l0 (ji7)) != 0)) else (none)) else (none)) = some r := by first | (rw [hji7] at H; exact H) | (simp only [hji7] at H ⊢; exact H)
     have hji7w : (IntKind.i64.wrap ((l0.length : Int) - 1)) = ji7 := (i64_w _).trans hji7
     by_cases c8 : 0 ≤ (ji7)
     ·
      rw [if_pos c8] at H
      have c8b0 : decide (0 ≤ (ji7)) = true := decide_eq_true c8
      clear c8
      by_cases c9 : (ji7) < (l0.length : Int)
      ·
       rw [if_pos c9] at H
       have c9b0 : decide ((ji7) < (l0.length : Int)) = true := decide_eq_true c9
       clear c9
       obtain rfl := Option.some.inj H
       have p363 : 0 ≤ ((ji7) : Int) := tx
       have q363 : (ji7) < (l0.length : Int) := tx
       obtain ⟨ad363, e363, hx363_0⟩ := Kd.at_int HR0.out (ji7) p363 q363
       cases e363
       replace p363 := eq_true p363
       replace q363 := eq_true q363
       go_wp2
       go_ret
       exact ⟨by first | rfl | (simp only [u64_u32_] <;> rfl) | (simp; done) | (simp only [← hji7] <;> (first | rfl | simp)) | (simp [*]; done), by repeat (first | exact Drawn0.refl _ | apply Drawn0.step)⟩
      ·
       rw [if_neg c9] at H
       exact absurd H (by simp)
     ·
      rw [if_neg c8] at H
      exact absurd H (by simp)
set_option maxHeartbeats 8000000 in
set_option maxRecDepth 100000 in
theorem limb_Div.calls (a0 : Int) (a1 : Int) (a2 : Int) (r1 : Int) (r2 : Int) (r3 : Int) (w : World) (h : limb_Div.f a0 a1 a2 = some (r1, r2, r3)) :
  Calls Try.prog 158 #[.int .u64 a0, .int .u64 a1, .int .u64 a2] w fun e w' => e = .returned (.tuple #[.int .u64 r1, .int .u64 r2, .int .i64 r3]) ∧ Drawn0 w w' := by
 have H : (if (Go.bits .and .u64 a2 4294967295) = 0 then (some (0, 0, 3)) else (if (Go.bits .and .u64 a0 4294967295) ≥ (Go.bits .and .u64 a2 4294967295) then (some (0, 0, 2)) else (some (IntKind.u64.wrap (Int.tdiv (Go.bits .or .u64 (IntKind.u64.wrap ((Go.bits .and .u64 a0 4294967295) * 4294967296)) (Go.bits .and .u64 a1 4294967295)) (Go.bits .and .u64 a2 4294967295)), Int.tmod (Go.bits .or .u64 (IntKind.u64.wrap ((Go.bits .and .u64 a0 4294967295) * 4294967296)) (Go.bits .and .u64 a1 4294967295)) (Go.bits .and .u64 a2 4294967295), 0)))) = some (r1, r2, r3) := h
 clear h
 by_cases c4 : (Go.bits .and .u64 a2 4294967295) = 0
 ·
  rw [if_pos c4] at H
  have c4b0 : ((Go.bits .and .u64 a2 4294967295) == 0) = true := beq_iff_eq.mpr c4
  have c4b1 : ((Go.bits .and .u64 a2 4294967295) != 0) = false := bne_eq_false_iff_eq.mpr c4
  clear c4
  simp only [Option.some.injEq, Prod.mk.injEq] at H
  obtain ⟨rfl, rfl, rfl⟩ := H
  go_enter Try.func158, Try.ntmps158
  go_wp2
  repeat (go_quiet (fail); try go_wp2)
  go_ret3
  exact ⟨by first | rfl | (simp only [u64_u32_] <;> rfl) | (simp; done) | (simp [*]; done), by repeat (first | exact Drawn0.refl _ | apply Drawn0.step)⟩
 ·
  rw [if_neg c4] at H
  have c4b0 : ((Go.bits .and .u64 a2 4294967295) == 0) = false := beq_eq_false_iff_ne.mpr c4
  have c4b1 : ((Go.bits .and .u64 a2 4294967295) != 0) = true := bne_iff_ne.mpr c4
  by_cases c5 : (Go.bits .and .u64 a0 4294967295) ≥ (Go.bits .and .u64 a2 4294967295)
  ·
   rw [if_pos c5] at H
   have c5b0 : decide ((Go.bits .and .u64 a2 4294967295) ≤ (Go.bits .and .u64 a0 4294967295)) = true := decide_eq_true c5
   clear c5
   simp only [Option.some.injEq, Prod.mk.injEq] at H
   obtain ⟨rfl, rfl, rfl⟩ := H
   go_enter Try.func158, Try.ntmps158
   go_wp2
   repeat (go_quiet (fail); try go_wp2)
   go_ret3
   exact ⟨by first | rfl | (simp only [u64_u32_] <;> rfl) | (simp; done) | (simp [*]; done), by repeat (first | exact Drawn0.refl _ | apply Drawn0.step)⟩
  ·
   rw [if_neg c5] at H
   have c5b0 : decide ((Go.bits .and .u64 a2 4294967295) ≤ (Go.bits .and .u64 a0 4294967295)) = false := decide_eq_false c5
   clear c5
   simp only [Option.some.injEq, Prod.mk.injEq] at H
   obtain ⟨rfl, rfl, rfl⟩ := H
   go_enter Try.func158, Try.ntmps158
   go_wp2
   repeat (go_quiet (fail); try go_wp2)
   go_ret3
   exact ⟨by first | rfl | (simp only [u64_u32_] <;> rfl) | (simp; done) | (simp [*]; done), by repeat (first | exact Drawn0.refl _ | apply Drawn0.step)⟩
set_option maxHeartbeats 8000000 in
set_option maxRecDepth 100000 in
theorem divide_Small.calls (k : Nat) (A0 : Option Addr) (c0 : Nat) (l0 : List Int) (a1 : Int) (r1 : List Int) (r2 : Int) (r3 : Int) (w : World) (hr0 : Kd.C (Kd.int .u64) w A0 l0.length l0) (hc0 : l0.length ≤ c0) (h : divide_Small.f k l0 a1 = some (r1, r2, r3)) :
  Calls Try.prog 155 #[.slice A0 l0.length c0, .int .u64 a1] w fun e w' => ∃ v0_ : Value, e = .returned (.tuple #[v0_, .int .u64 r2, .int .i64 r3]) ∧ Kd.R (Kd.int .u64) 96 w' w.heap.size (fun _ => True) v0_ r1 ∧ Below w.heap.size w w' := by
 have HR0 := Aside0.mk hr0
 have HC0 := Aside0.mk hc0
 clear hr0 hc0
 have HB := Aside0.mk (Below.refl w.heap.size w)
 have H : (if (Int.tmod a1 4294967296) = 0 then (some (([] : List Int), 0, 3)) else (if 0 ≤ (l0.length : Int) then (if ((l0.length : Int) : Int).toNat ≤ 35184372088832 then (divide_Small.l0 k l0 a1 (List.replicate ((l0.length : Int) : Int).toNat 0) 0 (l0.length : Int) 0) else (none)) else (none))) = some (r1, r2, r3) := h
 clear h
 by_cases c3 : (Int.tmod a1 4294967296) = 0
 ·
  rw [if_pos c3] at H
  have c3b0 : ((Int.tmod a1 4294967296) == 0) = true := beq_iff_eq.mpr c3
  have c3b1 : ((Int.tmod a1 4294967296) != 0) = false := bne_eq_false_iff_eq.mpr c3
  clear c3
  simp only [Option.some.injEq, Prod.mk.injEq] at H
  obtain ⟨rfl, rfl, rfl⟩ := H
  go_enter Try.func155, Try.ntmps155
  go_wp2
  go_ret3
  exact ⟨_, by first | rfl | (simp only [u64_u32_] <;> rfl) | (simp [errW_none, errW_some] <;> rfl) | (simp [*, errW_none, errW_some] <;> rfl), by first | exact Kd.R_nil _ _ _ _ _ | exact Kd.N_nil _ _ _ _ _ | exact Kd.V_nil _ _ _ _ _ | exact Kd.Q_nil _ _ _ _ _ | exact Kd.S_nil _ _ _ _ _, Bx HB.out⟩
 ·
  rw [if_neg c3] at H
  have c3b0 : ((Int.tmod a1 4294967296) == 0) = false := beq_eq_false_iff_ne.mpr c3
  have c3b1 : ((Int.tmod a1 4294967296) != 0) = true := bne_iff_ne.mpr c3
  by_cases c4 : 0 ≤ (l0.length : Int)
  ·
   rw [if_pos c4] at H
   have c4b0 := eq_true c4
   have c4b1 : decide (0 ≤ (l0.length : Int)) = true := decide_eq_true c4
   clear c4
   by_cases c5 : ((l0.length : Int) : Int).toNat ≤ 35184372088832
   ·
    rw [if_pos c5] at H
    have c5b0 := eq_true c5
    have c5b1 : decide (((l0.length : Int) : Int).toNat ≤ 35184372088832) = true := decide_eq_true c5
    clear c5
    obtain ⟨y364, hy364⟩ : ∃ y_ : List Int, y_ = (List.replicate ((l0.length : Int) : Int).toNat 0) := ⟨_, rfl⟩
    replace H : (divide_Small.l0 k l0 a1 y364 0 (l0.length : Int) 0) = some (r1, r2, r3) := by first | (rw [hy364]; with_reducible exact H) | (have H2_ := (Option.bind_some _ _).symm.trans H; rw [hy364]; with_reducible exact H2_) | (have H2_ := (Option.bind_some _ _).symm.trans H; with_reducible exact H2_) | with_reducible exact H | (rw [hy364]; exact H) | exact H
    have Ny364 := Aside0.mk hy364
    clear hy364
    have H' := Aside0.mk H
    clear H
    go_enter Try.func155, Try.ntmps155
    go_wp2_with (first | ((with_reducible refine gate_dst (N := 18) rfl ?_); refine Kd.R_make (Kd.int .u64) _ 96 rfl (N := 18) rfl 29 _ _ rfl (l0.length : Int) rfl rfl Try.underlying29 (.int .u64 0) 8 info96 rfl (by decide) (by omega) 0 (ok := fun _ => True) (okp := fun _ => True) rfl (fun _ hk => hk) trivial (tx) (Nat.le_trans (Nat.mul_le_mul_right _ (tx : (l0.length : Int).toNat ≤ 35184372088832)) (by omega)) (Below.refl _ _) (Nat.le_refl _) ?_; intro v365 w6 ho7 hb hg_ hnew_; clear hg_ hnew_; (first | rw [← Ny364.out] at ho7 | (simp only [Int.reduceToNat] at ho7; rw [← Ny364.out] at ho7)); have HO366 := Aside0.mk (Kd.R_lower ho7 (below_size (Bx HB.out))); replace HB := Aside0.mk (below_step (Bx HB.out) hb); clear hb ho7))
    go_loopg [8, 21] k (fun kq v8 v21 w' => ∃ (x7_1 : List Int) (x8_1 : Int) (x21_1 : Int), v8 = .int .u64 x8_1 ∧ v21 = .int .i64 x21_1 ∧ Aside0 (divide_Small.l0 kq l0 a1 x7_1 x8_1 (l0.length : Int) x21_1 = some (r1, r2, r3)) ∧ Aside0 (kq ≤ k) ∧ Aside0 (Kd.R (Kd.int .u64) 96 w' w.heap.size (fun _ => True) v365 x7_1) ∧ Aside0 (Below w.heap.size w w'))
    case atStart => exact ⟨(y364), (0), (0), (by first | rfl | (simp; done) | (simp [*]; done)), (by first | rfl | (simp; done) | (simp [*]; done)), H', ⟨Nat.le_refl _⟩, ⟨by first | exact Kd.Rx HO366.out | exact HO366.out⟩, ⟨Bx HB.out⟩⟩
    case round =>
     clear H'
     try clear c1
     try clear p2
     try clear c3
     try clear c3b0
     try clear c3b1
     try clear c4
     try clear c4b0
     try clear c4b1
     try clear c5
     try clear c5b0
     try clear c5b1
     obtain ⟨x7_1, x8_1, x21_1, rfl, rfl, HA, HK1, HO_7, HB⟩ := hrel
     cases gk with
     | zero => exact absurd HA.out (by simp [divide_Small.l0])
     | succ k1 =>
      have H := HA.out
      clear HA
      simp only [divide_Small.l0] at H
      by_cases c8 : x21_1 < (l0.length : Int)
      ·
       rw [if_pos c8] at H
       have c8b0 : decide (x21_1 < (l0.length : Int)) = true := decide_eq_true c8
       clear c8
       obtain ⟨ji9, hji9⟩ : ∃ j_ : Int, (wrap64 ((wrap64 ((l0.length : Int) - 1)) - x21_1)) = j_ := ⟨_, rfl⟩
       replace H : (if 0 ≤ (ji9) then (if (ji9) < (l0.length : Int) then ((limb_Div.f x8_1 (rd l0 (ji9)) a1).bind fun bt368 => (if (ji9) < (x7_1.length : Int) then (divide_Small.l0 k1 l0 a1 (x7_1.set ((ji9) : Int).toNat bt368.1) bt368.2.1 (l0.length : Int) (wrap64 (x21_1 + 1))) else (none))) else (none)) else (none)) = some (r1, r2, r3) := by first | (rw [hji9] at H; exact H) | (simp only [hji9] at H ⊢; exact H)
       have hji9w : (IntKind.i64.wrap ((wrap64 ((l0.length : Int) - 1)) - x21_1)) = ji9 := (i64_w _).trans hji9
       by_cases c10 : 0 ≤ (ji9)
       ·
        rw [if_pos c10] at H
        have c10b0 : decide (0 ≤ (ji9)) = true := decide_eq_true c10
        clear c10
        by_cases c11 : (ji9) < (l0.length : Int)
        ·
         rw [if_pos c11] at H
         have c11b0 : decide ((ji9) < (l0.length : Int)) = true := decide_eq_true c11
         clear c11
         replace H := Option.bind_eq_some_iff.mp H
         obtain ⟨⟨t368, t369, t370⟩, A120, H⟩ := H
         replace H : (if (ji9) < (x7_1.length : Int) then (divide_Small.l0 k1 l0 a1 (x7_1.set ((ji9) : Int).toNat t368) t369 (l0.length : Int) (wrap64 (x21_1 + 1))) else (none)) = some (r1, r2, r3) := H
         have A12 := Aside0.mk A120
         clear A120
         by_cases c13 : (ji9) < (x7_1.length : Int)
         ·
          rw [if_pos c13] at H
          have c13b0 : decide ((ji9) < (x7_1.length : Int)) = true := decide_eq_true c13
          clear c13
          obtain ⟨y371, hy371⟩ : ∃ y_ : List Int, y_ = (x7_1.set ((ji9) : Int).toNat t368) := ⟨_, rfl⟩
          replace H : (divide_Small.l0 k1 l0 a1 y371 t369 (l0.length : Int) (wrap64 (x21_1 + 1))) = some (r1, r2, r3) := by first | (rw [hy371]; with_reducible exact H) | (have H2_ := (Option.bind_some _ _).symm.trans H; rw [hy371]; with_reducible exact H2_) | (have H2_ := (Option.bind_some _ _).symm.trans H; with_reducible exact H2_) | with_reducible exact H | (rw [hy371]; exact H) | exact H
          have Ny371 := Aside0.mk hy371
          clear hy371
          have H' := Aside0.mk H
          clear H
          have p367 : 0 ≤ ((ji9) : Int) := tx
          have q367 : (ji9) < (l0.length : Int) := tx
          obtain ⟨ad367, e367, hx367_0⟩ := Kd.at_int HR0.out (ji9) p367 q367
          cases e367
          replace hx367_0 := (HB.out.cell (World.block_lt_of_cell? w _ hx367_0)).trans hx367_0
          replace p367 := eq_true p367
          replace q367 := eq_true q367
          go_wp2_with (first | ((with_reducible refine gate_callee (f := 158) rfl ?_); refine goesL_ (some 38) rfl rfl Try.func158 (by kernel_rfl) rfl #[.int .u64 x8_1, .int .u64 (rd l0 (ji9)), .int .u64 a1] rfl (by (try simp only [List.map_toArray, List.map_cons, List.map_nil]); first | done | (simp only [hji9]; rfl) | rfl | (simp only [List.length_drop, List.length_take]; rfl)) ?_; (with_reducible refine (limb_Div.calls x8_1 (rd l0 (ji9)) a1 t368 t369 t370 _ A12.out).mono ?_); rintro e w' ⟨rfl, ⟨nd, rfl⟩⟩; refine ⟨_, rfl, ?_⟩; (try (rw [drewN_self wr]; generalize hq_ : World.drewN wr _ = wr; have n0_ : Aside0 (Kd.R (Kd.int .u64) 96 wr w.heap.size (fun _ => True) v365 x7_1) := ⟨by rw [← hq_]; exact (Kd.Rx HO_7.out)⟩; have n1_ : Aside0 (Below w.heap.size w wr) := ⟨by rw [← hq_]; exact (Bx HB.out)⟩; clear HO_7 HB hq_; have HO_7 := n0_; have HB := n1_; clear n0_ n1_)); have p14 : 0 ≤ ((ji9) : Int) := tx; have q14 : ((ji9) : Int) < ((x7_1.length : Int) : Int) := tx; obtain ⟨go14, co14, eo14, gb14, gl14, cl14, HG14⟩ := Kd.R_form HO_7.out (by omega); (first | cases eo14 | (injection eo14 with ea_ en_ ec_; (first | subst ea_ | (injection ea_ with ea_; subst ea_)); subst ec_; clear en_)); have GB14 := Aside0.mk gb14; have GG14 := Aside0.mk HG14; clear gb14 gl14 HG14; obtain ⟨hx14_0, hf14_0⟩ := Kd.R_celln 0 HO_7.out ((ji9) : Int) p14 q14; replace p14 := eq_true p14; replace q14 := eq_true q14; obtain ⟨hy15_, hz15_⟩ := Kd.R_celln 0 HO_7.out ((ji9) : Int) (tx) (tx); have HP15 := Kd.R_putg HO_7.out ((ji9) : Int) t368) | ((with_reducible refine gate_store (t := 96) (p := 42) rfl ?_); refine store_event (t := 96) (p := 42) (v := ?vo_w16) (w1 := (wr.setCell ⟨go14, ((ji9) : Int).toNat, none⟩ (.int .u64 t368))) ?hg ?ho ?hn ?hr ?_; (case ho => rfl); (case hg => rfl); (case hn => rfl); (case hr => first | (go_simp; done) | (go_simp; rfl)); intro w16 hw; have hg : wr.grownBy w16 (some go14) := (by rw [hw]; exact HP15.2); have hp_ : Kd.R (Kd.int .u64) 96 w16 w.heap.size (fun _ => True) (.slice (some ⟨go14, 0, none⟩) x7_1.length co14) y371 := (by rw [hw, Ny371.out]; exact HP15.1); clear HP15; replace HO_7 := Aside0.mk (hp_); replace HB := Aside0.mk ((by rw [hw]; exact below_set (HB.out) GB14.out : Below w.heap.size w w16)); clear hg hw hp_))
          go_roundg k1
          case measure => have := HK1.out; omega
          case rel => exact ⟨(y371), (t369), (wrap64 (x21_1 + 1)), (by first | rfl | (simp; done) | (simp [*]; done)), (by first | rfl | (simp; done) | (simp [*]; done)), H', ⟨by have := HK1.out; omega⟩, ⟨by first | exact Kd.Rx HO_7.out | exact HO_7.out⟩, ⟨Bx HB.out⟩⟩
         ·
          rw [if_neg c13] at H
          exact absurd H (by simp)
        ·
         rw [if_neg c11] at H
         exact absurd H (by simp)
       ·
        rw [if_neg c10] at H
        exact absurd H (by simp)
      ·
       rw [if_neg c8] at H
       have c8b0 : decide (x21_1 < (l0.length : Int)) = false := decide_eq_false c8
       clear c8
       replace H := Option.bind_eq_some_iff.mp H
       obtain ⟨⟨t372, t373⟩, A170, H⟩ := H
       replace H : (some (t372, x8_1, 0)) = some (r1, r2, r3) := H
       have A17 := Aside0.mk A170
       clear A170
       simp only [Option.some.injEq, Prod.mk.injEq] at H
       obtain ⟨rfl, rfl, rfl⟩ := H
       obtain ⟨Ao18, co18, eo18⟩ := Kd.R_slice HO_7.out
       subst eo18
       go_wp2_with (first | ((with_reducible refine gate_callee (f := 116) rfl ?_); refine goesx (some 46) Try.func116 #[.slice Ao18 x7_1.length co18] ?_; (with_reducible refine (nat_Make.calls k1 _ _ x7_1 t372 t373 _ ?side1 ?side2 A17.out).mono ?_); (case side1 => exact Kd.Cx (Kd.R_reads' HO_7.out).2.2); (case side2 => exact (Kd.R_reads' HO_7.out).2.1); rintro e w19 ⟨v374, rfl, ho0, hb⟩; refine ⟨_, rfl, ?_⟩; have HO375 := Aside0.mk (Kd.R_lower (Kd.R_new' ho0 (Kd.R_lt (Kd.Rx HO_7.out))) (below_size (Bx HB.out))); replace HO_7 := Aside0.mk (Kd.R_elder' (Kd.Rx HO_7.out) (Kd.R_base ho0) hb); replace HB := Aside0.mk (below_step (Bx HB.out) hb); (try clear hb); (try clear hb2); (try clear hk); (try clear hi); (try clear ho0)))
       go_ret3
       exact ⟨_, by first | rfl | (simp only [u64_u32_] <;> rfl) | (simp [errW_none, errW_some] <;> rfl) | (simp [*, errW_none, errW_some] <;> rfl), Kd.Rm HO375.out, Bx HB.out⟩
   ·
    rw [if_neg c5] at H
    exact absurd H (by simp)
  ·
   rw [if_neg c4] at H
   exact absurd H (by simp)
set_option maxHeartbeats 8000000 in
set_option maxRecDepth 100000 in
theorem limb_Bits.calls (k : Nat) (a0 : Int) (r : Int) (w : World) (h : limb_Bits.f k a0 = some r) :
  Calls Try.prog 159 #[.int .u64 a0] w fun e w' => e = .returned (.int .i64 r) ∧ Drawn0 w w' := by
 have H : (limb_Bits.l0 k a0 0 0) = some r := h
 clear h
 have H' := Aside0.mk H
 clear H
 go_enter Try.func159, Try.ntmps159
 go_wp2
 go_loopg [3, 5] k (fun kq v3 v5 w' => ∃ (x3_1 : Int) (x5_1 : Int), v3 = .int .i64 x3_1 ∧ v5 = .int .i64 x5_1 ∧ Aside0 (limb_Bits.l0 kq a0 x3_1 x5_1 = some r) ∧ Aside0 (kq ≤ k) ∧ Drawn0 w w')
 case atStart => exact ⟨(0), (0), (by first | rfl | (simp; done) | (simp [*]; done)), (by first | rfl | (simp; done) | (simp [*]; done)), H', ⟨Nat.le_refl _⟩, by repeat (first | exact Drawn0.refl _ | apply Drawn0.step)⟩
 case round =>
  clear H'
  try clear c1
  obtain ⟨x3_1, x5_1, rfl, rfl, HA, HK1, ⟨m1, rfl⟩⟩ := hrel
  cases gk with
  | zero => exact absurd HA.out (by simp [limb_Bits.l0])
  | succ k1 =>
   have H := HA.out
   clear HA
   simp only [limb_Bits.l0] at H
   by_cases c2 : x5_1 < 32
   ·
    rw [if_pos c2] at H
    have c2b0 : decide (x5_1 < 32) = true := decide_eq_true c2
    clear c2
    by_cases c3 : 0 ≤ x5_1
    ·
     rw [if_pos c3] at H
     have c3b0 := eq_true c3
     have c3b1 : decide (0 ≤ x5_1) = true := decide_eq_true c3
     clear c3
     obtain ⟨ji4, hji4⟩ : ∃ j_ : Int, (shr .u64 a0 x5_1) = j_ := ⟨_, rfl⟩
     replace H : (if (Go.bits .and .u64 (ji4) 1) = 1 then (limb_Bits.l0 k1 a0 (wrap64 (x5_1 + 1)) (wrap64 (x5_1 + 1))) else (limb_Bits.l0 k1 a0 x3_1 (wrap64 (x5_1 + 1)))) = some r := by first | (rw [hji4] at H; exact H) | (simp only [hji4] at H ⊢; exact H)
     have hji4_ : (a0 / 2 ^ min x5_1.toNat 64) = ji4 := hji4
     have hji4z : x5_1 ≤ 64 → (a0 / 2 ^ x5_1.toNat) = ji4 := shr_small hji4
     by_cases c5 : (Go.bits .and .u64 (ji4) 1) = 1
     ·
      rw [if_pos c5] at H
      have c5b0 : ((Go.bits .and .u64 (ji4) 1) == 1) = true := beq_iff_eq.mpr c5
      have c5b1 : ((Go.bits .and .u64 (ji4) 1) != 1) = false := bne_eq_false_iff_eq.mpr c5
      clear c5
      have H' := Aside0.mk H
      clear H
      go_wp2
      go_roundg k1
      case measure => have := HK1.out; omega
      case rel => exact ⟨(wrap64 (x5_1 + 1)), (wrap64 (x5_1 + 1)), (by first | rfl | (simp; done) | (simp [*]; done)), (by first | rfl | (simp; done) | (simp [*]; done)), H', ⟨by have := HK1.out; omega⟩, by repeat (first | exact Drawn0.refl _ | apply Drawn0.step)⟩
     ·
      rw [if_neg c5] at H
      have c5b0 : ((Go.bits .and .u64 (ji4) 1) == 1) = false := beq_eq_false_iff_ne.mpr c5
      have c5b1 : ((Go.bits .and .u64 (ji4) 1) != 1) = true := bne_iff_ne.mpr c5
      have H' := Aside0.mk H
      clear H
      go_wp2
      go_roundg k1
      case measure => have := HK1.out; omega
      case rel => exact ⟨(x3_1), (wrap64 (x5_1 + 1)), (by first | rfl | (simp; done) | (simp [*]; done)), (by first | rfl | (simp; done) | (simp [*]; done)), H', ⟨by have := HK1.out; omega⟩, by repeat (first | exact Drawn0.refl _ | apply Drawn0.step)⟩
    ·
     rw [if_neg c3] at H
     exact absurd H (by simp)
   ·
    rw [if_neg c2] at H
    have c2b0 : decide (x5_1 < 32) = false := decide_eq_false c2
    clear c2
    obtain rfl := Option.some.inj H
    go_wp2
    go_ret
    exact ⟨by first | rfl | (simp only [u64_u32_] <;> rfl) | (simp; done) | (simp [*]; done), by repeat (first | exact Drawn0.refl _ | apply Drawn0.step)⟩
set_option maxHeartbeats 8000000 in
set_option maxRecDepth 100000 in
theorem nat_shift.calls (a0 : Int) (r : Int) (w : World) (h : nat_shift.f a0 = some r) :
  Calls Try.prog 165 #[.int .i64 a0] w fun e w' => e = .returned (.int .i64 r) ∧ Drawn0 w w' := by
 have H : (if a0 < 0 then (some 2) else (if a0 > 100000 then (some 2) else (some 0))) = some r := h
 clear h
 by_cases c2 : a0 < 0
 ·
  rw [if_pos c2] at H
  have c2b0 : decide (a0 < 0) = true := decide_eq_true c2
  clear c2
  obtain rfl := Option.some.inj H
  go_enter Try.func165, Try.ntmps165
  go_wp2
  go_ret
  exact ⟨by first | rfl | (simp only [u64_u32_] <;> rfl) | (simp; done) | (simp [*]; done), by repeat (first | exact Drawn0.refl _ | apply Drawn0.step)⟩
 ·
  rw [if_neg c2] at H
  have c2b0 : decide (a0 < 0) = false := decide_eq_false c2
  clear c2
  by_cases c3 : a0 > 100000
  ·
   rw [if_pos c3] at H
   have c3b0 : decide (100000 < a0) = true := decide_eq_true c3
   clear c3
   obtain rfl := Option.some.inj H
   go_enter Try.func165, Try.ntmps165
   go_wp2
   go_ret
   exact ⟨by first | rfl | (simp only [u64_u32_] <;> rfl) | (simp; done) | (simp [*]; done), by repeat (first | exact Drawn0.refl _ | apply Drawn0.step)⟩
  ·
   rw [if_neg c3] at H
   have c3b0 : decide (100000 < a0) = false := decide_eq_false c3
   clear c3
   obtain rfl := Option.some.inj H
   go_enter Try.func165, Try.ntmps165
   go_wp2
   go_ret
   exact ⟨by first | rfl | (simp only [u64_u32_] <;> rfl) | (simp; done) | (simp [*]; done), by repeat (first | exact Drawn0.refl _ | apply Drawn0.step)⟩
end Go.Proofs.Ytpmbcdakpmceiaa.F

end
section
namespace Go.Proofs.Ytpmbcdakpmceiaa.F
open Go.RowKit Go.Proofs.YtpmbcdakpmceiaaW.PrintWords Go.Proofs.YtpmbcdakpmceiaaW.PrintLast Go.Proofs.YtpmbcdakpmceiaaW.PrintMore
attribute [local go_sem] max2_int min2_int max_two min_two max_three min_three max_four min_four
set_option linter.unusedVariables false
set_option linter.unusedSimpArgs false
mutual
def nat_Shl.j0 : Nat → List Int → Int → Int → Bool → Option (List Int × Int)
 | 0, _, _, _, _ => none
 | k + 1, x0, x1, x6, x19 => if x19 = true then (some (([] : List Int), x6)) else (if 0 ≤ (wrap64 ((wrap64 ((x0.length : Int) + (wrap64 (Int.tdiv x1 32)))) + 1)) then (if (wrap64 ((wrap64 ((x0.length : Int) + (wrap64 (Int.tdiv x1 32)))) + 1) : Int).toNat ≤ 35184372088832 then (nat_Shl.l0 k x1 (List.replicate (wrap64 ((wrap64 ((x0.length : Int) + (wrap64 (Int.tdiv x1 32)))) + 1) : Int).toNat 0) x0 (x0.length : Int) 0) else (none)) else (none))
def nat_Shl.l0 : Nat → Int → List Int → List Int → Int → Int → Option (List Int × Int)
 | 0, _, _, _, _, _ => none
 | k + 1, x1, x7, x28, x29, x30 => if x30 < x29 then (if 0 ≤ x30 then (if x30 < (x28.length : Int) then (if 0 ≤ (Int.tmod x1 32) then (if 0 ≤ (wrap64 (x30 + (wrap64 (Int.tdiv x1 32)))) then (if (wrap64 (x30 + (wrap64 (Int.tdiv x1 32)))) < (x7.length : Int) then (if 0 ≤ (wrap64 ((wrap64 (x30 + (wrap64 (Int.tdiv x1 32)))) + 1)) then (if (wrap64 ((wrap64 (x30 + (wrap64 (Int.tdiv x1 32)))) + 1)) < (x7.length : Int) then (nat_Shl.l0 k x1 ((x7.set ((wrap64 (x30 + (wrap64 (Int.tdiv x1 32)))) : Int).toNat (Go.bits .or .u64 (rd x7 (wrap64 (x30 + (wrap64 (Int.tdiv x1 32))))) (Int.tmod (shl .u64 (rd x28 x30) (Int.tmod x1 32)) 4294967296))).set ((wrap64 ((wrap64 (x30 + (wrap64 (Int.tdiv x1 32)))) + 1)) : Int).toNat ((shl .u64 (rd x28 x30) (Int.tmod x1 32)) / 4294967296)) x28 x29 (wrap64 (x30 + 1))) else (none)) else (none)) else (none)) else (none)) else (none)) else (none)) else (none)) else ((nat_trim.f k x7).bind fun t384 => (some (t384, 0)))
end
def nat_Shl.f (k : Nat) (l0 : List Int) (a1 : Int) : Option (List Int × Int) := (nat_shift.f a1).bind fun t376 => (if t376 = 0 then (nat_Shl.j0 k l0 a1 t376 ((l0.length : Int) == 0)) else (nat_Shl.j0 k l0 a1 t376 true))
theorem nat_Shl.mono_l : ∀ k, (∀ y0 y1 y2 y3, LeO (nat_Shl.j0 k y0 y1 y2 y3) (nat_Shl.j0 (k + 1) y0 y1 y2 y3)) ∧ (∀ y0 y1 y2 y3 y4, LeO (nat_Shl.l0 k y0 y1 y2 y3 y4) (nat_Shl.l0 (k + 1) y0 y1 y2 y3 y4))
 | 0 => ⟨fun _ _ _ _ r h => by simp [nat_Shl.j0] at h, fun _ _ _ _ _ r h => by simp [nat_Shl.l0] at h⟩
 | k + 1 => by
  obtain ⟨ih0, ih1⟩ := nat_Shl.mono_l k
  refine ⟨?_, ?_⟩
  ·
   intro y0 y1 y2 y3
   unfold nat_Shl.j0
   repeat' first
   | (with_reducible exact ih0 _ _ _ _)
   | (with_reducible exact ih1 _ _ _ _ _)
   | (with_reducible exact nat_trim.mono _ _)
   | (with_reducible exact LeO.refl _)
   | (with_reducible exact LeO.none _)
   | (with_reducible refine LeO.ite ?_ ?_)
   | (with_reducible refine LeO.bind ?_ (fun _ => ?_))
   | exact ih0 _ _ _ _
   | exact ih1 _ _ _ _ _
   | exact nat_trim.mono _ _
   | exact LeO.none _
   | refine LeO.ite ?_ ?_
   | refine LeO.bind ?_ (fun _ => ?_)
  ·
   intro y0 y1 y2 y3 y4
   unfold nat_Shl.l0
   repeat' first
   | (with_reducible exact ih0 _ _ _ _)
   | (with_reducible exact ih1 _ _ _ _ _)
   | (with_reducible exact nat_trim.mono _ _)
   | (with_reducible exact LeO.refl _)
   | (with_reducible exact LeO.none _)
   | (with_reducible refine LeO.ite ?_ ?_)
   | (with_reducible refine LeO.bind ?_ (fun _ => ?_))
   | exact ih0 _ _ _ _
   | exact ih1 _ _ _ _ _
   | exact nat_trim.mono _ _
   | exact LeO.none _
   | refine LeO.ite ?_ ?_
   | refine LeO.bind ?_ (fun _ => ?_)
theorem nat_Shl.mono : ∀ a0 a1 k, LeO (nat_Shl.f k a0 a1) (nat_Shl.f (k + 1) a0 a1) := by
 intro a0 a1 k
 obtain ⟨ih0, ih1⟩ := nat_Shl.mono_l k
 unfold nat_Shl.f
 repeat' first
   | (with_reducible exact ih0 _ _ _ _)
   | (with_reducible exact ih1 _ _ _ _ _)
   | (with_reducible exact nat_trim.mono _ _)
   | (with_reducible exact LeO.refl _)
   | (with_reducible exact LeO.none _)
   | (with_reducible refine LeO.ite ?_ ?_)
   | (with_reducible refine LeO.bind ?_ (fun _ => ?_))
   | exact ih0 _ _ _ _
   | exact ih1 _ _ _ _ _
   | exact nat_trim.mono _ _
   | exact LeO.none _
   | refine LeO.ite ?_ ?_
   | refine LeO.bind ?_ (fun _ => ?_)
mutual
def divide_guess.l0 : Nat → List Int → Int → List Int → Int → Int → Int → Option (Int)
 | 0, _, _, _, _, _, _ => none
 | k + 1, x0, x1, x2, x7, x9, x10 => if x9 ≥ 4294967296 then (divide_guess.j1 k x0 x1 x2 x7 x9 x10 true) else (if 0 ≤ (wrap64 (x7 - 2)) then (if (wrap64 (x7 - 2)) < (x2.length : Int) then (if 0 ≤ (wrap64 ((wrap64 (x1 + x7)) - 2)) then (if (wrap64 ((wrap64 (x1 + x7)) - 2)) < (x0.length : Int) then (divide_guess.j1 k x0 x1 x2 x7 x9 x10 (decide ((IntKind.u64.wrap (x9 * (rd x2 (wrap64 (x7 - 2))))) > (Go.bits .or .u64 (IntKind.u64.wrap (x10 * 4294967296)) (rd x0 (wrap64 ((wrap64 (x1 + x7)) - 2))))))) else (none)) else (none)) else (none)) else (none))
def divide_guess.j1 : Nat → List Int → Int → List Int → Int → Int → Int → Bool → Option (Int)
 | 0, _, _, _, _, _, _, _ => none
 | k + 1, x0, x1, x2, x7, x9, x10, x63 => if x63 = true then (if 0 ≤ (wrap64 (x7 - 1)) then (if (wrap64 (x7 - 1)) < (x2.length : Int) then (if (IntKind.u64.wrap (x10 + (rd x2 (wrap64 (x7 - 1))))) ≥ 4294967296 then (some (IntKind.u64.wrap (x9 - 1))) else (divide_guess.l0 k x0 x1 x2 x7 (IntKind.u64.wrap (x9 - 1)) (IntKind.u64.wrap (x10 + (rd x2 (wrap64 (x7 - 1))))))) else (none)) else (none)) else (some x9)
end
def divide_guess.f (k : Nat) (l0 : List Int) (a1 : Int) (l2 : List Int) : Option (Int) := if 0 ≤ (wrap64 (a1 + (l2.length : Int))) then (if (wrap64 (a1 + (l2.length : Int))) < (l0.length : Int) then (if 0 ≤ (wrap64 ((wrap64 (a1 + (l2.length : Int))) - 1)) then (if (wrap64 ((wrap64 (a1 + (l2.length : Int))) - 1)) < (l0.length : Int) then (if 0 ≤ (wrap64 ((l2.length : Int) - 1)) then (if (wrap64 ((l2.length : Int) - 1)) < (l2.length : Int) then (if (rd l2 (wrap64 ((l2.length : Int) - 1))) = 0 then (none) else (divide_guess.l0 k l0 a1 l2 (l2.length : Int) (IntKind.u64.wrap (Int.tdiv (Go.bits .or .u64 (IntKind.u64.wrap ((rd l0 (wrap64 (a1 + (l2.length : Int)))) * 4294967296)) (rd l0 (wrap64 ((wrap64 (a1 + (l2.length : Int))) - 1)))) (rd l2 (wrap64 ((l2.length : Int) - 1))))) (Int.tmod (Go.bits .or .u64 (IntKind.u64.wrap ((rd l0 (wrap64 (a1 + (l2.length : Int)))) * 4294967296)) (rd l0 (wrap64 ((wrap64 (a1 + (l2.length : Int))) - 1)))) (rd l2 (wrap64 ((l2.length : Int) - 1)))))) else (none)) else (none)) else (none)) else (none)) else (none)) else (none)
theorem divide_guess.mono_l : ∀ k, (∀ y0 y1 y2 y3 y4 y5, LeO (divide_guess.l0 k y0 y1 y2 y3 y4 y5) (divide_guess.l0 (k + 1) y0 y1 y2 y3 y4 y5)) ∧ (∀ y0 y1 y2 y3 y4 y5 y6, LeO (divide_guess.j1 k y0 y1 y2 y3 y4 y5 y6) (divide_guess.j1 (k + 1) y0 y1 y2 y3 y4 y5 y6))
 | 0 => ⟨fun _ _ _ _ _ _ r h => by simp [divide_guess.l0] at h, fun _ _ _ _ _ _ _ r h => by simp [divide_guess.j1] at h⟩
 | k + 1 => by
  obtain ⟨ih0, ih1⟩ := divide_guess.mono_l k
  refine ⟨?_, ?_⟩
  ·
   intro y0 y1 y2 y3 y4 y5
   unfold divide_guess.l0
   repeat' first
   | (with_reducible exact ih0 _ _ _ _ _ _)
   | (with_reducible exact ih1 _ _ _ _ _ _ _)
   | (with_reducible exact LeO.refl _)
   | (with_reducible exact LeO.none _)
   | (with_reducible refine LeO.ite ?_ ?_)
   | (with_reducible refine LeO.bind ?_ (fun _ => ?_))
   | exact ih0 _ _ _ _ _ _
   | exact ih1 _ _ _ _ _ _ _
   | exact LeO.none _
   | refine LeO.ite ?_ ?_
   | refine LeO.bind ?_ (fun _ => ?_)
  ·
   intro y0 y1 y2 y3 y4 y5 y6
   unfold divide_guess.j1
   repeat' first
   | (with_reducible exact ih0 _ _ _ _ _ _)
   | (with_reducible exact ih1 _ _ _ _ _ _ _)
   | (with_reducible exact LeO.refl _)
   | (with_reducible exact LeO.none _)
   | (with_reducible refine LeO.ite ?_ ?_)
   | (with_reducible refine LeO.bind ?_ (fun _ => ?_))
   | exact ih0 _ _ _ _ _ _
   | exact ih1 _ _ _ _ _ _ _
   | exact LeO.none _
   | refine LeO.ite ?_ ?_
   | refine LeO.bind ?_ (fun _ => ?_)
theorem divide_guess.mono : ∀ a0 a1 a2 k, LeO (divide_guess.f k a0 a1 a2) (divide_guess.f (k + 1) a0 a1 a2) := by
 intro a0 a1 a2 k
 obtain ⟨ih0, ih1⟩ := divide_guess.mono_l k
 unfold divide_guess.f
 repeat' first
   | (with_reducible exact ih0 _ _ _ _ _ _)
   | (with_reducible exact ih1 _ _ _ _ _ _ _)
   | (with_reducible exact LeO.refl _)
   | (with_reducible exact LeO.none _)
   | (with_reducible refine LeO.ite ?_ ?_)
   | (with_reducible refine LeO.bind ?_ (fun _ => ?_))
   | exact ih0 _ _ _ _ _ _
   | exact ih1 _ _ _ _ _ _ _
   | exact LeO.none _
   | refine LeO.ite ?_ ?_
   | refine LeO.bind ?_ (fun _ => ?_)
def divide_at.f (l0 : List Int) (a1 : Int) : Option (Int) := if a1 ≥ (l0.length : Int) then (some 0) else (if 0 ≤ a1 then (if a1 < (l0.length : Int) then (some (rd l0 a1)) else (none)) else (none))
def divide_take.l0 : Nat → List Int → Int → List Int → Int → Int → Int → Int → Int → Option (Bool × List Int)
 | 0, _, _, _, _, _, _, _, _ => none
 | k + 1, x0, x1, x2, x3, x9, x10, x15, x16 => if x16 < x15 then ((divide_at.f x2 x16).bind fun t395 => ((limb_Mul.f x3 t395 x9 0).bind fun bt396 => (if 0 ≤ (wrap64 (x1 + x16)) then (if (wrap64 (x1 + x16)) < (x0.length : Int) then ((limb_Sub.f (rd x0 (wrap64 (x1 + x16))) bt396.1 x10).bind fun bt399 => (divide_take.l0 k (x0.set ((wrap64 (x1 + x16)) : Int).toNat bt399.1) x1 x2 x3 bt396.2 bt399.2 x15 (wrap64 (x16 + 1)))) else (none)) else (none)))) else (some (decide (x10 > 0), x0))
def divide_take.f (k : Nat) (l0 : List Int) (a1 : Int) (l2 : List Int) (a3 : Int) : Option (Bool × List Int) := divide_take.l0 k l0 a1 l2 a3 0 0 (wrap64 ((l2.length : Int) + 1)) 0
theorem divide_take.mono_l : ∀ k, (∀ y0 y1 y2 y3 y4 y5 y6 y7, LeO (divide_take.l0 k y0 y1 y2 y3 y4 y5 y6 y7) (divide_take.l0 (k + 1) y0 y1 y2 y3 y4 y5 y6 y7))
 | 0 => fun _ _ _ _ _ _ _ _ r h => by simp [divide_take.l0] at h
 | k + 1 => by
  have ih0 := divide_take.mono_l k
  ·
   intro y0 y1 y2 y3 y4 y5 y6 y7
   unfold divide_take.l0
   repeat' first
   | (with_reducible exact ih0 _ _ _ _ _ _ _ _)
   | (with_reducible exact LeO.refl _)
   | (with_reducible exact LeO.none _)
   | (with_reducible refine LeO.ite ?_ ?_)
   | (with_reducible refine LeO.bind ?_ (fun _ => ?_))
   | exact ih0 _ _ _ _ _ _ _ _
   | exact LeO.none _
   | refine LeO.ite ?_ ?_
   | refine LeO.bind ?_ (fun _ => ?_)
theorem divide_take.mono : ∀ a0 a1 a2 a3 k, LeO (divide_take.f k a0 a1 a2 a3) (divide_take.f (k + 1) a0 a1 a2 a3) := by
 intro a0 a1 a2 a3 k
 have ih0 := divide_take.mono_l k
 unfold divide_take.f
 repeat' first
   | (with_reducible exact ih0 _ _ _ _ _ _ _ _)
   | (with_reducible exact LeO.refl _)
   | (with_reducible exact LeO.none _)
   | (with_reducible refine LeO.ite ?_ ?_)
   | (with_reducible refine LeO.bind ?_ (fun _ => ?_))
   | exact ih0 _ _ _ _ _ _ _ _
   | exact LeO.none _
   | refine LeO.ite ?_ ?_
   | refine LeO.bind ?_ (fun _ => ?_)
end Go.Proofs.Ytpmbcdakpmceiaa.F

end
section
namespace Go.Proofs.Ytpmbcdakpmceiaa.F
open Go.RowKit Go.Proofs.YtpmbcdakpmceiaaW.PrintWords Go.Proofs.YtpmbcdakpmceiaaW.PrintLast Go.Proofs.YtpmbcdakpmceiaaW.PrintMore
attribute [local go_sem] max2_int min2_int max_two min_two max_three min_three max_four min_four
set_option linter.unusedVariables false
set_option linter.unusedSimpArgs false
set_option maxHeartbeats 8000000 in
set_option maxRecDepth 100000 in
theorem nat_Shl.calls (k : Nat) (A0 : Option Addr) (c0 : Nat) (l0 : List Int) (a1 : Int) (r1 : List Int) (r2 : Int) (w : World) (hr0 : Kd.C (Kd.int .u64) w A0 l0.length l0) (hc0 : l0.length ≤ c0) (h : nat_Shl.f k l0 a1 = some (r1, r2)) :
  Calls Try.prog 160 #[.slice A0 l0.length c0, .int .i64 a1] w fun e w' => ∃ v0_ : Value, e = .returned (.tuple #[v0_, .int .i64 r2]) ∧ Kd.R (Kd.int .u64) 96 w' w.heap.size (fun _ => True) v0_ r1 ∧ Below w.heap.size w w' := by
 have HR0 := Aside0.mk hr0
 have HC0 := Aside0.mk hc0
 clear hr0 hc0
 have HB := Aside0.mk (Below.refl w.heap.size w)
 have H : ((nat_shift.f a1).bind fun t376 => (if t376 = 0 then (nat_Shl.j0 k l0 a1 t376 ((l0.length : Int) == 0)) else (nat_Shl.j0 k l0 a1 t376 true))) = some (r1, r2) := h
 clear h
 replace H := Option.bind_eq_some_iff.mp H
 obtain ⟨t376, A30, H⟩ := H
 replace H : (if t376 = 0 then (nat_Shl.j0 k l0 a1 t376 ((l0.length : Int) == 0)) else (nat_Shl.j0 k l0 a1 t376 true)) = some (r1, r2) := H
 have A3 := Aside0.mk A30
 clear A30
 have HC4 := Aside0.mk H
 clear H
 go_enter Try.func160, Try.ntmps160
 go_upto_region 2 with (first | ((with_reducible refine gate_callee (f := 165) rfl ?_); refine goesx (some 12) Try.func165 #[.int .i64 a1] ?_; (with_reducible refine (nat_shift.calls a1 t376 _ A3.out).mono ?_); rintro e w' ⟨rfl, ⟨nd, rfl⟩⟩; refine ⟨_, rfl, ?_⟩))
 (try simp only [Act.put, List.setIfInBounds_toArray, List.set_cons_zero, List.set_cons_succ])
 go_cut [19] (fun v19 wc => ∃ (kq : Nat) (x19_3 : Bool), v19 = .bool x19_3 ∧ Aside0 (nat_Shl.j0 kq l0 a1 t376 x19_3 = some (r1, r2)) ∧ Aside0 (kq ≤ k) ∧ Aside0 (Below w.heap.size w wc))
 case first =>
  have H := HC4.out
  clear HC4
  by_cases c5 : t376 = 0
  ·
   rw [if_pos c5] at H
   have c5b0 : (t376 == 0) = true := beq_iff_eq.mpr c5
   have c5b1 : (t376 != 0) = false := bne_eq_false_iff_eq.mpr c5
   clear c5
   (first | rw [c5b0] | (simp only [i64_w, i32_w]; rw [c5b0]) | skip)
   have H' := Aside0.mk H
   clear H
   go_wp2
   go_meet
   case rel => exact ⟨_, (((l0.length : Int) == 0)), (by first | rfl | (simp; done) | (simp [*]; done)), H', ⟨by first | omega | exact Nat.le_refl _⟩, ⟨Bx HB.out⟩⟩
  ·
   rw [if_neg c5] at H
   have c5b0 : (t376 == 0) = false := beq_eq_false_iff_ne.mpr c5
   have c5b1 : (t376 != 0) = true := bne_iff_ne.mpr c5
   (first | rw [c5b0] | (simp only [i64_w, i32_w]; rw [c5b0]) | skip)
   have H' := Aside0.mk H
   clear H
   go_wp2
   go_meet
   case rel => exact ⟨_, (true), (by first | rfl | (simp; done) | (simp [*]; done)), H', ⟨by first | omega | exact Nat.le_refl _⟩, ⟨Bx HB.out⟩⟩
 case rest =>
  clear HC4
  try clear c1
  try clear p2
  try clear c5
  try clear c5b0
  try clear c5b1
  obtain ⟨kq, x19_3, rfl, HA, HJ3, HB⟩ := hcut
  cases kq with
  | zero => exact absurd HA.out (by simp [nat_Shl.j0])
  | succ kj3 =>
   have H := HA.out
   clear HA
   simp only [nat_Shl.j0] at H
   by_cases c6 : x19_3 = true
   ·
    subst c6
    have H1 : (some (([] : List Int), t376)) = some (r1, r2) := by rw [if_pos rfl] at H; exact H
    clear H
    have H := H1
    clear H1
    simp only [Option.some.injEq, Prod.mk.injEq] at H
    obtain ⟨rfl, rfl⟩ := H
    go_wp2
    go_ret2
    exact ⟨_, by first | rfl | (simp only [u64_u32_] <;> rfl) | (simp [errW_none, errW_some] <;> rfl) | (simp [*, errW_none, errW_some] <;> rfl), by first | exact Kd.R_nil _ _ _ _ _ | exact Kd.N_nil _ _ _ _ _ | exact Kd.V_nil _ _ _ _ _ | exact Kd.Q_nil _ _ _ _ _ | exact Kd.S_nil _ _ _ _ _, Bx HB.out⟩
   ·
    replace c6 := Bool.eq_false_iff.mpr c6
    subst c6
    have H1 : (if 0 ≤ (wrap64 ((wrap64 ((l0.length : Int) + (wrap64 (Int.tdiv a1 32)))) + 1)) then (if (wrap64 ((wrap64 ((l0.length : Int) + (wrap64 (Int.tdiv a1 32)))) + 1) : Int).toNat ≤ 35184372088832 then (nat_Shl.l0 kj3 a1 (List.replicate (wrap64 ((wrap64 ((l0.length : Int) + (wrap64 (Int.tdiv a1 32)))) + 1) : Int).toNat 0) l0 (l0.length : Int) 0) else (none)) else (none)) = some (r1, r2) := by rw [if_neg (show ¬ (false = true) by decide)] at H; exact H
    clear H
    have H := H1
    clear H1
    obtain ⟨ji7, hji7⟩ : ∃ j_ : Int, (wrap64 ((wrap64 ((l0.length : Int) + (wrap64 (Int.tdiv a1 32)))) + 1)) = j_ := ⟨_, rfl⟩
    replace H : (if 0 ≤ (ji7) then (if (ji7 : Int).toNat ≤ 35184372088832 then (nat_Shl.l0 kj3 a1 (List.replicate (ji7 : Int).toNat 0) l0 (l0.length : Int) 0) else (none)) else (none)) = some (r1, r2) := by first | (rw [hji7] at H; exact H) | (simp only [hji7] at H ⊢; exact H)
    have hji7w : (IntKind.i64.wrap ((wrap64 ((l0.length : Int) + (wrap64 (Int.tdiv a1 32)))) + 1)) = ji7 := (i64_w _).trans hji7
    by_cases c8 : 0 ≤ (ji7)
    ·
     rw [if_pos c8] at H
     have c8b0 := eq_true c8
     have c8b1 : decide (0 ≤ (ji7)) = true := decide_eq_true c8
     clear c8
     by_cases c9 : (ji7 : Int).toNat ≤ 35184372088832
     ·
      rw [if_pos c9] at H
      have c9b0 := eq_true c9
      have c9b1 : decide ((ji7 : Int).toNat ≤ 35184372088832) = true := decide_eq_true c9
      clear c9
      obtain ⟨y377, hy377⟩ : ∃ y_ : List Int, y_ = (List.replicate (ji7 : Int).toNat 0) := ⟨_, rfl⟩
      replace H : (nat_Shl.l0 kj3 a1 y377 l0 (l0.length : Int) 0) = some (r1, r2) := by first | (rw [hy377]; with_reducible exact H) | (have H2_ := (Option.bind_some _ _).symm.trans H; rw [hy377]; with_reducible exact H2_) | (have H2_ := (Option.bind_some _ _).symm.trans H; with_reducible exact H2_) | with_reducible exact H | (rw [hy377]; exact H) | exact H
      have Ny377 := Aside0.mk hy377
      clear hy377
      have H' := Aside0.mk H
      clear H
      go_wp2_with (first | ((with_reducible refine gate_dst (N := 27) rfl ?_); (try (refine gate_guard (by rfl) ?_; dsimp only)); refine Kd.R_make (Kd.int .u64) _ 96 rfl (N := 27) rfl 30 _ _ rfl ji7 rfl rfl Try.underlying30 (.int .u64 0) 8 info96 rfl (by decide) (by omega) 0 (ok := fun _ => True) (okp := fun _ => True) rfl (fun _ hk => hk) trivial (tx) (Nat.le_trans (Nat.mul_le_mul_right _ (tx : ji7.toNat ≤ 35184372088832)) (by omega)) (Below.refl _ _) (Nat.le_refl _) ?_; intro v378 w10 ho11 hb hg_ hnew_; clear hg_ hnew_; (first | rw [← Ny377.out] at ho11 | (simp only [Int.reduceToNat] at ho11; rw [← Ny377.out] at ho11)); have HO379 := Aside0.mk (Kd.R_lower ho11 (below_size (Bx HB.out))); replace HB := Aside0.mk (below_step (Bx HB.out) hb); clear hb ho11))
      go_loopg [30] kj3 (fun kq v30 w' => ∃ (x7_2 : List Int) (x30_2 : Int), v30 = .int .i64 x30_2 ∧ Aside0 (nat_Shl.l0 kq a1 x7_2 l0 (l0.length : Int) x30_2 = some (r1, r2)) ∧ Aside0 (kq ≤ kj3) ∧ Aside0 (Kd.R (Kd.int .u64) 96 w' w.heap.size (fun _ => True) v378 x7_2) ∧ Aside0 (Below w.heap.size w w'))
      case atStart => exact ⟨(y377), (0), (by first | rfl | (simp; done) | (simp [*]; done)), H', ⟨Nat.le_refl _⟩, ⟨by first | exact Kd.Rx HO379.out | exact HO379.out⟩, ⟨Bx HB.out⟩⟩
      case round =>
       clear H'
       try clear c1
       try clear p2
       try clear c5
       try clear c5b0
       try clear c5b1
       try clear c6
       try clear p6
       try clear c8
       try clear c8b0
       try clear c8b1
       try clear c9
       try clear c9b0
       try clear c9b1
       try clear p2
       obtain ⟨x7_2, x30_2, rfl, HA, HK2, HO_7, HB⟩ := hrel
       cases gk with
       | zero => exact absurd HA.out (by simp [nat_Shl.l0])
       | succ k2 =>
        have H := HA.out
        clear HA
        simp only [nat_Shl.l0] at H
        by_cases c12 : x30_2 < (l0.length : Int)
        ·
         rw [if_pos c12] at H
         have c12b0 : decide (x30_2 < (l0.length : Int)) = true := decide_eq_true c12
         clear c12
         by_cases c13 : 0 ≤ x30_2
         ·
          rw [if_pos c13] at H
          have c13b0 : decide (0 ≤ x30_2) = true := decide_eq_true c13
          clear c13
          by_cases c14 : x30_2 < (l0.length : Int)
          ·
           rw [if_pos c14] at H
           have c14b0 : decide (x30_2 < (l0.length : Int)) = true := decide_eq_true c14
           clear c14
           obtain ⟨ji15, hji15⟩ : ∃ j_ : Int, (Int.tmod a1 32) = j_ := ⟨_, rfl⟩
           replace H : (if 0 ≤ (ji15) then (if 0 ≤ (wrap64 (x30_2 + (wrap64 (Int.tdiv a1 32)))) then (if (wrap64 (x30_2 + (wrap64 (Int.tdiv a1 32)))) < (x7_2.length : Int) then (if 0 ≤ (wrap64 ((wrap64 (x30_2 + (wrap64 (Int.tdiv a1 32)))) + 1)) then (if (wrap64 ((wrap64 (x30_2 + (wrap64 (Int.tdiv a1 32)))) + 1)) < (x7_2.length : Int) then (nat_Shl.l0 k2 a1 ((x7_2.set ((wrap64 (x30_2 + (wrap64 (Int.tdiv a1 32)))) : Int).toNat (Go.bits .or .u64 (rd x7_2 (wrap64 (x30_2 + (wrap64 (Int.tdiv a1 32))))) (Int.tmod (shl .u64 (rd l0 x30_2) (ji15)) 4294967296))).set ((wrap64 ((wrap64 (x30_2 + (wrap64 (Int.tdiv a1 32)))) + 1)) : Int).toNat ((shl .u64 (rd l0 x30_2) (ji15)) / 4294967296)) l0 (l0.length : Int) (wrap64 (x30_2 + 1))) else (none)) else (none)) else (none)) else (none)) else (none)) = some (r1, r2) := by first | (rw [hji15] at H; exact H) | (simp only [hji15] at H ⊢; exact H)
           by_cases c16 : 0 ≤ (ji15)
           ·
            rw [if_pos c16] at H
            have c16b0 := eq_true c16
            have c16b1 : decide (0 ≤ (ji15)) = true := decide_eq_true c16
            clear c16
            obtain ⟨ji17, hji17⟩ : ∃ j_ : Int, (shl .u64 (rd l0 x30_2) (ji15)) = j_ := ⟨_, rfl⟩
            replace H : (if 0 ≤ (wrap64 (x30_2 + (wrap64 (Int.tdiv a1 32)))) then (if (wrap64 (x30_2 + (wrap64 (Int.tdiv a1 32)))) < (x7_2.length : Int) then (if 0 ≤ (wrap64 ((wrap64 (x30_2 + (wrap64 (Int.tdiv a1 32)))) + 1)) then (if (wrap64 ((wrap64 (x30_2 + (wrap64 (Int.tdiv a1 32)))) + 1)) < (x7_2.length : Int) then (nat_Shl.l0 k2 a1 ((x7_2.set ((wrap64 (x30_2 + (wrap64 (Int.tdiv a1 32)))) : Int).toNat (Go.bits .or .u64 (rd x7_2 (wrap64 (x30_2 + (wrap64 (Int.tdiv a1 32))))) (Int.tmod (ji17) 4294967296))).set ((wrap64 ((wrap64 (x30_2 + (wrap64 (Int.tdiv a1 32)))) + 1)) : Int).toNat ((ji17) / 4294967296)) l0 (l0.length : Int) (wrap64 (x30_2 + 1))) else (none)) else (none)) else (none)) else (none)) = some (r1, r2) := by first | (rw [hji17] at H; exact H) | (simp only [hji17] at H ⊢; exact H)
            have hji17_ : (IntKind.u64.wrap ((rd l0 x30_2) * 2 ^ min (ji15).toNat 64)) = ji17 := hji17
            have hji17z : (ji15) ≤ 64 → (IntKind.u64.wrap ((rd l0 x30_2) * 2 ^ (ji15).toNat)) = ji17 := shl_small hji17
            obtain ⟨ji18, hji18⟩ : ∃ j_ : Int, (wrap64 (x30_2 + (wrap64 (Int.tdiv a1 32)))) = j_ := ⟨_, rfl⟩
            replace H : (if 0 ≤ (ji18) then (if (ji18) < (x7_2.length : Int) then (if 0 ≤ (wrap64 ((ji18) + 1)) then (if (wrap64 ((ji18) + 1)) < (x7_2.length : Int) then (nat_Shl.l0 k2 a1 ((x7_2.set ((ji18) : Int).toNat (Go.bits .or .u64 (rd x7_2 (ji18)) (Int.tmod (ji17) 4294967296))).set ((wrap64 ((ji18) + 1)) : Int).toNat ((ji17) / 4294967296)) l0 (l0.length : Int) (wrap64 (x30_2 + 1))) else (none)) else (none)) else (none)) else (none)) = some (r1, r2) := by first | (rw [hji18] at H; exact H) | (simp only [hji18] at H ⊢; exact H)
            have hji18w : (IntKind.i64.wrap (x30_2 + (wrap64 (Int.tdiv a1 32)))) = ji18 := (i64_w _).trans hji18
            by_cases c19 : 0 ≤ (ji18)
            ·
             rw [if_pos c19] at H
             have c19b0 : decide (0 ≤ (ji18)) = true := decide_eq_true c19
             clear c19
             by_cases c20 : (ji18) < (x7_2.length : Int)
             ·
              rw [if_pos c20] at H
              have c20b0 : decide ((ji18) < (x7_2.length : Int)) = true := decide_eq_true c20
              clear c20
              obtain ⟨y382, hy382⟩ : ∃ y_ : List Int, y_ = (x7_2.set ((ji18) : Int).toNat (Go.bits .or .u64 (rd x7_2 (ji18)) (Int.tmod (ji17) 4294967296))) := ⟨_, rfl⟩
              replace H : (if 0 ≤ (wrap64 ((ji18) + 1)) then (if (wrap64 ((ji18) + 1)) < (x7_2.length : Int) then (nat_Shl.l0 k2 a1 (y382.set ((wrap64 ((ji18) + 1)) : Int).toNat ((ji17) / 4294967296)) l0 (l0.length : Int) (wrap64 (x30_2 + 1))) else (none)) else (none)) = some (r1, r2) := by first | (rw [hy382]; with_reducible exact H) | (have H2_ := (Option.bind_some _ _).symm.trans H; rw [hy382]; with_reducible exact H2_) | (have H2_ := (Option.bind_some _ _).symm.trans H; with_reducible exact H2_) | with_reducible exact H | (rw [hy382]; exact H) | exact H
              have Ny382 := Aside0.mk hy382
              clear hy382
              obtain ⟨ji22, hji22⟩ : ∃ j_ : Int, (wrap64 ((ji18) + 1)) = j_ := ⟨_, rfl⟩
              replace H : (if 0 ≤ (ji22) then (if (ji22) < (x7_2.length : Int) then (nat_Shl.l0 k2 a1 (y382.set ((ji22) : Int).toNat ((ji17) / 4294967296)) l0 (l0.length : Int) (wrap64 (x30_2 + 1))) else (none)) else (none)) = some (r1, r2) := by first | (rw [hji22] at H; exact H) | (simp only [hji22] at H ⊢; exact H)
              have hji22w : (IntKind.i64.wrap ((ji18) + 1)) = ji22 := (i64_w _).trans hji22
              by_cases c23 : 0 ≤ (ji22)
              ·
               rw [if_pos c23] at H
               have c23b0 : decide (0 ≤ (ji22)) = true := decide_eq_true c23
               clear c23
               by_cases c24 : (ji22) < (x7_2.length : Int)
               ·
                rw [if_pos c24] at H
                have c24b0 : decide ((ji22) < (x7_2.length : Int)) = true := decide_eq_true c24
                clear c24
                obtain ⟨y383, hy383⟩ : ∃ y_ : List Int, y_ = (y382.set ((ji22) : Int).toNat ((ji17) / 4294967296)) := ⟨_, rfl⟩
                replace H : (nat_Shl.l0 k2 a1 y383 l0 (l0.length : Int) (wrap64 (x30_2 + 1))) = some (r1, r2) := by first | (rw [hy383]; with_reducible exact H) | (have H2_ := (Option.bind_some _ _).symm.trans H; rw [hy383]; with_reducible exact H2_) | (have H2_ := (Option.bind_some _ _).symm.trans H; with_reducible exact H2_) | with_reducible exact H | (rw [hy383]; exact H) | exact H
                have Ny383 := Aside0.mk hy383
                clear hy383
                have H' := Aside0.mk H
                clear H
                have p380 : 0 ≤ (x30_2 : Int) := tx
                have q380 : x30_2 < (l0.length : Int) := tx
                obtain ⟨ad380, e380, hx380_0⟩ := Kd.at_int HR0.out x30_2 p380 q380
                cases e380
                replace hx380_0 := (HB.out.cell (World.block_lt_of_cell? w _ hx380_0)).trans hx380_0
                replace p380 := eq_true p380
                replace q380 := eq_true q380
                obtain ⟨Ao26, co26, eo26⟩ := Kd.R_slice HO_7.out
                subst eo26
                have p381 : 0 ≤ ((ji18) : Int) := tx
                have q381 : (ji18) < (x7_2.length : Int) := tx
                obtain ⟨ad381, e381, hx381_0⟩ := Kd.at_int (Kd.R_reads' HO_7.out).2.2 (ji18) p381 q381
                cases e381
                replace p381 := eq_true p381
                replace q381 := eq_true q381
                have p21 : 0 ≤ ((ji18) : Int) := tx
                have q21 : ((ji18) : Int) < ((x7_2.length : Int) : Int) := tx
                obtain ⟨go21, co21, eo21, gb21, gl21, cl21, HG21⟩ := Kd.R_form HO_7.out (by omega)
                (first | cases eo21 | (injection eo21 with ea_ en_ ec_; (first | subst ea_ | (injection ea_ with ea_; subst ea_)); subst ec_; clear en_))
                have GB21 := Aside0.mk gb21
                have GG21 := Aside0.mk HG21
                clear gb21 gl21 HG21
                (first | simp only [add_plain] at hx381_0 | skip)
                obtain ⟨hx21_0, hf21_0⟩ := Kd.R_celln 0 HO_7.out ((ji18) : Int) p21 q21
                replace p21 := eq_true p21
                replace q21 := eq_true q21
                have HP27 := Kd.R_putg HO_7.out ((ji18) : Int) (Go.bits .or .u64 (rd x7_2 (ji18)) (Int.tmod (ji17) 4294967296))
                go_wp2_with (first | ((with_reducible refine gate_store (t := 96) (p := 50) rfl ?_); refine store_event (t := 96) (p := 50) (v := ?vo_w28) (w1 := (wr.setCell ⟨go21, ((ji18) : Int).toNat, none⟩ (.int .u64 (Go.bits .or .u64 (rd x7_2 (ji18)) (Int.tmod (ji17) 4294967296))))) ?hg ?ho ?hn ?hr ?_; (case ho => rfl); (case hg => rfl); (case hn => rfl); (case hr => first | (go_simp; done) | (go_simp; rfl)); intro w28 hw; have hg : wr.grownBy w28 (some go21) := (by rw [hw]; exact HP27.2); have hp_ : Kd.R (Kd.int .u64) 96 w28 w.heap.size (fun _ => True) (.slice (some ⟨go21, 0, none⟩) x7_2.length co26) y382 := (by rw [hw, Ny382.out]; exact HP27.1); clear HP27; replace HO_7 := Aside0.mk (hp_); replace HB := Aside0.mk ((by rw [hw]; exact below_set (HB.out) GB21.out : Below w.heap.size w w28)); clear hg hw hp_; have p25 : 0 ≤ ((ji22) : Int) := tx; have q25 : ((ji22) : Int) < ((x7_2.length : Int) : Int) := tx; obtain ⟨hx25_0, hf25_0⟩ := Kd.R_celln 0 HO_7.out ((ji22) : Int) p25 q25; replace p25 := eq_true p25; replace q25 := eq_true q25; obtain ⟨hy29_, hz29_⟩ := Kd.R_celln 0 HO_7.out ((ji22) : Int) (tx) (tx); have HP29 := Kd.R_putg HO_7.out ((ji22) : Int) ((ji17) / 4294967296)) | ((with_reducible refine gate_store (t := 96) (p := 56) rfl ?_); refine store_event (t := 96) (p := 56) (v := ?vo_w30) (w1 := (w28.setCell ⟨go21, ((ji22) : Int).toNat, none⟩ (.int .u64 ((ji17) / 4294967296)))) ?hg ?ho ?hn ?hr ?_; (case ho => rfl); (case hg => rfl); (case hn => rfl); (case hr => first | (go_simp; done) | (go_simp; rfl)); intro w30 hw; have hg : w28.grownBy w30 (some go21) := (by rw [hw]; exact HP29.2); have hp_ : Kd.R (Kd.int .u64) 96 w30 w.heap.size (fun _ => True) (.slice (some ⟨go21, 0, none⟩) x7_2.length co26) y383 := (by rw [hw, Ny383.out]; exact HP29.1); clear HP29; replace HO_7 := Aside0.mk (hp_); replace HB := Aside0.mk ((by rw [hw]; exact below_set (HB.out) GB21.out : Below w.heap.size w w30)); clear hg hw hp_))
                go_roundg k2
                case measure => have := HJ3.out; have := HK2.out; omega
                case rel => exact ⟨(y383), (wrap64 (x30_2 + 1)), (by first | rfl | (simp; done) | (simp [*]; done)), H', ⟨by have := HJ3.out; have := HK2.out; omega⟩, ⟨by first | exact Kd.Rx HO_7.out | exact HO_7.out⟩, ⟨Bx HB.out⟩⟩
               ·
                rw [if_neg c24] at H
                exact absurd H (by simp)
              ·
               rw [if_neg c23] at H
               exact absurd H (by simp)
             ·
              rw [if_neg c20] at H
              exact absurd H (by simp)
            ·
             rw [if_neg c19] at H
             exact absurd H (by simp)
           ·
            rw [if_neg c16] at H
            exact absurd H (by simp)
          ·
           rw [if_neg c14] at H
           exact absurd H (by simp)
         ·
          rw [if_neg c13] at H
          exact absurd H (by simp)
        ·
         rw [if_neg c12] at H
         have c12b0 : decide (x30_2 < (l0.length : Int)) = false := decide_eq_false c12
         clear c12
         replace H := Option.bind_eq_some_iff.mp H
         obtain ⟨t384, A310, H⟩ := H
         replace H : (some (t384, 0)) = some (r1, r2) := H
         have A31 := Aside0.mk A310
         clear A310
         simp only [Option.some.injEq, Prod.mk.injEq] at H
         obtain ⟨rfl, rfl⟩ := H
         obtain ⟨Ao32, co32, eo32⟩ := Kd.R_slice HO_7.out
         subst eo32
         go_wp2_with (first | ((with_reducible refine gate_callee (f := 119) rfl ?_); refine goesx (some 59) Try.func119 #[.slice Ao32 x7_2.length co32] ?_; (with_reducible refine (nat_trim.calls k2 (fun k_ => some k_ = (.slice Ao32 x7_2.length co32 : Value).ownBlock) (.slice Ao32 x7_2.length co32) x7_2 t384 w _ ?side1 ?side2 A31.out).mono ?_); (case side1 => exact Bx HB.out); (case side2 => exact Kd.R_tight rfl HO_7.out); rintro e w33 ⟨v385, rfl, ho0, hb, hkp⟩; refine ⟨_, rfl, ?_⟩; have HO386 := Aside0.mk (Kd.R_mono (ok' := fun k_ => True) ho0 (fun k_ hk_ => trivial)); replace HB := Aside0.mk (hb); clear HO_7; (try clear hb); (try clear hkp); (try clear ho0)))
         go_ret2
         exact ⟨_, by first | rfl | (simp only [u64_u32_] <;> rfl) | (simp [errW_none, errW_some] <;> rfl) | (simp only [← hji7]; first | rfl | (simp [errW_none, errW_some] <;> rfl)) | (simp [*, errW_none, errW_some] <;> rfl), by first | exact Kd.Rx HO386.out | exact HO386.out, Bx HB.out⟩
     ·
      rw [if_neg c9] at H
      exact absurd H (by simp)
    ·
     rw [if_neg c8] at H
     exact absurd H (by simp)
set_option maxHeartbeats 8000000 in
set_option maxRecDepth 100000 in
theorem divide_guess.calls (k : Nat) (A0 : Option Addr) (c0 : Nat) (l0 : List Int) (a1 : Int) (A2 : Option Addr) (c2 : Nat) (l2 : List Int) (r : Int) (w : World) (hr0 : Kd.C (Kd.int .u64) w A0 l0.length l0) (hc0 : l0.length ≤ c0) (hr2 : Kd.C (Kd.int .u64) w A2 l2.length l2) (hc2 : l2.length ≤ c2) (h : divide_guess.f k l0 a1 l2 = some r) :
  Calls Try.prog 161 #[.slice A0 l0.length c0, .int .i64 a1, .slice A2 l2.length c2] w fun e w' => e = .returned (.int .u64 r) ∧ Drawn0 w w' := by
 have HR0 := Aside0.mk hr0
 have HC0 := Aside0.mk hc0
 clear hr0 hc0
 have HR2 := Aside0.mk hr2
 have HC2 := Aside0.mk hc2
 clear hr2 hc2
 have H : (if 0 ≤ (wrap64 (a1 + (l2.length : Int))) then (if (wrap64 (a1 + (l2.length : Int))) < (l0.length : Int) then (if 0 ≤ (wrap64 ((wrap64 (a1 + (l2.length : Int))) - 1)) then (if (wrap64 ((wrap64 (a1 + (l2.length : Int))) - 1)) < (l0.length : Int) then (if 0 ≤ (wrap64 ((l2.length : Int) - 1)) then (if (wrap64 ((l2.length : Int) - 1)) < (l2.length : Int) then (if (rd l2 (wrap64 ((l2.length : Int) - 1))) = 0 then (none) else (divide_guess.l0 k l0 a1 l2 (l2.length : Int) (IntKind.u64.wrap (Int.tdiv (Go.bits .or .u64 (IntKind.u64.wrap ((rd l0 (wrap64 (a1 + (l2.length : Int)))) * 4294967296)) (rd l0 (wrap64 ((wrap64 (a1 + (l2.length : Int))) - 1)))) (rd l2 (wrap64 ((l2.length : Int) - 1))))) (Int.tmod (Go.bits .or .u64 (IntKind.u64.wrap ((rd l0 (wrap64 (a1 + (l2.length : Int)))) * 4294967296)) (rd l0 (wrap64 ((wrap64 (a1 + (l2.length : Int))) - 1)))) (rd l2 (wrap64 ((l2.length : Int) - 1)))))) else (none)) else (none)) else (none)) else (none)) else (none)) else (none)) = some r := h
 clear h
 obtain ⟨ji4, hji4⟩ : ∃ j_ : Int, (wrap64 (a1 + (l2.length : Int))) = j_ := ⟨_, rfl⟩
 replace H : (if 0 ≤ (ji4) then (if (ji4) < (l0.length : Int) then (if 0 ≤ (wrap64 ((ji4) - 1)) then (if (wrap64 ((ji4) - 1)) < (l0.length : Int) then (if 0 ≤ (wrap64 ((l2.length : Int) - 1)) then (if (wrap64 ((l2.length : Int) - 1)) < (l2.length : Int) then (if (rd l2 (wrap64 ((l2.length : Int) - 1))) = 0 then (none) else (divide_guess.l0 k l0 a1 l2 (l2.length : Int) (IntKind.u64.wrap (Int.tdiv (Go.bits .or .u64 (IntKind.u64.wrap ((rd l0 (ji4)) * 4294967296)) (rd l0 (wrap64 ((ji4) - 1)))) (rd l2 (wrap64 ((l2.length : Int) - 1))))) (Int.tmod (Go.bits .or .u64 (IntKind.u64.wrap ((rd l0 (ji4)) * 4294967296)) (rd l0 (wrap64 ((ji4) - 1)))) (rd l2 (wrap64 ((l2.length : Int) - 1)))))) else (none)) else (none)) else (none)) else (none)) else (none)) else (none)) = some r := by first | (rw [hji4] at H; exact H) | (simp only [hji4] at H ⊢; exact H)
 have hji4w : (IntKind.i64.wrap (a1 + (l2.length : Int))) = ji4 := (i64_w _).trans hji4
 by_cases c5 : 0 ≤ (ji4)
 ·
  rw [if_pos c5] at H
  have c5b0 : decide (0 ≤ (ji4)) = true := decide_eq_true c5
  clear c5
  by_cases c6 : (ji4) < (l0.length : Int)
  ·
   rw [if_pos c6] at H
   have c6b0 : decide ((ji4) < (l0.length : Int)) = true := decide_eq_true c6
   clear c6
   obtain ⟨ji7, hji7⟩ : ∃ j_ : Int, (wrap64 ((ji4) - 1)) = j_ := ⟨_, rfl⟩
   replace H : (if 0 ≤ (ji7) then (if (ji7) < (l0.length : Int) then (if 0 ≤ (wrap64 ((l2.length : Int) - 1)) then (if (wrap64 ((l2.length : Int) - 1)) < (l2.length : Int) then (if (rd l2 (wrap64 ((l2.length : Int) - 1))) = 0 then (none) else (divide_guess.l0 k l0 a1 l2 (l2.length : Int) (IntKind.u64.wrap (Int.tdiv (Go.bits .or .u64 (IntKind.u64.wrap ((rd l0 (ji4)) * 4294967296)) (rd l0 (ji7))) (rd l2 (wrap64 ((l2.length : Int) - 1))))) (Int.tmod (Go.bits .or .u64 (IntKind.u64.wrap ((rd l0 (ji4)) * 4294967296)) (rd l0 (ji7))) (rd l2 (wrap64 ((l2.length : Int) - 1)))))) else (none)) else (none)) else (none)) else (none)) = some r := by first | (rw [hji7] at H; exact H) | (simp only [hji7] at H ⊢; exact H)
   have hji7w : (IntKind.i64.wrap ((ji4) - 1)) = ji7 := (i64_w _).trans hji7
   by_cases c8 : 0 ≤ (ji7)
   ·
    rw [if_pos c8] at H
    have c8b0 : decide (0 ≤ (ji7)) = true := decide_eq_true c8
    clear c8
    by_cases c9 : (ji7) < (l0.length : Int)
    ·
     rw [if_pos c9] at H
     have c9b0 : decide ((ji7) < (l0.length : Int)) = true := decide_eq_true c9
     clear c9
     obtain ⟨ji10, hji10⟩ : ∃ j_ : Int, (wrap64 ((l2.length : Int) - 1)) = j_ := ⟨_, rfl⟩
     replace H : (if 0 ≤ (ji10) then (if (ji10) < (l2.length : Int) then (if (rd l2 (ji10)) = 0 then (none) else (divide_guess.l0 k l0 a1 l2 (l2.length : Int) (IntKind.u64.wrap (Int.tdiv (Go.bits .or .u64 (IntKind.u64.wrap ((rd l0 (ji4)) * 4294967296)) (rd l0 (ji7))) (rd l2 (ji10)))) (Int.tmod (Go.bits .or .u64 (IntKind.u64.wrap ((rd l0 (ji4)) * 4294967296)) (rd l0 (ji7))) (rd l2 (ji10))))) else (none)) else (none)) = some r := by first | (rw [hji10] at H; exact H) | (simp only [hji10] at H ⊢; exact H)
     have hji10w : (IntKind.i64.wrap ((l2.length : Int) - 1)) = ji10 := (i64_w _).trans hji10
     by_cases c11 : 0 ≤ (ji10)
     ·
      rw [if_pos c11] at H
      have c11b0 : decide (0 ≤ (ji10)) = true := decide_eq_true c11
      clear c11
      by_cases c12 : (ji10) < (l2.length : Int)
      ·
       rw [if_pos c12] at H
       have c12b0 : decide ((ji10) < (l2.length : Int)) = true := decide_eq_true c12
       clear c12
       by_cases c13 : (rd l2 (ji10)) = 0
       ·
        rw [if_pos c13] at H
        exact absurd H (by simp)
       ·
        rw [if_neg c13] at H
        have c13b0 : ((rd l2 (ji10)) == 0) = false := beq_eq_false_iff_ne.mpr c13
        have c13b1 : ((rd l2 (ji10)) != 0) = true := bne_iff_ne.mpr c13
        have H' := Aside0.mk H
        clear H
        have p387 : 0 ≤ ((ji4) : Int) := tx
        have q387 : (ji4) < (l0.length : Int) := tx
        obtain ⟨ad387, e387, hx387_0⟩ := Kd.at_int HR0.out (ji4) p387 q387
        cases e387
        replace p387 := eq_true p387
        replace q387 := eq_true q387
        have p388 : 0 ≤ ((ji7) : Int) := tx
        have q388 : (ji7) < (l0.length : Int) := tx
        obtain ⟨ad388, e388, hx388_0⟩ := Kd.at_int HR0.out (ji7) p388 q388
        obtain rfl : ad387 = ad388 := (by injection e388)
        replace p388 := eq_true p388
        replace q388 := eq_true q388
        have p389 : 0 ≤ ((ji10) : Int) := tx
        have q389 : (ji10) < (l2.length : Int) := tx
        obtain ⟨ad389, e389, hx389_0⟩ := Kd.at_int HR2.out (ji10) p389 q389
        cases e389
        replace p389 := eq_true p389
        replace q389 := eq_true q389
        have p390 : 0 ≤ ((ji10) : Int) := tx
        have q390 : (ji10) < (l2.length : Int) := tx
        obtain ⟨ad390, e390, hx390_0⟩ := Kd.at_int HR2.out (ji10) p390 q390
        obtain rfl : ad389 = ad390 := (by injection e390)
        replace p390 := eq_true p390
        replace q390 := eq_true q390
        go_enter Try.func161, Try.ntmps161
        go_wp2
        repeat (go_quiet (fail); try go_wp2)
        go_loopg [9, 10] k (fun kq v9 v10 w' => ∃ (x9_1 : Int) (x10_1 : Int), v9 = .int .u64 x9_1 ∧ v10 = .int .u64 x10_1 ∧ Aside0 (divide_guess.l0 kq l0 a1 l2 (l2.length : Int) x9_1 x10_1 = some r) ∧ Aside0 (kq ≤ k) ∧ Drawn0 w w')
        case atStart => exact ⟨(IntKind.u64.wrap (Int.tdiv (Go.bits .or .u64 (IntKind.u64.wrap ((rd l0 (ji4)) * 4294967296)) (rd l0 (ji7))) (rd l2 (ji10)))), (Int.tmod (Go.bits .or .u64 (IntKind.u64.wrap ((rd l0 (ji4)) * 4294967296)) (rd l0 (ji7))) (rd l2 (ji10))), (by first | rfl | (simp; done) | (simp only [← hji4, ← hji7, ← hji10] <;> (first | rfl | simp)) | (simp [*]; done)), (by first | rfl | (simp; done) | (simp only [← hji4, ← hji7, ← hji10] <;> (first | rfl | simp)) | (simp [*]; done)), H', ⟨Nat.le_refl _⟩, by repeat (first | exact Drawn0.refl _ | apply Drawn0.step)⟩
        case round =>
         clear H'
         try clear c1
         try clear c2
         try clear p2
         try clear p3
         try clear q3
         try clear hx3
         try clear c5
         try clear c5b0
         try clear c6
         try clear c6b0
         try clear p6
         try clear c8
         try clear c8b0
         try clear c9
         try clear c9b0
         try clear c11
         try clear c11b0
         try clear c12
         try clear c12b0
         try clear c13
         try clear c13b0
         try clear c13b1
         try clear hx387_0
         try clear hx388_0
         try clear hx389_0
         try clear hx390_0
         try clear p387
         try clear p388
         try clear p389
         try clear p390
         try clear q387
         try clear q388
         try clear q389
         try clear q390
         obtain ⟨x9_1, x10_1, rfl, rfl, HA, HK1, ⟨m1, rfl⟩⟩ := hrel
         cases gk with
         | zero => exact absurd HA.out (by simp [divide_guess.l0])
         | succ k1 =>
          have H := HA.out
          clear HA
          simp only [divide_guess.l0] at H
          have HC14 := Aside0.mk H
          clear H
          go_upto_region 4 with (fail)
          repeat (go_quiet (fail); go_upto_region 4 with (fail))
          go_cut [63] (fun v63 wc => ∃ (kq : Nat) (x63_13 : Bool), v63 = .bool x63_13 ∧ Aside0 (divide_guess.j1 kq l0 a1 l2 (l2.length : Int) x9_1 x10_1 x63_13 = some r) ∧ Aside0 (kq ≤ k1) ∧ Drawn0 w wc)
          case first =>
           have H := HC14.out
           clear HC14
           by_cases c15 : x9_1 ≥ 4294967296
           ·
            rw [if_pos c15] at H
            have c15b0 : decide (4294967296 ≤ x9_1) = true := decide_eq_true c15
            clear c15
            (first | rw [c15b0] | (simp only [i64_w, i32_w]; rw [c15b0]) | skip)
            have H' := Aside0.mk H
            clear H
            go_wp2
            repeat (go_quiet (fail); try go_wp2)
            go_meet
            case rel => exact ⟨_, (true), (by first | rfl | (simp; done) | (simp [*]; done)), H', ⟨by have := HK1.out; first | omega | exact Nat.le_refl _⟩, by repeat (first | exact Drawn0.refl _ | apply Drawn0.step)⟩
           ·
            rw [if_neg c15] at H
            have c15b0 : decide (4294967296 ≤ x9_1) = false := decide_eq_false c15
            clear c15
            (first | rw [c15b0] | (simp only [i64_w, i32_w]; rw [c15b0]) | skip)
            obtain ⟨ji16, hji16⟩ : ∃ j_ : Int, (wrap64 ((l2.length : Int) - 2)) = j_ := ⟨_, rfl⟩
            replace H : (if 0 ≤ (ji16) then (if (ji16) < (l2.length : Int) then (if 0 ≤ (wrap64 ((wrap64 (a1 + (l2.length : Int))) - 2)) then (if (wrap64 ((wrap64 (a1 + (l2.length : Int))) - 2)) < (l0.length : Int) then (divide_guess.j1 k1 l0 a1 l2 (l2.length : Int) x9_1 x10_1 (decide ((IntKind.u64.wrap (x9_1 * (rd l2 (ji16)))) > (Go.bits .or .u64 (IntKind.u64.wrap (x10_1 * 4294967296)) (rd l0 (wrap64 ((wrap64 (a1 + (l2.length : Int))) - 2))))))) else (none)) else (none)) else (none)) else (none)) = some r := by first | (rw [hji16] at H; exact H) | (simp only [hji16] at H ⊢; exact H)
            have hji16w : (IntKind.i64.wrap ((l2.length : Int) - 2)) = ji16 := (i64_w _).trans hji16
            by_cases c17 : 0 ≤ (ji16)
            ·
             rw [if_pos c17] at H
             have c17b0 : decide (0 ≤ (ji16)) = true := decide_eq_true c17
             clear c17
             by_cases c18 : (ji16) < (l2.length : Int)
             ·
              rw [if_pos c18] at H
              have c18b0 : decide ((ji16) < (l2.length : Int)) = true := decide_eq_true c18
              clear c18
              obtain ⟨ji19, hji19⟩ : ∃ j_ : Int, (wrap64 ((wrap64 (a1 + (l2.length : Int))) - 2)) = j_ := ⟨_, rfl⟩
              replace H : (if 0 ≤ (ji19) then (if (ji19) < (l0.length : Int) then (divide_guess.j1 k1 l0 a1 l2 (l2.length : Int) x9_1 x10_1 (decide ((IntKind.u64.wrap (x9_1 * (rd l2 (ji16)))) > (Go.bits .or .u64 (IntKind.u64.wrap (x10_1 * 4294967296)) (rd l0 (ji19)))))) else (none)) else (none)) = some r := by first | (rw [hji19] at H; exact H) | (simp only [hji19] at H ⊢; exact H)
              have hji19w : (IntKind.i64.wrap ((wrap64 (a1 + (l2.length : Int))) - 2)) = ji19 := (i64_w _).trans hji19
              (try simp only [hji4] at hji19w)
              by_cases c20 : 0 ≤ (ji19)
              ·
               rw [if_pos c20] at H
               have c20b0 : decide (0 ≤ (ji19)) = true := decide_eq_true c20
               clear c20
               by_cases c21 : (ji19) < (l0.length : Int)
               ·
                rw [if_pos c21] at H
                have c21b0 : decide ((ji19) < (l0.length : Int)) = true := decide_eq_true c21
                clear c21
                have H' := Aside0.mk H
                clear H
                have p391 : 0 ≤ ((ji16) : Int) := tx
                have q391 : (ji16) < (l2.length : Int) := tx
                obtain ⟨ad391, e391, hx391_0⟩ := Kd.at_int HR2.out (ji16) p391 q391
                obtain rfl : ad389 = ad391 := (by injection e391)
                replace p391 := eq_true p391
                replace q391 := eq_true q391
                have p392 : 0 ≤ ((ji19) : Int) := tx
                have q392 : (ji19) < (l0.length : Int) := tx
                obtain ⟨ad392, e392, hx392_0⟩ := Kd.at_int HR0.out (ji19) p392 q392
                obtain rfl : ad387 = ad392 := (by injection e392)
                replace p392 := eq_true p392
                replace q392 := eq_true q392
                go_wp2
                repeat (go_quiet (fail); try go_wp2)
                go_meet
                case rel => exact ⟨_, (decide ((IntKind.u64.wrap (x9_1 * (rd l2 (ji16)))) > (Go.bits .or .u64 (IntKind.u64.wrap (x10_1 * 4294967296)) (rd l0 (ji19))))), (by first | rfl | (simp; done) | (simp only [← hji16, ← hji19] <;> (first | rfl | simp)) | (simp [*]; done)), H', ⟨by have := HK1.out; first | omega | exact Nat.le_refl _⟩, by repeat (first | exact Drawn0.refl _ | apply Drawn0.step)⟩
               ·
                rw [if_neg c21] at H
                exact absurd H (by simp)
              ·
               rw [if_neg c20] at H
               exact absurd H (by simp)
             ·
              rw [if_neg c18] at H
              exact absurd H (by simp)
            ·
             rw [if_neg c17] at H
             exact absurd H (by simp)
          case rest =>
           clear HC14
           try clear c1
           try clear c2
           try clear p2
           try clear p3
           try clear q3
           try clear hx3
           try clear c5
           try clear c5b0
           try clear c6
           try clear c6b0
           try clear p6
           try clear c8
           try clear c8b0
           try clear c9
           try clear c9b0
           try clear c11
           try clear c11b0
           try clear c12
           try clear c12b0
           try clear c13
           try clear c13b0
           try clear c13b1
           try clear c15
           try clear c15b0
           try clear c16
           try clear c17
           try clear c17b0
           try clear c18
           try clear c18b0
           try clear c20
           try clear c20b0
           try clear c21
           try clear c21b0
           try clear hx387_0
           try clear hx388_0
           try clear hx389_0
           try clear hx390_0
           try clear hx391_0
           try clear hx392_0
           try clear p2
           try clear p3
           try clear p387
           try clear p388
           try clear p389
           try clear p390
           try clear p391
           try clear p392
           try clear p6
           try clear q3
           try clear q387
           try clear q388
           try clear q389
           try clear q390
           try clear q391
           try clear q392
           obtain ⟨kq, x63_13, rfl, HA, HJ13, ⟨mc13, rfl⟩⟩ := hcut
           cases kq with
           | zero => exact absurd HA.out (by simp [divide_guess.j1])
           | succ kj13 =>
            have H := HA.out
            clear HA
            simp only [divide_guess.j1] at H
            by_cases c22 : x63_13 = true
            ·
             subst c22
             have H1 : (if 0 ≤ (wrap64 ((l2.length : Int) - 1)) then (if (wrap64 ((l2.length : Int) - 1)) < (l2.length : Int) then (if (IntKind.u64.wrap (x10_1 + (rd l2 (wrap64 ((l2.length : Int) - 1))))) ≥ 4294967296 then (some (IntKind.u64.wrap (x9_1 - 1))) else (divide_guess.l0 kj13 l0 a1 l2 (l2.length : Int) (IntKind.u64.wrap (x9_1 - 1)) (IntKind.u64.wrap (x10_1 + (rd l2 (wrap64 ((l2.length : Int) - 1))))))) else (none)) else (none)) = some r := by rw [if_pos rfl] at H; exact H
             clear H
             have H := H1
             clear H1
             obtain ⟨ji23, hji23⟩ : ∃ j_ : Int, (wrap64 ((l2.length : Int) - 1)) = j_ := ⟨_, rfl⟩
             replace H : (if 0 ≤ (ji23) then (if (ji23) < (l2.length : Int) then (if (IntKind.u64.wrap (x10_1 + (rd l2 (ji23)))) ≥ 4294967296 then (some (IntKind.u64.wrap (x9_1 - 1))) else (divide_guess.l0 kj13 l0 a1 l2 (l2.length : Int) (IntKind.u64.wrap (x9_1 - 1)) (IntKind.u64.wrap (x10_1 + (rd l2 (ji23)))))) else (none)) else (none)) = some r := by first | (rw [hji23] at H; exact H) | (simp only [hji23] at H ⊢; exact H)
             have hji23w : (IntKind.i64.wrap ((l2.length : Int) - 1)) = ji23 := (i64_w _).trans hji23
             obtain rfl : ji23 = ji10 := hji23.symm.trans hji10
             by_cases c24 : 0 ≤ (ji23)
             ·
              rw [if_pos c24] at H
              have c24b0 : decide (0 ≤ (ji23)) = true := decide_eq_true c24
              clear c24
              by_cases c25 : (ji23) < (l2.length : Int)
              ·
               rw [if_pos c25] at H
               have c25b0 : decide ((ji23) < (l2.length : Int)) = true := decide_eq_true c25
               clear c25
               by_cases c26 : (IntKind.u64.wrap (x10_1 + (rd l2 (ji23)))) ≥ 4294967296
               ·
                rw [if_pos c26] at H
                have c26b0 : decide (4294967296 ≤ (IntKind.u64.wrap (x10_1 + (rd l2 (ji23))))) = true := decide_eq_true c26
                clear c26
                obtain rfl := Option.some.inj H
                have p393 : 0 ≤ ((ji23) : Int) := tx
                have q393 : (ji23) < (l2.length : Int) := tx
                obtain ⟨ad393, e393, hx393_0⟩ := Kd.at_int HR2.out (ji23) p393 q393
                obtain rfl : ad389 = ad393 := (by injection e393)
                replace p393 := eq_true p393
                replace q393 := eq_true q393
                go_wp2
                repeat (go_quiet (fail); try go_wp2)
                go_ret
                exact ⟨by first | rfl | (simp only [u64_u32_] <;> rfl) | (simp; done) | (simp only [← hji4, ← hji7, ← hji10, ← hji23] <;> (first | rfl | simp)) | (simp [*]; done), by repeat (first | exact Drawn0.refl _ | apply Drawn0.step)⟩
               ·
                rw [if_neg c26] at H
                have c26b0 : decide (4294967296 ≤ (IntKind.u64.wrap (x10_1 + (rd l2 (ji23))))) = false := decide_eq_false c26
                clear c26
                have H' := Aside0.mk H
                clear H
                have p393 : 0 ≤ ((ji23) : Int) := tx
                have q393 : (ji23) < (l2.length : Int) := tx
                obtain ⟨ad393, e393, hx393_0⟩ := Kd.at_int HR2.out (ji23) p393 q393
                obtain rfl : ad389 = ad393 := (by injection e393)
                replace p393 := eq_true p393
                replace q393 := eq_true q393
                go_wp2
                repeat (go_quiet (fail); try go_wp2)
                go_roundg kj13
                case measure => have := HK1.out; have := HJ13.out; omega
                case rel => exact ⟨(IntKind.u64.wrap (x9_1 - 1)), (IntKind.u64.wrap (x10_1 + (rd l2 (ji23)))), (by first | rfl | (simp; done) | (simp [*]; done)), (by first | rfl | (simp; done) | (simp only [← hji23] <;> (first | rfl | simp)) | (simp [*]; done)), H', ⟨by have := HK1.out; have := HJ13.out; omega⟩, by repeat (first | exact Drawn0.refl _ | apply Drawn0.step)⟩
              ·
               rw [if_neg c25] at H
               exact absurd H (by simp)
             ·
              rw [if_neg c24] at H
              exact absurd H (by simp)
            ·
             replace c22 := Bool.eq_false_iff.mpr c22
             subst c22
             have H1 : (some x9_1) = some r := by rw [if_neg (show ¬ (false = true) by decide)] at H; exact H
             clear H
             have H := H1
             clear H1
             obtain rfl := Option.some.inj H
             go_wp2
             repeat (go_quiet (fail); try go_wp2)
             go_ret
             exact ⟨by first | rfl | (simp only [u64_u32_] <;> rfl) | (simp; done) | (simp only [← hji4, ← hji7, ← hji10] <;> (first | rfl | simp)) | (simp [*]; done), by repeat (first | exact Drawn0.refl _ | apply Drawn0.step)⟩
      ·
       rw [if_neg c12] at H
       exact absurd H (by simp)
     ·
      rw [if_neg c11] at H
      exact absurd H (by simp)
    ·
     rw [if_neg c9] at H
     exact absurd H (by simp)
   ·
    rw [if_neg c8] at H
    exact absurd H (by simp)
  ·
   rw [if_neg c6] at H
   exact absurd H (by simp)
 ·
  rw [if_neg c5] at H
  exact absurd H (by simp)
set_option maxHeartbeats 8000000 in
set_option maxRecDepth 100000 in
theorem divide_at.calls (A0 : Option Addr) (c0 : Nat) (l0 : List Int) (a1 : Int) (r : Int) (w : World) (hr0 : Kd.C (Kd.int .u64) w A0 l0.length l0) (hc0 : l0.length ≤ c0) (h : divide_at.f l0 a1 = some r) :
  Calls Try.prog 166 #[.slice A0 l0.length c0, .int .i64 a1] w fun e w' => e = .returned (.int .u64 r) ∧ Drawn0 w w' := by
 have HR0 := Aside0.mk hr0
 have HC0 := Aside0.mk hc0
 clear hr0 hc0
 have H : (if a1 ≥ (l0.length : Int) then (some 0) else (if 0 ≤ a1 then (if a1 < (l0.length : Int) then (some (rd l0 a1)) else (none)) else (none))) = some r := h
 clear h
 by_cases c3 : a1 ≥ (l0.length : Int)
 ·
  rw [if_pos c3] at H
  have c3b0 : decide ((l0.length : Int) ≤ a1) = true := decide_eq_true c3
  clear c3
  obtain rfl := Option.some.inj H
  go_enter Try.func166, Try.ntmps166
  go_wp2
  go_ret
  exact ⟨by first | rfl | (simp only [u64_u32_] <;> rfl) | (simp; done) | (simp [*]; done), by repeat (first | exact Drawn0.refl _ | apply Drawn0.step)⟩
 ·
  rw [if_neg c3] at H
  have c3b0 : decide ((l0.length : Int) ≤ a1) = false := decide_eq_false c3
  clear c3
  by_cases c4 : 0 ≤ a1
  ·
   rw [if_pos c4] at H
   have c4b0 : decide (0 ≤ a1) = true := decide_eq_true c4
   clear c4
   by_cases c5 : a1 < (l0.length : Int)
   ·
    rw [if_pos c5] at H
    have c5b0 : decide (a1 < (l0.length : Int)) = true := decide_eq_true c5
    clear c5
    obtain rfl := Option.some.inj H
    have p394 : 0 ≤ (a1 : Int) := tx
    have q394 : a1 < (l0.length : Int) := tx
    obtain ⟨ad394, e394, hx394_0⟩ := Kd.at_int HR0.out a1 p394 q394
    cases e394
    replace p394 := eq_true p394
    replace q394 := eq_true q394
    go_enter Try.func166, Try.ntmps166
    go_wp2
    go_ret
    exact ⟨by first | rfl | (simp only [u64_u32_] <;> rfl) | (simp; done) | (simp [*]; done), by repeat (first | exact Drawn0.refl _ | apply Drawn0.step)⟩
   ·
    rw [if_neg c5] at H
    exact absurd H (by simp)
  ·
   rw [if_neg c4] at H
   exact absurd H (by simp)
set_option maxHeartbeats 8000000 in
set_option maxRecDepth 100000 in
theorem divide_take.calls (k : Nat) (P0_ : Nat → Prop) (u9000_ : Value) (l0 : List Int) (a1 : Int) (A2 : Option Addr) (c2 : Nat) (l2 : List Int) (a3 : Int) (r1 : Bool) (r2 : List Int) (w0 w : World) (hB : Below w0.heap.size w0 w) (ho0 : Kd.R (Kd.int .u64) 96 w w0.heap.size P0_ u9000_ l0) (hr2 : ∀ W_, Kept w W_ (fun k_ => P0_ k_) → Kd.C (Kd.int .u64) W_ A2 l2.length l2) (hc2 : l2.length ≤ c2) (h : divide_take.f k l0 a1 l2 a3 = some (r1, r2)) :
  Calls Try.prog 162 #[u9000_, .int .i64 a1, .slice A2 l2.length c2, .int .u64 a3] w fun e w' => e = .returned (.bool r1) ∧ Kd.R (Kd.int .u64) 96 w' w0.heap.size (fun k_ => (P0_ k_ ∨ w.heap.size ≤ k_)) u9000_ r2 ∧ Below w0.heap.size w0 w' ∧ Kept w w' (fun k_ => P0_ k_) := by
 have HO0 := Aside0.mk (show Kd.R (Kd.int .u64) 96 w w0.heap.size (fun k_ => (P0_ k_ ∨ w.heap.size ≤ k_)) u9000_ l0 from Kd.R_mono ho0 (fun k_ hk => (.inl hk)))
 have HR2 := Aside0.mk hr2
 have HC2 := Aside0.mk hc2
 clear hr2 hc2
 have HK := Aside0.mk (Kept.refl w (fun k_ => P0_ k_))
 have HW0 := Aside0.mk hB.size
 have HB := Aside0.mk hB
 clear hB
 have H : (divide_take.l0 k l0 a1 l2 a3 0 0 (wrap64 ((l2.length : Int) + 1)) 0) = some (r1, r2) := h
 clear h
 have H' := Aside0.mk H
 clear H
 go_enter Try.func162, Try.ntmps162
 go_wp2
 go_loopg [9, 10, 16] k (fun kq v9 v10 v16 w' => ∃ (x0_1 : List Int) (x9_1 : Int) (x10_1 : Int) (x16_1 : Int), v9 = .int .u64 x9_1 ∧ v10 = .int .u64 x10_1 ∧ v16 = .int .i64 x16_1 ∧ Aside0 (divide_take.l0 kq x0_1 a1 l2 a3 x9_1 x10_1 (wrap64 ((l2.length : Int) + 1)) x16_1 = some (r1, r2)) ∧ Aside0 (kq ≤ k) ∧ Aside0 (Kd.R (Kd.int .u64) 96 w' w0.heap.size (fun k_ => (P0_ k_ ∨ w.heap.size ≤ k_)) u9000_ x0_1) ∧ Aside0 (Kept w w' (fun k_ => P0_ k_)) ∧ Aside0 (Below w0.heap.size w0 w'))
 case atStart => exact ⟨(l0), (0), (0), (0), (by first | rfl | (simp; done) | (simp [*]; done)), (by first | rfl | (simp; done) | (simp [*]; done)), (by first | rfl | (simp; done) | (simp [*]; done)), H', ⟨Nat.le_refl _⟩, ⟨by first | exact Kd.Rx HO0.out | exact HO0.out⟩, ⟨by repeat (first | (with_reducible first | exact HK.out | apply Kept.alloc | apply Kept.drewN | apply Kept.drew) | exact HK.out)⟩, ⟨Bx HB.out⟩⟩
 case round =>
  clear H'
  try clear c1
  try clear c2
  try clear p2
  obtain ⟨x0_1, x9_1, x10_1, x16_1, rfl, rfl, rfl, HA, HK1, HO_0, HK, HB⟩ := hrel
  cases gk with
  | zero => exact absurd HA.out (by simp [divide_take.l0])
  | succ k1 =>
   have H := HA.out
   clear HA
   simp only [divide_take.l0] at H
   by_cases c5 : x16_1 < (wrap64 ((l2.length : Int) + 1))
   ·
    rw [if_pos c5] at H
    have c5b0 : decide (x16_1 < (wrap64 ((l2.length : Int) + 1))) = true := decide_eq_true c5
    clear c5
    replace H := Option.bind_eq_some_iff.mp H
    obtain ⟨t395, A60, H⟩ := H
    replace H : ((limb_Mul.f a3 t395 x9_1 0).bind fun bt396 => (if 0 ≤ (wrap64 (a1 + x16_1)) then (if (wrap64 (a1 + x16_1)) < (x0_1.length : Int) then ((limb_Sub.f (rd x0_1 (wrap64 (a1 + x16_1))) bt396.1 x10_1).bind fun bt399 => (divide_take.l0 k1 (x0_1.set ((wrap64 (a1 + x16_1)) : Int).toNat bt399.1) a1 l2 a3 bt396.2 bt399.2 (wrap64 ((l2.length : Int) + 1)) (wrap64 (x16_1 + 1)))) else (none)) else (none))) = some (r1, r2) := H
    have A6 := Aside0.mk A60
    clear A60
    replace H := Option.bind_eq_some_iff.mp H
    obtain ⟨⟨t396, t397⟩, A70, H⟩ := H
    replace H : (if 0 ≤ (wrap64 (a1 + x16_1)) then (if (wrap64 (a1 + x16_1)) < (x0_1.length : Int) then ((limb_Sub.f (rd x0_1 (wrap64 (a1 + x16_1))) t396 x10_1).bind fun bt399 => (divide_take.l0 k1 (x0_1.set ((wrap64 (a1 + x16_1)) : Int).toNat bt399.1) a1 l2 a3 t397 bt399.2 (wrap64 ((l2.length : Int) + 1)) (wrap64 (x16_1 + 1)))) else (none)) else (none)) = some (r1, r2) := H
    have A7 := Aside0.mk A70
    clear A70
    obtain ⟨ji8, hji8⟩ : ∃ j_ : Int, (wrap64 (a1 + x16_1)) = j_ := ⟨_, rfl⟩
    replace H : (if 0 ≤ (ji8) then (if (ji8) < (x0_1.length : Int) then ((limb_Sub.f (rd x0_1 (ji8)) t396 x10_1).bind fun bt399 => (divide_take.l0 k1 (x0_1.set ((ji8) : Int).toNat bt399.1) a1 l2 a3 t397 bt399.2 (wrap64 ((l2.length : Int) + 1)) (wrap64 (x16_1 + 1)))) else (none)) else (none)) = some (r1, r2) := by first | (rw [hji8] at H; exact H) | (simp only [hji8] at H ⊢; exact H)
    (try rw [hji8] at A6)
    (try rw [hji8] at A7)
    have hji8w : (IntKind.i64.wrap (a1 + x16_1)) = ji8 := (i64_w _).trans hji8
    by_cases c9 : 0 ≤ (ji8)
    ·
     rw [if_pos c9] at H
     have c9b0 : decide (0 ≤ (ji8)) = true := decide_eq_true c9
     clear c9
     by_cases c10 : (ji8) < (x0_1.length : Int)
     ·
      rw [if_pos c10] at H
      have c10b0 : decide ((ji8) < (x0_1.length : Int)) = true := decide_eq_true c10
      clear c10
      replace H := Option.bind_eq_some_iff.mp H
      obtain ⟨⟨t399, t400⟩, A110, H⟩ := H
      replace H : (divide_take.l0 k1 (x0_1.set ((ji8) : Int).toNat t399) a1 l2 a3 t397 t400 (wrap64 ((l2.length : Int) + 1)) (wrap64 (x16_1 + 1))) = some (r1, r2) := H
      have A11 := Aside0.mk A110
      clear A110
      obtain ⟨y401, hy401⟩ : ∃ y_ : List Int, y_ = (x0_1.set ((ji8) : Int).toNat t399) := ⟨_, rfl⟩
      replace H : (divide_take.l0 k1 y401 a1 l2 a3 t397 t400 (wrap64 ((l2.length : Int) + 1)) (wrap64 (x16_1 + 1))) = some (r1, r2) := by first | (rw [hy401]; with_reducible exact H) | (have H2_ := (Option.bind_some _ _).symm.trans H; rw [hy401]; with_reducible exact H2_) | (have H2_ := (Option.bind_some _ _).symm.trans H; with_reducible exact H2_) | with_reducible exact H | (rw [hy401]; exact H) | exact H
      have Ny401 := Aside0.mk hy401
      clear hy401
      have H' := Aside0.mk H
      clear H
      go_wp2_with (first | ((with_reducible refine gate_callee (f := 166) rfl ?_); refine goesx (some 23) Try.func166 #[.slice A2 l2.length c2, .int .i64 x16_1] ?_; (with_reducible refine (divide_at.calls _ _ l2 x16_1 t395 _ ?side1 ?side2 A6.out).mono ?_); (case side1 => exact Kd.C_kept_now HR2.out (by repeat (first | (with_reducible first | exact HK.out | apply Kept.alloc | apply Kept.drewN | apply Kept.drew) | exact HK.out))); (case side2 => exact HC2.out); rintro e w' ⟨rfl, ⟨nd, rfl⟩⟩; refine ⟨_, rfl, ?_⟩; (try (rw [drewN_self wr]; generalize hq_ : World.drewN wr _ = wr; have n0_ : Aside0 (Kd.R (Kd.int .u64) 96 wr w0.heap.size (fun k_ => (P0_ k_ ∨ w.heap.size ≤ k_)) u9000_ x0_1) := ⟨by rw [← hq_]; exact (Kd.Rx HO_0.out)⟩; have n1_ : Aside0 (Kept w wr (fun k_ => P0_ k_)) := ⟨by rw [← hq_]; exact (by repeat (first | (with_reducible first | exact HK.out | apply Kept.alloc | apply Kept.drewN | apply Kept.drew) | exact HK.out))⟩; have n2_ : Aside0 (Below w0.heap.size w0 wr) := ⟨by rw [← hq_]; exact (Bx HB.out)⟩; clear HO_0 HK HB hq_; have HO_0 := n0_; have HK := n1_; have HB := n2_; clear n0_ n1_ n2_))) | ((with_reducible refine gate_callee (f := 152) rfl ?_); refine goesx (some 25) Try.func152 #[.int .u64 a3, .int .u64 t395, .int .u64 x9_1, .int .u64 0] ?_; (with_reducible refine (limb_Mul.calls a3 t395 x9_1 0 t396 t397 _ A7.out).mono ?_); rintro e w' ⟨rfl, ⟨nd, rfl⟩⟩; refine ⟨_, rfl, ?_⟩; (try (rw [drewN_self wr]; generalize hq_ : World.drewN wr _ = wr; have n0_ : Aside0 (Kd.R (Kd.int .u64) 96 wr w0.heap.size (fun k_ => (P0_ k_ ∨ w.heap.size ≤ k_)) u9000_ x0_1) := ⟨by rw [← hq_]; exact (Kd.Rx HO_0.out)⟩; have n1_ : Aside0 (Kept w wr (fun k_ => P0_ k_)) := ⟨by rw [← hq_]; exact (by repeat (first | (with_reducible first | exact HK.out | apply Kept.alloc | apply Kept.drewN | apply Kept.drew) | exact HK.out))⟩; have n2_ : Aside0 (Below w0.heap.size w0 wr) := ⟨by rw [← hq_]; exact (Bx HB.out)⟩; clear HO_0 HK HB hq_; have HO_0 := n0_; have HK := n1_; have HB := n2_; clear n0_ n1_ n2_)); obtain ⟨Ao13, co13, eo13⟩ := Kd.R_slice HO_0.out; subst eo13; have p398 : 0 ≤ ((ji8) : Int) := tx; have q398 : (ji8) < (x0_1.length : Int) := tx; obtain ⟨ad398, e398, hx398_0⟩ := Kd.at_int (Kd.R_reads' HO_0.out).2.2 (ji8) p398 q398; cases e398; replace p398 := eq_true p398; replace q398 := eq_true q398) | ((with_reducible refine gate_callee (f := 123) rfl ?_); refine goesL_ (some 41) rfl rfl Try.func123 (by kernel_rfl) rfl #[.int .u64 (rd x0_1 (ji8)), .int .u64 t396, .int .u64 x10_1] rfl (by (try simp only [List.map_toArray, List.map_cons, List.map_nil]); first | done | (simp only [hji8]; rfl) | rfl | (simp only [List.length_drop, List.length_take]; rfl)) ?_; (with_reducible refine (limb_Sub.calls (rd x0_1 (ji8)) t396 x10_1 t399 t400 _ A11.out).mono ?_); rintro e w' ⟨rfl, ⟨nd, rfl⟩⟩; refine ⟨_, rfl, ?_⟩; (try (rw [drewN_self wr]; generalize hq_ : World.drewN wr _ = wr; have n0_ : Aside0 (Kd.R (Kd.int .u64) 96 wr w0.heap.size (fun k_ => (P0_ k_ ∨ w.heap.size ≤ k_)) (.slice (some ad398) x0_1.length co13) x0_1) := ⟨by rw [← hq_]; exact (Kd.Rx HO_0.out)⟩; have n1_ : Aside0 (Kept w wr (fun k_ => P0_ k_)) := ⟨by rw [← hq_]; exact (by repeat (first | (with_reducible first | exact HK.out | apply Kept.alloc | apply Kept.drewN | apply Kept.drew) | exact HK.out))⟩; have n2_ : Aside0 (Below w0.heap.size w0 wr) := ⟨by rw [← hq_]; exact (Bx HB.out)⟩; clear HO_0 HK HB hq_; have HO_0 := n0_; have HK := n1_; have HB := n2_; clear n0_ n1_ n2_)); have p12 : 0 ≤ ((ji8) : Int) := tx; have q12 : ((ji8) : Int) < ((x0_1.length : Int) : Int) := tx; obtain ⟨go12, co12, eo12, gb12, gl12, cl12, HG12⟩ := Kd.R_form HO_0.out (by omega); (first | cases eo12 | (injection eo12 with ea_ en_ ec_; (first | subst ea_ | (injection ea_ with ea_; subst ea_)); subst ec_; clear en_)); have GB12 := Aside0.mk gb12; have GG12 := Aside0.mk HG12; clear gb12 gl12 HG12; have HMgo12 := Aside0.mk (show (P0_ go12 ∨ w.heap.size ≤ go12) from (HO_0.out.1 _ rfl)); (first | simp only [add_plain] at hx398_0 | skip); obtain ⟨hx12_0, hf12_0⟩ := Kd.R_celln 0 HO_0.out ((ji8) : Int) p12 q12; replace p12 := eq_true p12; replace q12 := eq_true q12; obtain ⟨hy14_, hz14_⟩ := Kd.R_celln 0 HO_0.out ((ji8) : Int) (tx) (tx); have HP14 := Kd.R_putg HO_0.out ((ji8) : Int) t399) | ((with_reducible refine gate_store (t := 96) (p := 44) rfl ?_); refine store_event (t := 96) (p := 44) (v := ?vo_w15) (w1 := (wr.setCell ⟨go12, ((ji8) : Int).toNat, none⟩ (.int .u64 t399))) ?hg ?ho ?hn ?hr ?_; (case ho => rfl); (case hg => rfl); (case hn => rfl); (case hr => first | (go_simp; done) | (go_simp; rfl)); intro w15 hw; have hg : wr.grownBy w15 (some go12) := (by rw [hw]; exact HP14.2); have hp_ : Kd.R (Kd.int .u64) 96 w15 w0.heap.size (fun k_ => (P0_ k_ ∨ w.heap.size ≤ k_)) (.slice (some ⟨go12, 0, none⟩) x0_1.length co13) y401 := (by rw [hw, Ny401.out]; exact HP14.1); clear HP14; replace HB := Aside0.mk ((by rw [hw]; exact below_set (HB.out) GB12.out : Below w0.heap.size w0 w15)); replace HK := Aside0.mk (Kept.of_grown (S := (fun k_ => P0_ k_)) hg (by repeat (first | (with_reducible first | exact HK.out | apply Kept.alloc | apply Kept.drewN | apply Kept.drew) | exact HK.out)) (fun k_ e_ => (HO_0.out.1 k_ e_))); replace HO_0 := Aside0.mk (hp_); clear hg hw hp_))
      go_roundg k1
      case measure => have := HK1.out; omega
      case rel => exact ⟨(y401), (t397), (t400), (wrap64 (x16_1 + 1)), (by first | rfl | (simp; done) | (simp [*]; done)), (by first | rfl | (simp; done) | (simp [*]; done)), (by first | rfl | (simp; done) | (simp [*]; done)), H', ⟨by have := HK1.out; omega⟩, ⟨by first | exact Kd.Rx HO_0.out | exact HO_0.out⟩, ⟨by repeat (first | (with_reducible first | exact HK.out | apply Kept.alloc | apply Kept.drewN | apply Kept.drew) | exact HK.out)⟩, ⟨Bx HB.out⟩⟩
     ·
      rw [if_neg c10] at H
      exact absurd H (by simp)
    ·
     rw [if_neg c9] at H
     exact absurd H (by simp)
   ·
    rw [if_neg c5] at H
    have c5b0 : decide (x16_1 < (wrap64 ((l2.length : Int) + 1))) = false := decide_eq_false c5
    clear c5
    simp only [Option.some.injEq, Prod.mk.injEq] at H
    obtain ⟨rfl, rfl⟩ := H
    go_wp2
    go_ret
    exact ⟨by first | rfl | (simp only [u64_u32_] <;> rfl) | (simp [errW_none, errW_some] <;> rfl) | (simp [*, errW_none, errW_some] <;> rfl), by first | exact Kd.Rx HO_0.out | exact HO_0.out, Bx HB.out, by repeat (first | (with_reducible first | exact HK.out | apply Kept.alloc | apply Kept.drewN | apply Kept.drew) | exact HK.out)⟩
end Go.Proofs.Ytpmbcdakpmceiaa.F

end
section
namespace Go.Proofs.Ytpmbcdakpmceiaa.F
open Go.RowKit Go.Proofs.YtpmbcdakpmceiaaW.PrintWords Go.Proofs.YtpmbcdakpmceiaaW.PrintLast Go.Proofs.YtpmbcdakpmceiaaW.PrintMore
attribute [local go_sem] max2_int min2_int max_two min_two max_three min_three max_four min_four
set_option linter.unusedVariables false
set_option linter.unusedSimpArgs false
def divide_give.l0 : Nat → List Int → Int → List Int → Int → Int → Int → Option (List Int)
 | 0, _, _, _, _, _, _ => none
 | k + 1, x0, x1, x2, x6, x10, x11 => if x11 < x10 then (if 0 ≤ (wrap64 (x1 + x11)) then (if (wrap64 (x1 + x11)) < (x0.length : Int) then ((divide_at.f x2 x11).bind fun t403 => ((limb_Add.f (rd x0 (wrap64 (x1 + x11))) t403 x6).bind fun bt404 => (divide_give.l0 k (x0.set ((wrap64 (x1 + x11)) : Int).toNat bt404.1) x1 x2 bt404.2 x10 (wrap64 (x11 + 1))))) else (none)) else (none)) else (some x0)
def divide_give.f (k : Nat) (l0 : List Int) (a1 : Int) (l2 : List Int) : Option (List Int) := divide_give.l0 k l0 a1 l2 0 (wrap64 ((l2.length : Int) + 1)) 0
theorem divide_give.mono_l : ∀ k, (∀ y0 y1 y2 y3 y4 y5, LeO (divide_give.l0 k y0 y1 y2 y3 y4 y5) (divide_give.l0 (k + 1) y0 y1 y2 y3 y4 y5))
 | 0 => fun _ _ _ _ _ _ r h => by simp [divide_give.l0] at h
 | k + 1 => by
  have ih0 := divide_give.mono_l k
  ·
   intro y0 y1 y2 y3 y4 y5
   unfold divide_give.l0
   repeat' first
   | (with_reducible exact ih0 _ _ _ _ _ _)
   | (with_reducible exact LeO.refl _)
   | (with_reducible exact LeO.none _)
   | (with_reducible refine LeO.ite ?_ ?_)
   | (with_reducible refine LeO.bind ?_ (fun _ => ?_))
   | exact ih0 _ _ _ _ _ _
   | exact LeO.none _
   | refine LeO.ite ?_ ?_
   | refine LeO.bind ?_ (fun _ => ?_)
theorem divide_give.mono : ∀ a0 a1 a2 k, LeO (divide_give.f k a0 a1 a2) (divide_give.f (k + 1) a0 a1 a2) := by
 intro a0 a1 a2 k
 have ih0 := divide_give.mono_l k
 unfold divide_give.f
 repeat' first
   | (with_reducible exact ih0 _ _ _ _ _ _)
   | (with_reducible exact LeO.refl _)
   | (with_reducible exact LeO.none _)
   | (with_reducible refine LeO.ite ?_ ?_)
   | (with_reducible refine LeO.bind ?_ (fun _ => ?_))
   | exact ih0 _ _ _ _ _ _
   | exact LeO.none _
   | refine LeO.ite ?_ ?_
   | refine LeO.bind ?_ (fun _ => ?_)
mutual
def nat_Shr.j0 : Nat → List Int → Int → Int → Bool → Option (List Int × Int)
 | 0, _, _, _, _ => none
 | k + 1, x0, x1, x6, x20 => if x20 = true then (some (([] : List Int), x6)) else (if 0 ≤ (wrap64 ((x0.length : Int) - (wrap64 (Int.tdiv x1 32)))) then (if (wrap64 ((x0.length : Int) - (wrap64 (Int.tdiv x1 32))) : Int).toNat ≤ 35184372088832 then ((some (List.replicate (wrap64 ((x0.length : Int) - (wrap64 (Int.tdiv x1 32))) : Int).toNat 0 : List Int)).bind fun y408 => (nat_Shr.l0 k x0 x1 y408 (y408.length : Int) 0)) else (none)) else (none))
def nat_Shr.l0 : Nat → List Int → Int → List Int → Int → Int → Option (List Int × Int)
 | 0, _, _, _, _, _ => none
 | k + 1, x0, x1, x7, x29, x30 => if x30 < x29 then (if 0 ≤ (wrap64 (x30 + (wrap64 (Int.tdiv x1 32)))) then (if (wrap64 (x30 + (wrap64 (Int.tdiv x1 32)))) < (x0.length : Int) then ((nat_at.f x0 (wrap64 ((wrap64 (x30 + (wrap64 (Int.tdiv x1 32)))) + 1))).bind fun t412 => (if 0 ≤ (Int.tmod x1 32) then (if 0 ≤ x30 then (if x30 < (x7.length : Int) then (nat_Shr.l0 k x0 x1 (x7.set (x30 : Int).toNat (Int.tmod (shr .u64 (Go.bits .or .u64 (rd x0 (wrap64 (x30 + (wrap64 (Int.tdiv x1 32))))) (IntKind.u64.wrap (t412 * 4294967296))) (Int.tmod x1 32)) 4294967296)) x29 (wrap64 (x30 + 1))) else (none)) else (none)) else (none))) else (none)) else (none)) else ((nat_trim.f k x7).bind fun t414 => (some (t414, 0)))
end
def nat_Shr.f (k : Nat) (l0 : List Int) (a1 : Int) : Option (List Int × Int) := (nat_shift.f a1).bind fun t407 => (if t407 = 0 then (nat_Shr.j0 k l0 a1 t407 (decide ((wrap64 (Int.tdiv a1 32)) ≥ (l0.length : Int)))) else (nat_Shr.j0 k l0 a1 t407 true))
theorem nat_Shr.mono_l : ∀ k, (∀ y0 y1 y2 y3, LeO (nat_Shr.j0 k y0 y1 y2 y3) (nat_Shr.j0 (k + 1) y0 y1 y2 y3)) ∧ (∀ y0 y1 y2 y3 y4, LeO (nat_Shr.l0 k y0 y1 y2 y3 y4) (nat_Shr.l0 (k + 1) y0 y1 y2 y3 y4))
 | 0 => ⟨fun _ _ _ _ r h => by simp [nat_Shr.j0] at h, fun _ _ _ _ _ r h => by simp [nat_Shr.l0] at h⟩
 | k + 1 => by
  obtain ⟨ih0, ih1⟩ := nat_Shr.mono_l k
  refine ⟨?_, ?_⟩
  ·
   intro y0 y1 y2 y3
   unfold nat_Shr.j0
   repeat' first
   | (with_reducible exact ih0 _ _ _ _)
   | (with_reducible exact ih1 _ _ _ _ _)
   | (with_reducible exact nat_trim.mono _ _)
   | (with_reducible exact LeO.refl _)
   | (with_reducible exact LeO.none _)
   | (with_reducible refine LeO.ite ?_ ?_)
   | (with_reducible refine LeO.bind ?_ (fun _ => ?_))
   | exact ih0 _ _ _ _
   | exact ih1 _ _ _ _ _
   | exact nat_trim.mono _ _
   | exact LeO.none _
   | refine LeO.ite ?_ ?_
   | refine LeO.bind ?_ (fun _ => ?_)
  ·
   intro y0 y1 y2 y3 y4
   unfold nat_Shr.l0
   repeat' first
   | (with_reducible exact ih0 _ _ _ _)
   | (with_reducible exact ih1 _ _ _ _ _)
   | (with_reducible exact nat_trim.mono _ _)
   | (with_reducible exact LeO.refl _)
   | (with_reducible exact LeO.none _)
   | (with_reducible refine LeO.ite ?_ ?_)
   | (with_reducible refine LeO.bind ?_ (fun _ => ?_))
   | exact ih0 _ _ _ _
   | exact ih1 _ _ _ _ _
   | exact nat_trim.mono _ _
   | exact LeO.none _
   | refine LeO.ite ?_ ?_
   | refine LeO.bind ?_ (fun _ => ?_)
theorem nat_Shr.mono : ∀ a0 a1 k, LeO (nat_Shr.f k a0 a1) (nat_Shr.f (k + 1) a0 a1) := by
 intro a0 a1 k
 obtain ⟨ih0, ih1⟩ := nat_Shr.mono_l k
 unfold nat_Shr.f
 repeat' first
   | (with_reducible exact ih0 _ _ _ _)
   | (with_reducible exact ih1 _ _ _ _ _)
   | (with_reducible exact nat_trim.mono _ _)
   | (with_reducible exact LeO.refl _)
   | (with_reducible exact LeO.none _)
   | (with_reducible refine LeO.ite ?_ ?_)
   | (with_reducible refine LeO.bind ?_ (fun _ => ?_))
   | exact ih0 _ _ _ _
   | exact ih1 _ _ _ _ _
   | exact nat_trim.mono _ _
   | exact LeO.none _
   | refine LeO.ite ?_ ?_
   | refine LeO.bind ?_ (fun _ => ?_)
end Go.Proofs.Ytpmbcdakpmceiaa.F

end
section
namespace Go.Proofs.Ytpmbcdakpmceiaa.F
open Go.RowKit Go.Proofs.YtpmbcdakpmceiaaW.PrintWords Go.Proofs.YtpmbcdakpmceiaaW.PrintLast Go.Proofs.YtpmbcdakpmceiaaW.PrintMore
attribute [local go_sem] max2_int min2_int max_two min_two max_three min_three max_four min_four
set_option linter.unusedVariables false
set_option linter.unusedSimpArgs false
def divide_give.T4 : Bool × List (List Nat × List Nat) := (true, [([], []), ([], []), ([], []), ([1, 2], [1, 2]), ([], []), ([], []), ([], []), ([5, 6], [5, 6]), ([4, 7], [4, 7]), ([8], [8]), ([], []), ([], []), ([10, 11], [10, 11]), ([], []), ([9, 12, 13, 12], [9, 12, 13]), ([14], [14]), ([15], [15]), ([15], [15]), ([0, 3, 0, 1, 2, 3, 4, 5, 6, 7, 8, 9, 10, 11, 12, 13, 14, 15, 16], [0, 3]), ([18, 16, 14, 0, 1, 2, 3, 4, 5, 6, 7, 8, 9, 10, 11, 12, 13, 14, 15, 16], [16, 18]), ([17, 19, 0, 1, 2, 3, 4, 5, 6, 7, 8, 9, 10, 11, 12, 13, 14, 15, 16, 17, 18, 19], [13, 17])])
def divide_give.B4 : List Nat := [0, 0, 0, 6, 0, 0, 0, 96, 240, 496, 0, 0, 3072, 0, 16368, 32752, 65520, 65520, 131071, 393215, 1048575]
theorem divide_give.tab4 : rtab .any (opsOf Try.f163 4) = divide_give.T4 := by kernel_rfl
theorem divide_give.bits4 : waitsOk divide_give.T4.2 divide_give.B4 = true := by kernel_rfl
set_option maxHeartbeats 8000000 in
set_option maxRecDepth 100000 in
theorem divide_give.calls (k : Nat) (P0_ : Nat → Prop) (u9000_ : Value) (l0 : List Int) (a1 : Int) (A2 : Option Addr) (c2 : Nat) (l2 : List Int) (r : List Int) (w0 w : World) (hB : Below w0.heap.size w0 w) (ho0 : Kd.R (Kd.int .u64) 96 w w0.heap.size P0_ u9000_ l0) (hr2 : ∀ W_, Kept w W_ (fun k_ => P0_ k_) → Kd.C (Kd.int .u64) W_ A2 l2.length l2) (hc2 : l2.length ≤ c2) (h : divide_give.f k l0 a1 l2 = some r) :
  Calls Try.prog 163 #[u9000_, .int .i64 a1, .slice A2 l2.length c2] w fun e w' => e = .returned (.tuple #[]) ∧ Kd.R (Kd.int .u64) 96 w' w0.heap.size (fun k_ => (P0_ k_ ∨ w.heap.size ≤ k_)) u9000_ r ∧ Below w0.heap.size w0 w' ∧ Kept w w' (fun k_ => P0_ k_) := by
 have HO0 := Aside0.mk (show Kd.R (Kd.int .u64) 96 w w0.heap.size (fun k_ => (P0_ k_ ∨ w.heap.size ≤ k_)) u9000_ l0 from Kd.R_mono ho0 (fun k_ hk => (.inl hk)))
 have HR2 := Aside0.mk hr2
 have HC2 := Aside0.mk hc2
 clear hr2 hc2
 have HK := Aside0.mk (Kept.refl w (fun k_ => P0_ k_))
 have HW0 := Aside0.mk hB.size
 have HB := Aside0.mk hB
 clear hB
 have H : (divide_give.l0 k l0 a1 l2 0 (wrap64 ((l2.length : Int) + 1)) 0) = some r := h
 clear h
 have H' := Aside0.mk H
 clear H
 go_enter Try.func163, Try.ntmps163
 go_wp2
 go_loopg [6, 11] k (fun kq v6 v11 w' => ∃ (x0_1 : List Int) (x6_1 : Int) (x11_1 : Int), v6 = .int .u64 x6_1 ∧ v11 = .int .i64 x11_1 ∧ Aside0 (divide_give.l0 kq x0_1 a1 l2 x6_1 (wrap64 ((l2.length : Int) + 1)) x11_1 = some r) ∧ Aside0 (kq ≤ k) ∧ Aside0 (Kd.R (Kd.int .u64) 96 w' w0.heap.size (fun k_ => (P0_ k_ ∨ w.heap.size ≤ k_)) u9000_ x0_1) ∧ Aside0 (Kept w w' (fun k_ => P0_ k_)) ∧ Aside0 (Below w0.heap.size w0 w'))
 case atStart => exact ⟨(l0), (0), (0), (by first | rfl | (simp; done) | (simp [*]; done)), (by first | rfl | (simp; done) | (simp [*]; done)), H', ⟨Nat.le_refl _⟩, ⟨by first | exact Kd.Rx HO0.out | exact HO0.out⟩, ⟨by repeat (first | (with_reducible first | exact HK.out | apply Kept.alloc | apply Kept.drewN | apply Kept.drew) | exact HK.out)⟩, ⟨Bx HB.out⟩⟩
 case round =>
  clear H'
  try clear c1
  try clear c2
  try clear p2
  obtain ⟨x0_1, x6_1, x11_1, rfl, rfl, HA, HK1, HO_0, HK, HB⟩ := hrel
  cases gk with
  | zero => exact absurd HA.out (by simp [divide_give.l0])
  | succ k1 =>
   have H := HA.out
   clear HA
   simp only [divide_give.l0] at H
   by_cases c4 : x11_1 < (wrap64 ((l2.length : Int) + 1))
   ·
    rw [if_pos c4] at H
    have c4b0 : decide (x11_1 < (wrap64 ((l2.length : Int) + 1))) = true := decide_eq_true c4
    clear c4
    obtain ⟨ji5, hji5⟩ : ∃ j_ : Int, (wrap64 (a1 + x11_1)) = j_ := ⟨_, rfl⟩
    replace H : (if 0 ≤ (ji5) then (if (ji5) < (x0_1.length : Int) then ((divide_at.f l2 x11_1).bind fun t403 => ((limb_Add.f (rd x0_1 (ji5)) t403 x6_1).bind fun bt404 => (divide_give.l0 k1 (x0_1.set ((ji5) : Int).toNat bt404.1) a1 l2 bt404.2 (wrap64 ((l2.length : Int) + 1)) (wrap64 (x11_1 + 1))))) else (none)) else (none)) = some r := by first | (rw [hji5] at H; exact H) | (simp only [hji5] at H ⊢; exact H)
    have hji5w : (IntKind.i64.wrap (a1 + x11_1)) = ji5 := (i64_w _).trans hji5
    by_cases c6 : 0 ≤ (ji5)
    ·
     rw [if_pos c6] at H
     have c6b0 : decide (0 ≤ (ji5)) = true := decide_eq_true c6
     clear c6
     by_cases c7 : (ji5) < (x0_1.length : Int)
     ·
      rw [if_pos c7] at H
      have c7b0 : decide ((ji5) < (x0_1.length : Int)) = true := decide_eq_true c7
      clear c7
      replace H := Option.bind_eq_some_iff.mp H
      obtain ⟨t403, A80, H⟩ := H
      replace H : ((limb_Add.f (rd x0_1 (ji5)) t403 x6_1).bind fun bt404 => (divide_give.l0 k1 (x0_1.set ((ji5) : Int).toNat bt404.1) a1 l2 bt404.2 (wrap64 ((l2.length : Int) + 1)) (wrap64 (x11_1 + 1)))) = some r := H
      have A8 := Aside0.mk A80
      clear A80
      replace H := Option.bind_eq_some_iff.mp H
      obtain ⟨⟨t404, t405⟩, A90, H⟩ := H
      replace H : (divide_give.l0 k1 (x0_1.set ((ji5) : Int).toNat t404) a1 l2 t405 (wrap64 ((l2.length : Int) + 1)) (wrap64 (x11_1 + 1))) = some r := H
      have A9 := Aside0.mk A90
      clear A90
      obtain ⟨y406, hy406⟩ : ∃ y_ : List Int, y_ = (x0_1.set ((ji5) : Int).toNat t404) := ⟨_, rfl⟩
      replace H : (divide_give.l0 k1 y406 a1 l2 t405 (wrap64 ((l2.length : Int) + 1)) (wrap64 (x11_1 + 1))) = some r := by first | (rw [hy406]; with_reducible exact H) | (have H2_ := (Option.bind_some _ _).symm.trans H; rw [hy406]; with_reducible exact H2_) | (have H2_ := (Option.bind_some _ _).symm.trans H; with_reducible exact H2_) | with_reducible exact H | (rw [hy406]; exact H) | exact H
      have Ny406 := Aside0.mk hy406
      clear hy406
      have H' := Aside0.mk H
      clear H
      try go_wp2
      replace HO_0 := Aside0.mk (Kd.R_drew HO_0.out)
      replace HK := Aside0.mk (Kept.drew HK.out)
      replace HB := Aside0.mk (below_drew1 HB.out)
      obtain ⟨Ao12, co12, eo12⟩ := Kd.R_slice HO_0.out
      (first | subst eo12 | (injection eo12 with f1_ f2_ f3_; have f4_ := f1_.symm; have f5_ := f3_.symm; clear f1_ f2_ f3_; subst f4_; subst f5_))
      have p402 : 0 ≤ ((ji5) : Int) := tx
      have q402 : (ji5) < (x0_1.length : Int) := tx
      obtain ⟨ad402, e402, hx402_0⟩ := Kd.at_int (Kd.R_reads' HO_0.out).2.2 (ji5) p402 q402
      cases e402
      replace p402 := eq_true p402
      replace q402 := eq_true q402
      refine start_ (n := 21) (S := fun w' => w'.cell? (ad402.add ((ji5)).toNat) = some (.int .u64 (rd x0_1 (ji5)))) (ds := [19]) #[false, false, false, false, false, false, false, false, false, false, false, false, false, false, false, false, false, false, false, false, false] (by kernel_rfl) rfl rfl (hx402_0) (fun hHeld => ?_); refine with_tabW divide_give.tab4 divide_give.bits4 (fun HT_ HW_ => ?_)
      generalize wr.drew = w11 at HO_0 HK HB hx402_0 hHeld ⊢
      refine pure_ (i := 0) (N := some 15) (v := ?_) (a' := ?_) #[true, false, false, false, false, false, false, false, false, false, false, false, false, false, false, false, false, false, false, false, false] rfl rfl (any_of HT_.out (by kernel_rfl)) (fun _ _ _ h => h) (Or.inl ⟨by rfl, ?_⟩) ?_ ?_
      rotate_left
      ·
       intro w'
       go_simp
       with_reducible rfl
      rotate_left
      ·
       simp only [Act.put, List.setIfInBounds_toArray, List.set_cons_zero, List.set_cons_succ, i64_w, i32_w]
       rfl
      refine pure_ (i := 1) (N := some 16) (v := ?_) (a' := ?_) #[true, true, false, false, false, false, false, false, false, false, false, false, false, false, false, false, false, false, false, false, false] rfl rfl (any_of HT_.out (by kernel_rfl)) (fun _ _ _ h => h) (Or.inl ⟨by rfl, ?_⟩) ?_ ?_
      rotate_left
      ·
       intro w'
       go_simp
       with_reducible rfl
      rotate_left
      ·
       simp only [Act.put, List.setIfInBounds_toArray, List.set_cons_zero, List.set_cons_succ, i64_w, i32_w]
       rfl
      refine pure_ (i := 2) (N := some 17) (v := ?_) (a' := ?_) #[true, true, true, false, false, false, false, false, false, false, false, false, false, false, false, false, false, false, false, false, false] rfl rfl (any_of HT_.out (by kernel_rfl)) (fun _ _ _ h => h) (Or.inl ⟨by rfl, ?_⟩) ?_ ?_
      rotate_left
      ·
       intro w'
       go_simp
       with_reducible rfl
      rotate_left
      ·
       simp only [Act.put, List.setIfInBounds_toArray, List.set_cons_zero, List.set_cons_succ, i64_w, i32_w]
       rfl
      refine pure_ (i := 3) (N := some 18) (v := ?_) (a' := ?_) #[true, true, true, true, false, false, false, false, false, false, false, false, false, false, false, false, false, false, false, false, false] rfl rfl (any_of HT_.out (by kernel_rfl)) (fun _ _ _ h => h) (Or.inl ⟨by rfl, ?_⟩) ?_ ?_
      rotate_left
      ·
       intro w'
       go_simp
       with_reducible rfl
      rotate_left
      ·
       simp only [Act.put, List.setIfInBounds_toArray, List.set_cons_zero, List.set_cons_succ, i64_w, i32_w]
       rfl
      refine pure_ (i := 4) (N := some 19) (v := ?_) (a' := ?_) #[true, true, true, true, true, false, false, false, false, false, false, false, false, false, false, false, false, false, false, false, false] rfl rfl (any_of HT_.out (by kernel_rfl)) (fun _ _ _ h => h) (Or.inl ⟨by rfl, ?_⟩) ?_ ?_
      rotate_left
      ·
       intro w'
       go_simp
       with_reducible rfl
      rotate_left
      ·
       simp only [Act.put, List.setIfInBounds_toArray, List.set_cons_zero, List.set_cons_succ, i64_w, i32_w]
       rfl
      refine pure_ (i := 5) (N := some 20) (v := ?_) (a' := ?_) #[true, true, true, true, true, true, false, false, false, false, false, false, false, false, false, false, false, false, false, false, false] rfl rfl (any_of HT_.out (by kernel_rfl)) (fun _ _ _ h => h) (Or.inl ⟨by rfl, ?_⟩) ?_ ?_
      rotate_left
      ·
       intro w'
       go_simp
       with_reducible rfl
      rotate_left
      ·
       simp only [Act.put, List.setIfInBounds_toArray, List.set_cons_zero, List.set_cons_succ, i64_w, i32_w]
       rfl
      refine pure_ (i := 6) (N := some 21) (v := ?_) (a' := ?_) #[true, true, true, true, true, true, true, false, false, false, false, false, false, false, false, false, false, false, false, false, false] rfl rfl (any_of HT_.out (by kernel_rfl)) (fun _ _ _ h => h) (Or.inl ⟨by rfl, ?_⟩) ?_ ?_
      rotate_left
      ·
       intro w'
       go_simp
       with_reducible rfl
      rotate_left
      ·
       simp only [Act.put, List.setIfInBounds_toArray, List.set_cons_zero, List.set_cons_succ, i64_w, i32_w]
       rfl
      refine pure_ (i := 7) (N := some 22) (v := ?_) (a' := ?_) #[true, true, true, true, true, true, true, true, false, false, false, false, false, false, false, false, false, false, false, false, false] rfl rfl (any_of HT_.out (by kernel_rfl)) (fun _ _ _ h => h) (Or.inl ⟨by rfl, ?_⟩) ?_ ?_
      rotate_left
      ·
       intro w'
       go_simp
       with_reducible rfl
      rotate_left
      ·
       simp only [Act.put, List.setIfInBounds_toArray, List.set_cons_zero, List.set_cons_succ, i64_w, i32_w]
       rfl
      refine pure_ (i := 8) (N := some 23) (v := ?_) (a' := ?_) #[true, true, true, true, true, true, true, true, true, false, false, false, false, false, false, false, false, false, false, false, false] rfl rfl (any_of HT_.out (by kernel_rfl)) (fun _ _ _ h => h) (Or.inl ⟨by rfl, ?_⟩) ?_ ?_
      rotate_left
      ·
       intro w'
       go_simp
       with_reducible rfl
      rotate_left
      ·
       simp only [Act.put, List.setIfInBounds_toArray, List.set_cons_zero, List.set_cons_succ, i64_w, i32_w]
       rfl
      refine pure_ (i := 10) (N := some 25) (v := ?_) (a' := ?_) #[true, true, true, true, true, true, true, true, true, false, true, false, false, false, false, false, false, false, false, false, false] rfl rfl (any_of HT_.out (by kernel_rfl)) (fun _ _ _ h => h) (Or.inl ⟨by rfl, ?_⟩) ?_ ?_
      rotate_left
      ·
       intro w'
       go_simp
       with_reducible rfl
      rotate_left
      ·
       simp only [Act.put, List.setIfInBounds_toArray, List.set_cons_zero, List.set_cons_succ, i64_w, i32_w]
       rfl
      refine pure_ (i := 11) (N := some 26) (v := ?_) (a' := ?_) #[true, true, true, true, true, true, true, true, true, false, true, true, false, false, false, false, false, false, false, false, false] rfl rfl (any_of HT_.out (by kernel_rfl)) (fun _ _ _ h => h) (Or.inl ⟨by rfl, ?_⟩) ?_ ?_
      rotate_left
      ·
       intro w'
       go_simp
       with_reducible rfl
      rotate_left
      ·
       simp only [Act.put, List.setIfInBounds_toArray, List.set_cons_zero, List.set_cons_succ, i64_w, i32_w]
       rfl
      refine pure_ (i := 13) (N := some 28) (v := ?_) (a' := ?_) #[true, true, true, true, true, true, true, true, true, false, true, true, false, true, false, false, false, false, false, false, false] rfl rfl (any_of HT_.out (by kernel_rfl)) (fun _ _ _ h => h) (Or.inl ⟨by rfl, ?_⟩) ?_ ?_
      rotate_left
      ·
       intro w'
       go_simp
       with_reducible rfl
      rotate_left
      ·
       simp only [Act.put, List.setIfInBounds_toArray, List.set_cons_zero, List.set_cons_succ, i64_w, i32_w]
       rfl
      refine take_ (i := 9) (N := some 24) (v := ?_) (a' := ?_) #[true, true, true, true, true, true, true, true, true, true, true, true, false, true, false, false, false, false, false, false, false] rfl rfl (take_ofW HT_.out HW_.out (by kernel_rfl)) (fun _ _ _ h => h) (Or.inl ⟨by rfl, ?_⟩) hHeld ?_ ?_
      rotate_left
      ·
       intro w' s0
       go_simp
       with_reducible rfl
      rotate_left
      ·
       simp only [Act.put, List.setIfInBounds_toArray, List.set_cons_zero, List.set_cons_succ, i64_w, i32_w]
       rfl
      refine one_ (i := 12) (N := some 27) #[true, true, true, true, true, true, true, true, true, true, true, true, true, true, false, false, false, false, false, false, false] rfl rfl (one_of HT_.out (by kernel_rfl)) (by decide) (fun K hK => ?_)
      refine goes_ Try.func166 (by kernel_rfl) rfl #[.slice A2 l2.length c2, .int .i64 x11_1] (by rfl) rfl rfl (by (try simp only [List.map_toArray, List.map_cons, List.map_nil]); first | done | rfl | (simp only [List.length_drop, List.length_take]; rfl)) ?_
      with_reducible refine (divide_at.calls _ _ l2 x11_1 t403 _ ?side1 ?side2 A8.out).mono ?_
      (case side1 => exact Kd.C_kept_now HR2.out (by repeat (first | (with_reducible first | exact HK.out | apply Kept.alloc | apply Kept.drewN | apply Kept.drew) | exact HK.out)))
      (case side2 => exact HC2.out)
      rintro e w' ⟨rfl, ⟨nd, rfl⟩⟩
      refine ⟨_, rfl, ?_⟩
      refine hK.out _ _ (hHeld) (fun hHeld => ?_)
      clear hK K
      refine norm_ (a' := ?_) ?_ ?_
      rotate_left
      ·
       show Act.put _ (some 27) _ = _
       simp only [Act.put, List.setIfInBounds_toArray, List.set_cons_zero, List.set_cons_succ, i64_w, i32_w]
       rfl
      refine one_ (i := 14) (N := some 29) #[true, true, true, true, true, true, true, true, true, true, true, true, true, true, true, false, false, false, false, false, false] rfl rfl (one_of HT_.out (by kernel_rfl)) (by decide) (fun K hK => ?_)
      refine goes_ Try.func117 (by kernel_rfl) rfl #[.int .u64 (rd x0_1 (ji5)), .int .u64 t403, .int .u64 x6_1] (by rfl) rfl rfl (by (try simp only [List.map_toArray, List.map_cons, List.map_nil]); first | done | (simp only [hji5]; rfl) | rfl | (simp only [List.length_drop, List.length_take]; rfl)) ?_
      with_reducible refine (limb_Add.calls (rd x0_1 (ji5)) t403 x6_1 t404 t405 _ A9.out).mono ?_
      rintro e w' ⟨rfl, ⟨nd, rfl⟩⟩
      refine ⟨_, rfl, ?_⟩
      have p10 : 0 ≤ ((ji5) : Int) := tx
      have q10 : ((ji5) : Int) < ((x0_1.length : Int) : Int) := tx
      obtain ⟨go10, co10, eo10, gb10, gl10, cl10, HG10⟩ := Kd.R_form HO_0.out (by omega)
      (first | cases eo10 | (injection eo10 with ea_ en_ ec_; (first | subst ea_ | (injection ea_ with ea_; subst ea_)); subst ec_; clear en_))
      have GB10 := Aside0.mk gb10
      have GG10 := Aside0.mk HG10
      clear gb10 gl10 HG10
      have HMgo10 := Aside0.mk (show (P0_ go10 ∨ w.heap.size ≤ go10) from (HO_0.out.1 _ rfl))
      (first | simp only [add_plain] at hx402_0 | skip)
      obtain ⟨hx10_0, hf10_0⟩ := Kd.R_celln 0 HO_0.out ((ji5) : Int) p10 q10
      replace p10 := eq_true p10
      replace q10 := eq_true q10
      have HP13 := Kd.R_putn HO_0.out ((ji5) : Int) t404
      rw [← Ny406.out] at HP13
      have HQ13 := Aside0.mk HP13
      clear HP13
      refine hK.out _ _ (hHeld) (fun hHeld => ?_)
      clear hK K
      refine norm_ (a' := ?_) ?_ ?_
      rotate_left
      ·
       show Act.put _ (some 29) _ = _
       simp only [Act.put, List.setIfInBounds_toArray, List.set_cons_zero, List.set_cons_succ, i64_w, i32_w]
       rfl
      refine pure_ (i := 15) (N := some 14) (v := ?_) (a' := ?_) #[true, true, true, true, true, true, true, true, true, true, true, true, true, true, true, true, false, false, false, false, false] rfl rfl (any_of HT_.out (by kernel_rfl)) (fun _ _ _ h => h) (Or.inl ⟨by rfl, ?_⟩) ?_ ?_
      rotate_left
      ·
       intro w'
       go_simp
       with_reducible rfl
      rotate_left
      ·
       simp only [Act.put, List.setIfInBounds_toArray, List.set_cons_zero, List.set_cons_succ, i64_w, i32_w]
       rfl
      refine pure_ (i := 16) (N := some 30) (v := ?_) (a' := ?_) #[true, true, true, true, true, true, true, true, true, true, true, true, true, true, true, true, true, false, false, false, false] rfl rfl (any_of HT_.out (by kernel_rfl)) (fun _ _ _ h => h) (Or.inl ⟨by rfl, ?_⟩) ?_ ?_
      rotate_left
      ·
       intro w'
       go_simp
       with_reducible rfl
      rotate_left
      ·
       simp only [Act.put, List.setIfInBounds_toArray, List.set_cons_zero, List.set_cons_succ, i64_w, i32_w]
       rfl
      refine pure_ (i := 17) (N := some 31) (v := ?_) (a' := ?_) #[true, true, true, true, true, true, true, true, true, true, true, true, true, true, true, true, true, true, false, false, false] rfl rfl (any_of HT_.out (by kernel_rfl)) (fun _ _ _ h => h) (Or.inl ⟨by rfl, ?_⟩) ?_ ?_
      rotate_left
      ·
       intro w'
       go_simp
       with_reducible rfl
      rotate_left
      ·
       simp only [Act.put, List.setIfInBounds_toArray, List.set_cons_zero, List.set_cons_succ, i64_w, i32_w]
       rfl
      refine pure_ (i := 18) (N := some 32) (v := ?_) (a' := ?_) #[true, true, true, true, true, true, true, true, true, true, true, true, true, true, true, true, true, true, true, false, false] rfl rfl (any_of HT_.out (by kernel_rfl)) (fun _ _ _ h => h) (Or.inl ⟨by rfl, ?_⟩) ?_ ?_
      rotate_left
      ·
       intro w'
       go_simp
       with_reducible rfl
      rotate_left
      ·
       simp only [Act.put, List.setIfInBounds_toArray, List.set_cons_zero, List.set_cons_succ, i64_w, i32_w]
       rfl
      refine last_ (i := 19) (N := none) #[true, true, true, true, true, true, true, true, true, true, true, true, true, true, true, true, true, true, true, true, false] rfl rfl (one_of HT_.out (by kernel_rfl)) (by decide) (fun K hK => ?_)
      refine skip_ (w1 := ?_) (by rfl) rfl ?_ ?_
      rotate_left
      ·
       go_simp
       rfl
      refine hK.out _ _ ?_
      clear hK K
      refine pure_ (i := 20) (N := some 6) (v := ?_) (a' := ?_) #[true, true, true, true, true, true, true, true, true, true, true, true, true, true, true, true, true, true, true, true, true] rfl rfl (any_of HT_.out (by kernel_rfl)) (fun _ _ _ h => h) (Or.inl ⟨by rfl, ?_⟩) ?_ ?_
      rotate_left
      ·
       intro w'
       go_simp
       with_reducible rfl
      rotate_left
      ·
       simp only [Act.put, List.setIfInBounds_toArray, List.set_cons_zero, List.set_cons_succ, i64_w, i32_w]
       rfl
      refine done_ (done_of HT_.out (by kernel_rfl)) ?_
      try go_wp2
      go_roundg k1
      case measure => have := HK1.out; omega
      case rel => exact ⟨(y406), (t405), (wrap64 (x11_1 + 1)), (by first | rfl | (simp; done) | (simp [*]; done)), (by first | rfl | (simp; done) | (simp [*]; done)), H', ⟨by have := HK1.out; omega⟩, ⟨by first | exact Kd.Rx HQ13.out | exact HQ13.out⟩, ⟨by repeat (first | (with_reducible first | exact HK.out | apply Kept.alloc | apply Kept.drewN | apply Kept.drew | refine Kept.setCell ?_ HMgo10.out _) | exact HK.out)⟩, ⟨Bs⟩⟩
     ·
      rw [if_neg c7] at H
      exact absurd H (by simp)
    ·
     rw [if_neg c6] at H
     exact absurd H (by simp)
   ·
    rw [if_neg c4] at H
    have c4b0 : decide (x11_1 < (wrap64 ((l2.length : Int) + 1))) = false := decide_eq_false c4
    clear c4
    obtain rfl := Option.some.inj H
    go_wp2
    first | go_end0 | ((try simp only [Exit.inBlock, Exit.then]); refine bodyPost_ret (results_none rfl _ _ _) rfl ?_)
    exact ⟨by first | rfl | (simp only [u64_u32_] <;> rfl) | (simp [errW_none, errW_some] <;> rfl) | (simp [*, errW_none, errW_some] <;> rfl), by first | exact Kd.Rx HO_0.out | exact HO_0.out, Bx HB.out, by repeat (first | (with_reducible first | exact HK.out | apply Kept.alloc | apply Kept.drewN | apply Kept.drew) | exact HK.out)⟩
def nat_Shr.T9 : Bool × List (List Nat × List Nat) := (true, [([], []), ([], []), ([], []), ([], []), ([2, 3], [2, 3]), ([4], [4]), ([], []), ([], []), ([7], [7]), ([6, 8], [6, 8]), ([9], [9]), ([5, 10], [5, 10]), ([], []), ([12], [12]), ([11, 13], [11, 13]), ([14], [14]), ([0, 1, 0, 1, 2, 3, 4, 5, 6, 7, 8, 9, 10, 11, 12, 13, 14, 15], [0, 1]), ([16, 15, 9, 0, 1, 2, 3, 4, 5, 6, 7, 8, 9, 10, 11, 12, 13, 14, 15], [15, 16])])
def nat_Shr.B9 : List Nat := [0, 0, 0, 0, 12, 28, 0, 0, 128, 448, 960, 2044, 0, 4096, 16380, 32764, 65535, 131071]
theorem nat_Shr.tab9 : rtab .any (opsOf Try.f164 9) = nat_Shr.T9 := by kernel_rfl
theorem nat_Shr.bits9 : waitsOk nat_Shr.T9.2 nat_Shr.B9 = true := by kernel_rfl
set_option maxHeartbeats 8000000 in
set_option maxRecDepth 100000 in
theorem nat_Shr.calls (k : Nat) (A0 : Option Addr) (c0 : Nat) (l0 : List Int) (a1 : Int) (r1 : List Int) (r2 : Int) (w : World) (hr0 : Kd.C (Kd.int .u64) w A0 l0.length l0) (hc0 : l0.length ≤ c0) (h : nat_Shr.f k l0 a1 = some (r1, r2)) :
  Calls Try.prog 164 #[.slice A0 l0.length c0, .int .i64 a1] w fun e w' => ∃ v0_ : Value, e = .returned (.tuple #[v0_, .int .i64 r2]) ∧ Kd.R (Kd.int .u64) 96 w' w.heap.size (fun _ => True) v0_ r1 ∧ Below w.heap.size w w' := by
 have HR0 := Aside0.mk hr0
 have HC0 := Aside0.mk hc0
 clear hr0 hc0
 have HB := Aside0.mk (Below.refl w.heap.size w)
 have H : ((nat_shift.f a1).bind fun t407 => (if t407 = 0 then (nat_Shr.j0 k l0 a1 t407 (decide ((wrap64 (Int.tdiv a1 32)) ≥ (l0.length : Int)))) else (nat_Shr.j0 k l0 a1 t407 true))) = some (r1, r2) := h
 clear h
 replace H := Option.bind_eq_some_iff.mp H
 obtain ⟨t407, A30, H⟩ := H
 replace H : (if t407 = 0 then (nat_Shr.j0 k l0 a1 t407 (decide ((wrap64 (Int.tdiv a1 32)) ≥ (l0.length : Int)))) else (nat_Shr.j0 k l0 a1 t407 true)) = some (r1, r2) := H
 have A3 := Aside0.mk A30
 clear A30
 have HC4 := Aside0.mk H
 clear H
 go_enter Try.func164, Try.ntmps164
 go_upto_region 2 with (first | ((with_reducible refine gate_callee (f := 165) rfl ?_); refine goesx (some 11) Try.func165 #[.int .i64 a1] ?_; (with_reducible refine (nat_shift.calls a1 t407 _ A3.out).mono ?_); rintro e w' ⟨rfl, ⟨nd, rfl⟩⟩; refine ⟨_, rfl, ?_⟩))
 (try simp only [Act.put, List.setIfInBounds_toArray, List.set_cons_zero, List.set_cons_succ])
 go_cut [20] (fun v20 wc => ∃ (kq : Nat) (x20_3 : Bool), v20 = .bool x20_3 ∧ Aside0 (nat_Shr.j0 kq l0 a1 t407 x20_3 = some (r1, r2)) ∧ Aside0 (kq ≤ k) ∧ Aside0 (Below w.heap.size w wc))
 case first =>
  have H := HC4.out
  clear HC4
  by_cases c5 : t407 = 0
  ·
   rw [if_pos c5] at H
   have c5b0 : (t407 == 0) = true := beq_iff_eq.mpr c5
   have c5b1 : (t407 != 0) = false := bne_eq_false_iff_eq.mpr c5
   clear c5
   (first | rw [c5b0] | (simp only [i64_w, i32_w]; rw [c5b0]) | skip)
   have H' := Aside0.mk H
   clear H
   go_wp2
   go_meet
   case rel => exact ⟨_, (decide ((wrap64 (Int.tdiv a1 32)) ≥ (l0.length : Int))), (by first | rfl | (simp; done) | (simp [*]; done)), H', ⟨by first | omega | exact Nat.le_refl _⟩, ⟨Bx HB.out⟩⟩
  ·
   rw [if_neg c5] at H
   have c5b0 : (t407 == 0) = false := beq_eq_false_iff_ne.mpr c5
   have c5b1 : (t407 != 0) = true := bne_iff_ne.mpr c5
   (first | rw [c5b0] | (simp only [i64_w, i32_w]; rw [c5b0]) | skip)
   have H' := Aside0.mk H
   clear H
   go_wp2
   go_meet
   case rel => exact ⟨_, (true), (by first | rfl | (simp; done) | (simp [*]; done)), H', ⟨by first | omega | exact Nat.le_refl _⟩, ⟨Bx HB.out⟩⟩
 case rest =>
  clear HC4
  try clear c1
  try clear p2
  try clear c5
  try clear c5b0
  try clear c5b1
  obtain ⟨kq, x20_3, rfl, HA, HJ3, HB⟩ := hcut
  cases kq with
  | zero => exact absurd HA.out (by simp [nat_Shr.j0])
  | succ kj3 =>
   have H := HA.out
   clear HA
   simp only [nat_Shr.j0] at H
   by_cases c6 : x20_3 = true
   ·
    subst c6
    have H1 : (some (([] : List Int), t407)) = some (r1, r2) := by rw [if_pos rfl] at H; exact H
    clear H
    have H := H1
    clear H1
    simp only [Option.some.injEq, Prod.mk.injEq] at H
    obtain ⟨rfl, rfl⟩ := H
    go_wp2
    go_ret2
    exact ⟨_, by first | rfl | (simp only [u64_u32_] <;> rfl) | (simp [errW_none, errW_some] <;> rfl) | (simp [*, errW_none, errW_some] <;> rfl), by first | exact Kd.R_nil _ _ _ _ _ | exact Kd.N_nil _ _ _ _ _ | exact Kd.V_nil _ _ _ _ _ | exact Kd.Q_nil _ _ _ _ _ | exact Kd.S_nil _ _ _ _ _, Bx HB.out⟩
   ·
    replace c6 := Bool.eq_false_iff.mpr c6
    subst c6
    have H1 : (if 0 ≤ (wrap64 ((l0.length : Int) - (wrap64 (Int.tdiv a1 32)))) then (if (wrap64 ((l0.length : Int) - (wrap64 (Int.tdiv a1 32))) : Int).toNat ≤ 35184372088832 then ((some (List.replicate (wrap64 ((l0.length : Int) - (wrap64 (Int.tdiv a1 32))) : Int).toNat 0 : List Int)).bind fun y408 => (nat_Shr.l0 kj3 l0 a1 y408 (y408.length : Int) 0)) else (none)) else (none)) = some (r1, r2) := by rw [if_neg (show ¬ (false = true) by decide)] at H; exact H
    clear H
    have H := H1
    clear H1
    obtain ⟨ji7, hji7⟩ : ∃ j_ : Int, (wrap64 ((l0.length : Int) - (wrap64 (Int.tdiv a1 32)))) = j_ := ⟨_, rfl⟩
    replace H : (if 0 ≤ (ji7) then (if (ji7 : Int).toNat ≤ 35184372088832 then ((some (List.replicate (ji7 : Int).toNat 0 : List Int)).bind fun y408 => (nat_Shr.l0 kj3 l0 a1 y408 (y408.length : Int) 0)) else (none)) else (none)) = some (r1, r2) := by first | (rw [hji7] at H; exact H) | (simp only [hji7] at H ⊢; exact H)
    have hji7w : (IntKind.i64.wrap ((l0.length : Int) - (wrap64 (Int.tdiv a1 32)))) = ji7 := (i64_w _).trans hji7
    by_cases c8 : 0 ≤ (ji7)
    ·
     rw [if_pos c8] at H
     have c8b0 := eq_true c8
     have c8b1 : decide (0 ≤ (ji7)) = true := decide_eq_true c8
     clear c8
     by_cases c9 : (ji7 : Int).toNat ≤ 35184372088832
     ·
      rw [if_pos c9] at H
      have c9b0 := eq_true c9
      have c9b1 : decide ((ji7 : Int).toNat ≤ 35184372088832) = true := decide_eq_true c9
      clear c9
      obtain ⟨y408, hy408⟩ : ∃ y_ : List Int, y_ = (List.replicate (ji7 : Int).toNat 0) := ⟨_, rfl⟩
      replace H : (nat_Shr.l0 kj3 l0 a1 y408 (y408.length : Int) 0) = some (r1, r2) := by first | (rw [hy408]; with_reducible exact H) | (have H2_ := (Option.bind_some _ _).symm.trans H; rw [hy408]; with_reducible exact H2_) | (have H2_ := (Option.bind_some _ _).symm.trans H; with_reducible exact H2_) | with_reducible exact H | (rw [hy408]; exact H) | exact H
      have Ny408 := Aside0.mk hy408
      clear hy408
      have H' := Aside0.mk H
      clear H
      go_wp2_with (first | ((with_reducible refine gate_dst (N := 27) rfl ?_); (try (refine gate_guard (by rfl) ?_; dsimp only)); refine Kd.R_make (Kd.int .u64) _ 96 rfl (N := 27) rfl 30 _ _ rfl ji7 rfl rfl Try.underlying30 (.int .u64 0) 8 info96 rfl (by decide) (by omega) 0 (ok := fun _ => True) (okp := fun _ => True) rfl (fun _ hk => hk) trivial (tx) (Nat.le_trans (Nat.mul_le_mul_right _ (tx : ji7.toNat ≤ 35184372088832)) (by omega)) (Below.refl _ _) (Nat.le_refl _) ?_; intro v409 w10 ho11 hb hg_ hnew_; clear hg_ hnew_; (first | rw [← Ny408.out] at ho11 | (simp only [Int.reduceToNat] at ho11; rw [← Ny408.out] at ho11)); have HO410 := Aside0.mk (Kd.R_lower ho11 (below_size (Bx HB.out))); replace HB := Aside0.mk (below_step (Bx HB.out) hb); clear hb ho11; obtain ⟨Ao12, co12, eo12⟩ := Kd.R_slice HO410.out; subst eo12))
      go_loopg [30] kj3 (fun kq v30 w' => ∃ (x7_2 : List Int) (x30_2 : Int), v30 = .int .i64 x30_2 ∧ Aside0 (nat_Shr.l0 kq l0 a1 x7_2 (y408.length : Int) x30_2 = some (r1, r2)) ∧ Aside0 (kq ≤ kj3) ∧ Aside0 (Kd.R (Kd.int .u64) 96 w' w.heap.size (fun _ => True) (.slice Ao12 y408.length co12) x7_2) ∧ Aside0 (Below w.heap.size w w'))
      case atStart => exact ⟨(y408), (0), (by first | rfl | (simp; done) | (simp [*]; done)), H', ⟨Nat.le_refl _⟩, ⟨by first | exact Kd.Rx HO410.out | exact HO410.out⟩, ⟨Bx HB.out⟩⟩
      case round =>
       clear H'
       try clear c1
       try clear p2
       try clear c5
       try clear c5b0
       try clear c5b1
       try clear c6
       try clear p6
       try clear c8
       try clear c8b0
       try clear c8b1
       try clear c9
       try clear c9b0
       try clear c9b1
       try clear p2
       obtain ⟨x7_2, x30_2, rfl, HA, HK2, HO_7, HB⟩ := hrel
       have hl7_2 := (Kd.R_reads' HO_7.out).1
       rw [hl7_2] at HO_7
       (try simp only [hl7_2])
       cases gk with
       | zero => exact absurd HA.out (by simp [nat_Shr.l0])
       | succ k2 =>
        have H := HA.out
        clear HA
        simp only [nat_Shr.l0] at H
        by_cases c13 : x30_2 < (y408.length : Int)
        ·
         rw [if_pos c13] at H
         have c13b0 : decide (x30_2 < (y408.length : Int)) = true := decide_eq_true c13
         (try simp only [hl7_2] at c13b0)
         clear c13
         obtain ⟨ji14, hji14⟩ : ∃ j_ : Int, (wrap64 (x30_2 + (wrap64 (Int.tdiv a1 32)))) = j_ := ⟨_, rfl⟩
         replace H : (if 0 ≤ (ji14) then (if (ji14) < (l0.length : Int) then ((nat_at.f l0 (wrap64 ((ji14) + 1))).bind fun t412 => (if 0 ≤ (Int.tmod a1 32) then (if 0 ≤ x30_2 then (if x30_2 < (x7_2.length : Int) then (nat_Shr.l0 k2 l0 a1 (x7_2.set (x30_2 : Int).toNat (Int.tmod (shr .u64 (Go.bits .or .u64 (rd l0 (ji14)) (IntKind.u64.wrap (t412 * 4294967296))) (Int.tmod a1 32)) 4294967296)) (y408.length : Int) (wrap64 (x30_2 + 1))) else (none)) else (none)) else (none))) else (none)) else (none)) = some (r1, r2) := by first | (rw [hji14] at H; exact H) | (simp only [hji14] at H ⊢; exact H)
         have hji14w : (IntKind.i64.wrap (x30_2 + (wrap64 (Int.tdiv a1 32)))) = ji14 := (i64_w _).trans hji14
         by_cases c15 : 0 ≤ (ji14)
         ·
          rw [if_pos c15] at H
          have c15b0 : decide (0 ≤ (ji14)) = true := decide_eq_true c15
          (try simp only [hl7_2] at c15b0)
          clear c15
          by_cases c16 : (ji14) < (l0.length : Int)
          ·
           rw [if_pos c16] at H
           have c16b0 : decide ((ji14) < (l0.length : Int)) = true := decide_eq_true c16
           (try simp only [hl7_2] at c16b0)
           clear c16
           replace H := Option.bind_eq_some_iff.mp H
           obtain ⟨t412, A170, H⟩ := H
           replace H : (if 0 ≤ (Int.tmod a1 32) then (if 0 ≤ x30_2 then (if x30_2 < (x7_2.length : Int) then (nat_Shr.l0 k2 l0 a1 (x7_2.set (x30_2 : Int).toNat (Int.tmod (shr .u64 (Go.bits .or .u64 (rd l0 (ji14)) (IntKind.u64.wrap (t412 * 4294967296))) (Int.tmod a1 32)) 4294967296)) (y408.length : Int) (wrap64 (x30_2 + 1))) else (none)) else (none)) else (none)) = some (r1, r2) := H
           have A17 := Aside0.mk A170
           clear A170
           obtain ⟨ji18, hji18⟩ : ∃ j_ : Int, (Int.tmod a1 32) = j_ := ⟨_, rfl⟩
           replace H : (if 0 ≤ (ji18) then (if 0 ≤ x30_2 then (if x30_2 < (x7_2.length : Int) then (nat_Shr.l0 k2 l0 a1 (x7_2.set (x30_2 : Int).toNat (Int.tmod (shr .u64 (Go.bits .or .u64 (rd l0 (ji14)) (IntKind.u64.wrap (t412 * 4294967296))) (ji18)) 4294967296)) (y408.length : Int) (wrap64 (x30_2 + 1))) else (none)) else (none)) else (none)) = some (r1, r2) := by first | (rw [hji18] at H; exact H) | (simp only [hji18] at H ⊢; exact H)
           (try rw [hji18] at A17)
           by_cases c19 : 0 ≤ (ji18)
           ·
            rw [if_pos c19] at H
            have c19b0 := eq_true c19
            have c19b1 : decide (0 ≤ (ji18)) = true := decide_eq_true c19
            (try simp only [hl7_2] at c19b1)
            clear c19
            obtain ⟨ji20, hji20⟩ : ∃ j_ : Int, (shr .u64 (Go.bits .or .u64 (rd l0 (ji14)) (IntKind.u64.wrap (t412 * 4294967296))) (ji18)) = j_ := ⟨_, rfl⟩
            replace H : (if 0 ≤ x30_2 then (if x30_2 < (x7_2.length : Int) then (nat_Shr.l0 k2 l0 a1 (x7_2.set (x30_2 : Int).toNat (Int.tmod (ji20) 4294967296)) (y408.length : Int) (wrap64 (x30_2 + 1))) else (none)) else (none)) = some (r1, r2) := by first | (rw [hji20] at H; exact H) | (simp only [hji20] at H ⊢; exact H)
            (try rw [hji20] at A17)
            have hji20_ : ((Go.bits .or .u64 (rd l0 (ji14)) (IntKind.u64.wrap (t412 * 4294967296))) / 2 ^ min (ji18).toNat 64) = ji20 := hji20
            have hji20z : (ji18) ≤ 64 → ((Go.bits .or .u64 (rd l0 (ji14)) (IntKind.u64.wrap (t412 * 4294967296))) / 2 ^ (ji18).toNat) = ji20 := shr_small hji20
            by_cases c21 : 0 ≤ x30_2
            ·
             rw [if_pos c21] at H
             have c21b0 : decide (0 ≤ x30_2) = true := decide_eq_true c21
             (try simp only [hl7_2] at c21b0)
             clear c21
             by_cases c22 : x30_2 < (x7_2.length : Int)
             ·
              rw [if_pos c22] at H
              have c22b0 : decide (x30_2 < (x7_2.length : Int)) = true := decide_eq_true c22
              (try simp only [hl7_2] at c22b0)
              clear c22
              obtain ⟨y413, hy413⟩ : ∃ y_ : List Int, y_ = (x7_2.set (x30_2 : Int).toNat (Int.tmod (ji20) 4294967296)) := ⟨_, rfl⟩
              replace H : (nat_Shr.l0 k2 l0 a1 y413 (y408.length : Int) (wrap64 (x30_2 + 1))) = some (r1, r2) := by first | (rw [hy413]; with_reducible exact H) | (have H2_ := (Option.bind_some _ _).symm.trans H; rw [hy413]; with_reducible exact H2_) | (have H2_ := (Option.bind_some _ _).symm.trans H; with_reducible exact H2_) | with_reducible exact H | (rw [hy413]; exact H) | exact H
              have Ny413 := Aside0.mk hy413
              clear hy413
              have H' := Aside0.mk H
              clear H
              try go_wp2
              replace HO_7 := Aside0.mk (Kd.R_drew HO_7.out)
              replace HB := Aside0.mk (below_drew1 HB.out)
              have p411 : 0 ≤ ((ji14) : Int) := tx
              have q411 : (ji14) < (l0.length : Int) := tx
              obtain ⟨ad411, e411, hx411_0⟩ := Kd.at_int HR0.out (ji14) p411 q411
              have hw411_0 := hx411_0
              cases e411
              replace hx411_0 := (HB.out.cell (World.block_lt_of_cell? w _ hx411_0)).trans hx411_0
              replace p411 := eq_true p411
              replace q411 := eq_true q411
              refine start_ (n := 18) (S := fun w' => w'.cell? (ad411.add ((ji14)).toNat) = some (.int .u64 (rd l0 (ji14)))) (ds := [17]) #[false, false, false, false, false, false, false, false, false, false, false, false, false, false, false, false, false, false] (by kernel_rfl) rfl rfl (((HB.out.cell (World.block_lt_of_cell? w _ hw411_0)).trans hw411_0)) (fun hHeld => ?_); refine with_tabW nat_Shr.tab9 nat_Shr.bits9 (fun HT_ HW_ => ?_)
              generalize wr.drew = w24 at HO_7 HB hx411_0 hHeld ⊢
              refine pure_ (i := 0) (N := some 37) (v := ?_) (a' := ?_) #[true, false, false, false, false, false, false, false, false, false, false, false, false, false, false, false, false, false] rfl rfl (any_of HT_.out (by kernel_rfl)) (fun _ _ _ h => h) (Or.inl ⟨by rfl, ?_⟩) ?_ ?_
              rotate_left
              ·
               intro w'
               go_simp
               with_reducible rfl
              rotate_left
              ·
               simp only [Act.put, List.setIfInBounds_toArray, List.set_cons_zero, List.set_cons_succ, i64_w, i32_w]
               rfl
              refine pure_ (i := 1) (N := some 38) (v := ?_) (a' := ?_) #[true, true, false, false, false, false, false, false, false, false, false, false, false, false, false, false, false, false] rfl rfl (any_of HT_.out (by kernel_rfl)) (fun _ _ _ h => h) (Or.inl ⟨by rfl, ?_⟩) ?_ ?_
              rotate_left
              ·
               intro w'
               go_simp
               with_reducible rfl
              rotate_left
              ·
               simp only [Act.put, List.setIfInBounds_toArray, List.set_cons_zero, List.set_cons_succ, i64_w, i32_w]
               rfl
              refine pure_ (i := 2) (N := some 39) (v := ?_) (a' := ?_) #[true, true, true, false, false, false, false, false, false, false, false, false, false, false, false, false, false, false] rfl rfl (any_of HT_.out (by kernel_rfl)) (fun _ _ _ h => h) (Or.inl ⟨by rfl, ?_⟩) ?_ ?_
              rotate_left
              ·
               intro w'
               go_simp
               with_reducible rfl
              rotate_left
              ·
               simp only [Act.put, List.setIfInBounds_toArray, List.set_cons_zero, List.set_cons_succ, i64_w, i32_w]
               rfl
              refine pure_ (i := 3) (N := some 40) (v := ?_) (a' := ?_) #[true, true, true, true, false, false, false, false, false, false, false, false, false, false, false, false, false, false] rfl rfl (any_of HT_.out (by kernel_rfl)) (fun _ _ _ h => h) (Or.inl ⟨by rfl, ?_⟩) ?_ ?_
              rotate_left
              ·
               intro w'
               go_simp
               with_reducible rfl
              rotate_left
              ·
               simp only [Act.put, List.setIfInBounds_toArray, List.set_cons_zero, List.set_cons_succ, i64_w, i32_w]
               rfl
              refine pure_ (i := 4) (N := some 41) (v := ?_) (a' := ?_) #[true, true, true, true, true, false, false, false, false, false, false, false, false, false, false, false, false, false] rfl rfl (any_of HT_.out (by kernel_rfl)) (fun _ _ _ h => h) (Or.inl ⟨by rfl, ?_⟩) ?_ ?_
              rotate_left
              ·
               intro w'
               go_simp
               with_reducible rfl
              rotate_left
              ·
               simp only [Act.put, List.setIfInBounds_toArray, List.set_cons_zero, List.set_cons_succ, i64_w, i32_w]
               rfl
              refine pure_ (i := 6) (N := some 43) (v := ?_) (a' := ?_) #[true, true, true, true, true, false, true, false, false, false, false, false, false, false, false, false, false, false] rfl rfl (any_of HT_.out (by kernel_rfl)) (fun _ _ _ h => h) (Or.inl ⟨by rfl, ?_⟩) ?_ ?_
              rotate_left
              ·
               intro w'
               go_simp
               with_reducible rfl
              rotate_left
              ·
               simp only [Act.put, List.setIfInBounds_toArray, List.set_cons_zero, List.set_cons_succ, i64_w, i32_w]
               rfl
              refine pure_ (i := 7) (N := some 44) (v := ?_) (a' := ?_) #[true, true, true, true, true, false, true, true, false, false, false, false, false, false, false, false, false, false] rfl rfl (any_of HT_.out (by kernel_rfl)) (fun _ _ _ h => h) (Or.inl ⟨by rfl, ?_⟩) ?_ ?_
              rotate_left
              ·
               intro w'
               go_simp
               with_reducible rfl
              rotate_left
              ·
               simp only [Act.put, List.setIfInBounds_toArray, List.set_cons_zero, List.set_cons_succ, i64_w, i32_w]
               rfl
              refine pure_ (i := 8) (N := some 45) (v := ?_) (a' := ?_) #[true, true, true, true, true, false, true, true, true, false, false, false, false, false, false, false, false, false] rfl rfl (any_of HT_.out (by kernel_rfl)) (fun _ _ _ h => h) (Or.inl ⟨by rfl, ?_⟩) ?_ ?_
              rotate_left
              ·
               intro w'
               go_simp
               with_reducible rfl
              rotate_left
              ·
               simp only [Act.put, List.setIfInBounds_toArray, List.set_cons_zero, List.set_cons_succ, i64_w, i32_w]
               rfl
              refine pure_ (i := 12) (N := some 49) (v := ?_) (a' := ?_) #[true, true, true, true, true, false, true, true, true, false, false, false, true, false, false, false, false, false] rfl rfl (any_of HT_.out (by kernel_rfl)) (fun _ _ _ h => h) (Or.inl ⟨by rfl, ?_⟩) ?_ ?_
              rotate_left
              ·
               intro w'
               go_simp
               with_reducible rfl
              rotate_left
              ·
               simp only [Act.put, List.setIfInBounds_toArray, List.set_cons_zero, List.set_cons_succ, i64_w, i32_w]
               rfl
              refine pure_ (i := 13) (N := some 50) (v := ?_) (a' := ?_) #[true, true, true, true, true, false, true, true, true, false, false, false, true, true, false, false, false, false] rfl rfl (any_of HT_.out (by kernel_rfl)) (fun _ _ _ h => h) (Or.inl ⟨by rfl, ?_⟩) ?_ ?_
              rotate_left
              ·
               intro w'
               go_simp
               with_reducible rfl
              rotate_left
              ·
               simp only [Act.put, List.setIfInBounds_toArray, List.set_cons_zero, List.set_cons_succ, i64_w, i32_w]
               rfl
              refine take_ (i := 5) (N := some 42) (v := ?_) (a' := ?_) #[true, true, true, true, true, true, true, true, true, false, false, false, true, true, false, false, false, false] rfl rfl (take_ofW HT_.out HW_.out (by kernel_rfl)) (fun _ _ _ h => h) (Or.inl ⟨by rfl, ?_⟩) hHeld ?_ ?_
              rotate_left
              ·
               intro w' s0
               go_simp
               with_reducible rfl
              rotate_left
              ·
               simp only [Act.put, List.setIfInBounds_toArray, List.set_cons_zero, List.set_cons_succ, i64_w, i32_w]
               rfl
              refine one_ (i := 9) (N := some 46) #[true, true, true, true, true, true, true, true, true, true, false, false, true, true, false, false, false, false] rfl rfl (one_of HT_.out (by kernel_rfl)) (by decide) (fun K hK => ?_)
              refine goes_ Try.func118 (by kernel_rfl) rfl #[.slice (some ad411) l0.length c0, .int .i64 (wrap64 ((ji14) + 1))] (by rfl) rfl rfl (by (try simp only [List.map_toArray, List.map_cons, List.map_nil]); first | done | (simp only [hji14]; rfl) | rfl | (simp only [List.length_drop, List.length_take]; rfl)) ?_
              with_reducible refine (nat_at.calls _ _ l0 (wrap64 ((ji14) + 1)) t412 _ ?side1 ?side2 A17.out).mono ?_
              (case side1 => exact Kd.Cx (Kd.C_below HR0.out HB.out))
              (case side2 => exact HC0.out)
              rintro e w' ⟨rfl, ⟨nd, rfl⟩⟩
              refine ⟨_, rfl, ?_⟩
              have p23 : 0 ≤ (x30_2 : Int) := tx
              have q23 : (x30_2 : Int) < ((x7_2.length : Int) : Int) := tx
              obtain ⟨go23, co23, eo23, gb23, gl23, cl23, HG23⟩ := Kd.R_form HO_7.out (by omega)
              (first | cases eo23 | (injection eo23 with ea_ en_ ec_; (first | subst ea_ | (injection ea_ with ea_; subst ea_)); subst ec_; clear en_))
              have GB23 := Aside0.mk gb23
              have GG23 := Aside0.mk HG23
              clear gb23 gl23 HG23
              obtain ⟨hx23_0, hf23_0⟩ := Kd.R_celln 0 HO_7.out (x30_2 : Int) p23 q23
              replace p23 := eq_true p23
              replace q23 := eq_true q23
              have HP25 := Kd.R_putn HO_7.out (x30_2 : Int) (Int.tmod (ji20) 4294967296)
              rw [← Ny413.out] at HP25
              have HQ25 := Aside0.mk HP25
              clear HP25
              refine hK.out _ _ (((HB.out.cell (World.block_lt_of_cell? w _ hw411_0)).trans hw411_0)) (fun hHeld => ?_)
              clear hK K
              refine norm_ (a' := ?_) ?_ ?_
              rotate_left
              ·
               show Act.put _ (some 46) _ = _
               simp only [Act.put, List.setIfInBounds_toArray, List.set_cons_zero, List.set_cons_succ, i64_w, i32_w]
               rfl
              refine pure_ (i := 10) (N := some 47) (v := ?_) (a' := ?_) #[true, true, true, true, true, true, true, true, true, true, true, false, true, true, false, false, false, false] rfl rfl (any_of HT_.out (by kernel_rfl)) (fun _ _ _ h => h) (Or.inl ⟨by rfl, ?_⟩) ?_ ?_
              rotate_left
              ·
               intro w'
               go_simp
               with_reducible rfl
              rotate_left
              ·
               simp only [Act.put, List.setIfInBounds_toArray, List.set_cons_zero, List.set_cons_succ, i64_w, i32_w]
               rfl
              refine pure_ (i := 11) (N := some 48) (v := ?_) (a' := ?_) #[true, true, true, true, true, true, true, true, true, true, true, true, true, true, false, false, false, false] rfl rfl (any_of HT_.out (by kernel_rfl)) (fun _ _ _ h => h) (Or.inl ⟨by rfl, ?_⟩) ?_ ?_
              rotate_left
              ·
               intro w'
               go_simp
               with_reducible rfl
              rotate_left
              ·
               simp only [Act.put, List.setIfInBounds_toArray, List.set_cons_zero, List.set_cons_succ, i64_w, i32_w]
               rfl
              refine pure_ (i := 14) (N := some 51) (v := ?_) (a' := ?_) #[true, true, true, true, true, true, true, true, true, true, true, true, true, true, true, false, false, false] rfl rfl (any_of HT_.out (by kernel_rfl)) (fun _ _ _ h => h) (Or.inl ⟨by rfl, ?_⟩) ?_ ?_
              rotate_left
              ·
               intro w'
               go_simp
               with_reducible rfl
              rotate_left
              ·
               simp only [Act.put, List.setIfInBounds_toArray, List.set_cons_zero, List.set_cons_succ, i64_w, i32_w]
               rfl
              refine pure_ (i := 15) (N := some 52) (v := ?_) (a' := ?_) #[true, true, true, true, true, true, true, true, true, true, true, true, true, true, true, true, false, false] rfl rfl (any_of HT_.out (by kernel_rfl)) (fun _ _ _ h => h) (Or.inl ⟨by rfl, ?_⟩) ?_ ?_
              rotate_left
              ·
               intro w'
               go_simp
               with_reducible rfl
              rotate_left
              ·
               simp only [Act.put, List.setIfInBounds_toArray, List.set_cons_zero, List.set_cons_succ, i64_w, i32_w]
               rfl
              refine pure_ (i := 16) (N := some 53) (v := ?_) (a' := ?_) #[true, true, true, true, true, true, true, true, true, true, true, true, true, true, true, true, true, false] rfl rfl (any_of HT_.out (by kernel_rfl)) (fun _ _ _ h => h) (Or.inl ⟨by rfl, ?_⟩) ?_ ?_
              rotate_left
              ·
               intro w'
               go_simp
               with_reducible rfl
              rotate_left
              ·
               simp only [Act.put, List.setIfInBounds_toArray, List.set_cons_zero, List.set_cons_succ, i64_w, i32_w]
               rfl
              refine last_ (i := 17) (N := none) #[true, true, true, true, true, true, true, true, true, true, true, true, true, true, true, true, true, true] rfl rfl (one_of HT_.out (by kernel_rfl)) (by decide) (fun K hK => ?_)
              refine skip_ (w1 := ?_) (by rfl) rfl ?_ ?_
              rotate_left
              ·
               go_simp
               rfl
              refine hK.out _ _ ?_
              clear hK K
              refine done_ (done_of HT_.out (by kernel_rfl)) ?_
              try go_wp2
              (try simp only [← hl7_2])
              go_roundg k2
              case measure => have := HJ3.out; have := HK2.out; omega
              case rel => exact ⟨(y413), (wrap64 (x30_2 + 1)), (by first | rfl | (simp; done) | (simp [*]; done)), H', ⟨by have := HJ3.out; have := HK2.out; omega⟩, ⟨by (try simp only [hl7_2]); (with_reducible repeat (first | apply Kd.R_alloc | apply Kd.R_drewN | apply Kd.R_drew)); exact HQ25.out⟩, ⟨Bs⟩⟩
             ·
              rw [if_neg c22] at H
              exact absurd H (by simp)
            ·
             rw [if_neg c21] at H
             exact absurd H (by simp)
           ·
            rw [if_neg c19] at H
            exact absurd H (by simp)
          ·
           rw [if_neg c16] at H
           exact absurd H (by simp)
         ·
          rw [if_neg c15] at H
          exact absurd H (by simp)
        ·
         rw [if_neg c13] at H
         have c13b0 : decide (x30_2 < (y408.length : Int)) = false := decide_eq_false c13
         (try simp only [hl7_2] at c13b0)
         clear c13
         replace H := Option.bind_eq_some_iff.mp H
         obtain ⟨t414, A260, H⟩ := H
         replace H : (some (t414, 0)) = some (r1, r2) := H
         have A26 := Aside0.mk A260
         clear A260
         simp only [Option.some.injEq, Prod.mk.injEq] at H
         obtain ⟨rfl, rfl⟩ := H
         go_wp2_with (first | ((with_reducible refine gate_callee (f := 119) rfl ?_); refine goesx (some 56) Try.func119 #[.slice Ao12 x7_2.length co12] ?_; (with_reducible refine (nat_trim.calls k2 (fun k_ => some k_ = (.slice Ao12 x7_2.length co12 : Value).ownBlock) (.slice Ao12 x7_2.length co12) x7_2 t414 w _ ?side1 ?side2 A26.out).mono ?_); (case side1 => exact Bx HB.out); (case side2 => exact Kd.R_tight rfl HO_7.out); rintro e w27 ⟨v415, rfl, ho0, hb, hkp⟩; refine ⟨_, rfl, ?_⟩; have HO416 := Aside0.mk (Kd.R_mono (ok' := fun k_ => True) ho0 (fun k_ hk_ => trivial)); replace HB := Aside0.mk (hb); clear HO_7; (try clear hb); (try clear hkp); (try clear ho0)))
         go_ret2
         exact ⟨_, by first | rfl | (simp only [u64_u32_] <;> rfl) | (simp [errW_none, errW_some] <;> rfl) | (simp only [← hji7]; first | rfl | (simp [errW_none, errW_some] <;> rfl)) | (simp [*, errW_none, errW_some] <;> rfl), by first | exact Kd.Rx HO416.out | exact HO416.out, Bx HB.out⟩
     ·
      rw [if_neg c9] at H
      exact absurd H (by simp)
    ·
     rw [if_neg c8] at H
     exact absurd H (by simp)
end Go.Proofs.Ytpmbcdakpmceiaa.F

end
section
namespace Go.Proofs.Ytpmbcdakpmceiaa.F
open Go.RowKit Go.Proofs.YtpmbcdakpmceiaaW.PrintWords Go.Proofs.YtpmbcdakpmceiaaW.PrintLast Go.Proofs.YtpmbcdakpmceiaaW.PrintMore
attribute [local go_sem] max2_int min2_int max_two min_two max_three min_three max_four min_four
set_option linter.unusedVariables false
set_option linter.unusedSimpArgs false
def divide_knuth.l0 : Nat → Int → List Int → List Int → List Int → Int → Option (List Int × List Int)
 | 0, _, _, _, _, _ => none
 | k + 1, x6, x7, x9, x12, x13 => if x13 ≥ 0 then ((divide_guess.f k x9 x13 x7).bind fun t448 => (if 0 ≤ x13 then (if x13 < (x12.length : Int) then ((some (x12.set (x13 : Int).toNat t448 : List Int)).bind fun y449 => ((divide_take.f k x9 x13 x7 (rd y449 x13)).bind fun bt451 => (if bt451.1 = true then ((divide_give.f k bt451.2 x13 x7).bind fun t455 => (divide_knuth.l0 k x6 x7 t455 (y449.set (x13 : Int).toNat (IntKind.u64.wrap ((rd y449 x13) - 1))) (wrap64 (x13 - 1)))) else (divide_knuth.l0 k x6 x7 bt451.2 y449 (wrap64 (x13 - 1)))))) else (none)) else (none))) else ((nat_Make.f k x12).bind fun bt436 => ((nat_Make.f k x9).bind fun bt440 => ((nat_Shr.f k bt440.1 x6).bind fun bt444 => (some (bt436.1, bt444.1)))))
def divide_knuth.f (k : Nat) (l0 : List Int) (l1 : List Int) : Option (List Int × List Int) := if 0 ≤ (wrap64 ((l1.length : Int) - 1)) then (if (wrap64 ((l1.length : Int) - 1)) < (l1.length : Int) then ((limb_Bits.f k (rd l1 (wrap64 ((l1.length : Int) - 1)))).bind fun t418 => ((nat_Shl.f k l1 (wrap64 (32 - t418))).bind fun bt419 => (if 0 ≤ (wrap64 ((l0.length : Int) + 1)) then (if (wrap64 ((l0.length : Int) + 1) : Int).toNat ≤ 35184372088832 then ((some (List.replicate (wrap64 ((l0.length : Int) + 1) : Int).toNat 0 : List Int)).bind fun y423 => ((nat_Shl.f k l0 (wrap64 (32 - t418))).bind fun bt426 => (if 0 ≤ (wrap64 ((wrap64 ((l0.length : Int) - (l1.length : Int))) + 1)) then (if (wrap64 ((wrap64 ((l0.length : Int) - (l1.length : Int))) + 1) : Int).toNat ≤ 35184372088832 then (divide_knuth.l0 k (wrap64 (32 - t418)) bt419.1 (y423.take 0 ++ (bt426.1.take (y423.length - 0) ++ y423.drop (0 + min bt426.1.length (y423.length - 0)))) (List.replicate (wrap64 ((wrap64 ((l0.length : Int) - (l1.length : Int))) + 1) : Int).toNat 0) (wrap64 ((l0.length : Int) - (l1.length : Int)))) else (none)) else (none)))) else (none)) else (none)))) else (none)) else (none)
theorem divide_knuth.mono_l : ∀ k, (∀ y0 y1 y2 y3 y4, LeO (divide_knuth.l0 k y0 y1 y2 y3 y4) (divide_knuth.l0 (k + 1) y0 y1 y2 y3 y4))
 | 0 => fun _ _ _ _ _ r h => by simp [divide_knuth.l0] at h
 | k + 1 => by
  have ih0 := divide_knuth.mono_l k
  ·
   intro y0 y1 y2 y3 y4
   unfold divide_knuth.l0
   repeat' first
   | (with_reducible exact ih0 _ _ _ _ _)
   | (with_reducible exact divide_give.mono _ _ _ _)
   | (with_reducible exact divide_guess.mono _ _ _ _)
   | (with_reducible exact divide_take.mono _ _ _ _ _)
   | (with_reducible exact limb_Bits.mono _ _)
   | (with_reducible exact nat_Make.mono _ _)
   | (with_reducible exact nat_Shl.mono _ _ _)
   | (with_reducible exact nat_Shr.mono _ _ _)
   | (with_reducible exact LeO.refl _)
   | (with_reducible exact LeO.none _)
   | (with_reducible refine LeO.ite ?_ ?_)
   | (with_reducible refine LeO.bind ?_ (fun _ => ?_))
   | exact ih0 _ _ _ _ _
   | exact divide_give.mono _ _ _ _
   | exact divide_guess.mono _ _ _ _
   | exact divide_take.mono _ _ _ _ _
   | exact limb_Bits.mono _ _
   | exact nat_Make.mono _ _
   | exact nat_Shl.mono _ _ _
   | exact nat_Shr.mono _ _ _
   | exact LeO.none _
   | refine LeO.ite ?_ ?_
   | refine LeO.bind ?_ (fun _ => ?_)
theorem divide_knuth.mono : ∀ a0 a1 k, LeO (divide_knuth.f k a0 a1) (divide_knuth.f (k + 1) a0 a1) := by
 intro a0 a1 k
 have ih0 := divide_knuth.mono_l k
 unfold divide_knuth.f
 repeat' first
   | (with_reducible exact ih0 _ _ _ _ _)
   | (with_reducible exact divide_give.mono _ _ _ _)
   | (with_reducible exact divide_guess.mono _ _ _ _)
   | (with_reducible exact divide_take.mono _ _ _ _ _)
   | (with_reducible exact limb_Bits.mono _ _)
   | (with_reducible exact nat_Make.mono _ _)
   | (with_reducible exact nat_Shl.mono _ _ _)
   | (with_reducible exact nat_Shr.mono _ _ _)
   | (with_reducible exact LeO.refl _)
   | (with_reducible exact LeO.none _)
   | (with_reducible refine LeO.ite ?_ ?_)
   | (with_reducible refine LeO.bind ?_ (fun _ => ?_))
   | exact ih0 _ _ _ _ _
   | exact divide_give.mono _ _ _ _
   | exact divide_guess.mono _ _ _ _
   | exact divide_take.mono _ _ _ _ _
   | exact limb_Bits.mono _ _
   | exact nat_Make.mono _ _
   | exact nat_Shl.mono _ _ _
   | exact nat_Shr.mono _ _ _
   | exact LeO.none _
   | refine LeO.ite ?_ ?_
   | refine LeO.bind ?_ (fun _ => ?_)
def divide_Div.j0 : Nat → List Int → List Int → Bool → Option (List Int × List Int × Int)
 | 0, _, _, _ => none
 | k + 1, x0, x1, x18 => if x18 = true then (some (([] : List Int), ([] : List Int), 2)) else ((nat_Cmp.f k x0 x1).bind fun t458 => (if t458 < 0 then ((nat_Make.f k x0).bind fun bt459 => (some (([] : List Int), bt459.1, bt459.2))) else (if (x1.length : Int) = 1 then (if 0 < (x1.length : Int) then ((divide_Small.f k x0 (rd x1 0)).bind fun bt464 => ((nat_Of.f k bt464.2.1).bind fun t469 => (some (bt464.1, t469, bt464.2.2)))) else (none)) else ((divide_knuth.f k x0 x1).bind fun bt472 => (some (bt472.1, bt472.2, 0))))))
def divide_Div.f (k : Nat) (l0 : List Int) (l1 : List Int) : Option (List Int × List Int × Int) := if (l1.length : Int) = 0 then (some (([] : List Int), ([] : List Int), 3)) else ((nat_May.f k l0).bind fun t456 => (if t456 = true then ((nat_May.f k l1).bind fun t457 => (divide_Div.j0 k l0 l1 (!t457))) else (divide_Div.j0 k l0 l1 true)))
theorem divide_Div.mono_l : ∀ k, (∀ y0 y1 y2, LeO (divide_Div.j0 k y0 y1 y2) (divide_Div.j0 (k + 1) y0 y1 y2))
 | 0 => fun _ _ _ r h => by simp [divide_Div.j0] at h
 | k + 1 => by
  have ih0 := divide_Div.mono_l k
  ·
   intro y0 y1 y2
   unfold divide_Div.j0
   repeat' first
   | (with_reducible exact ih0 _ _ _)
   | (with_reducible exact divide_Small.mono _ _ _)
   | (with_reducible exact divide_knuth.mono _ _ _)
   | (with_reducible exact nat_Cmp.mono _ _ _)
   | (with_reducible exact nat_Make.mono _ _)
   | (with_reducible exact nat_May.mono _ _)
   | (with_reducible exact nat_Of.mono _ _)
   | (with_reducible exact LeO.refl _)
   | (with_reducible exact LeO.none _)
   | (with_reducible refine LeO.ite ?_ ?_)
   | (with_reducible refine LeO.bind ?_ (fun _ => ?_))
   | exact ih0 _ _ _
   | exact divide_Small.mono _ _ _
   | exact divide_knuth.mono _ _ _
   | exact nat_Cmp.mono _ _ _
   | exact nat_Make.mono _ _
   | exact nat_May.mono _ _
   | exact nat_Of.mono _ _
   | exact LeO.none _
   | refine LeO.ite ?_ ?_
   | refine LeO.bind ?_ (fun _ => ?_)
theorem divide_Div.mono : ∀ a0 a1 k, LeO (divide_Div.f k a0 a1) (divide_Div.f (k + 1) a0 a1) := by
 intro a0 a1 k
 have ih0 := divide_Div.mono_l k
 unfold divide_Div.f
 repeat' first
   | (with_reducible exact ih0 _ _ _)
   | (with_reducible exact divide_Small.mono _ _ _)
   | (with_reducible exact divide_knuth.mono _ _ _)
   | (with_reducible exact nat_Cmp.mono _ _ _)
   | (with_reducible exact nat_Make.mono _ _)
   | (with_reducible exact nat_May.mono _ _)
   | (with_reducible exact nat_Of.mono _ _)
   | (with_reducible exact LeO.refl _)
   | (with_reducible exact LeO.none _)
   | (with_reducible refine LeO.ite ?_ ?_)
   | (with_reducible refine LeO.bind ?_ (fun _ => ?_))
   | exact ih0 _ _ _
   | exact divide_Small.mono _ _ _
   | exact divide_knuth.mono _ _ _
   | exact nat_Cmp.mono _ _ _
   | exact nat_Make.mono _ _
   | exact nat_May.mono _ _
   | exact nat_Of.mono _ _
   | exact LeO.none _
   | refine LeO.ite ?_ ?_
   | refine LeO.bind ?_ (fun _ => ?_)
def divide_Mod.f (k : Nat) (l0 : List Int) (l1 : List Int) : Option (List Int × Int) := (divide_Div.f k l0 l1).bind fun bt478 => (some (bt478.2.1, bt478.2.2))
theorem divide_Mod.mono : ∀ a0 a1 k, LeO (divide_Mod.f k a0 a1) (divide_Mod.f (k + 1) a0 a1) := by
 intro a0 a1 k
 unfold divide_Mod.f
 repeat' first
   | (with_reducible exact divide_Div.mono _ _ _)
   | (with_reducible exact LeO.refl _)
   | (with_reducible exact LeO.none _)
   | (with_reducible refine LeO.ite ?_ ?_)
   | (with_reducible refine LeO.bind ?_ (fun _ => ?_))
   | exact divide_Div.mono _ _ _
   | exact LeO.none _
   | refine LeO.ite ?_ ?_
   | refine LeO.bind ?_ (fun _ => ?_)
def gcd_Euclid.l0 : Nat → List Int → List Int → Option (List Int)
 | 0, _, _ => none
 | k + 1, x5, x7 => if (x7.length : Int) > 0 then ((divide_Mod.f k x5 x7).bind fun bt493 => (gcd_Euclid.l0 k x7 bt493.1)) else (some x5)
def gcd_Euclid.f (k : Nat) (l0 : List Int) (l1 : List Int) : Option (List Int) := (nat_Make.f k l0).bind fun bt485 => ((nat_Make.f k l1).bind fun bt489 => (gcd_Euclid.l0 k bt485.1 bt489.1))
theorem gcd_Euclid.mono_l : ∀ k, (∀ y0 y1, LeO (gcd_Euclid.l0 k y0 y1) (gcd_Euclid.l0 (k + 1) y0 y1))
 | 0 => fun _ _ r h => by simp [gcd_Euclid.l0] at h
 | k + 1 => by
  have ih0 := gcd_Euclid.mono_l k
  ·
   intro y0 y1
   unfold gcd_Euclid.l0
   repeat' first
   | (with_reducible exact ih0 _ _)
   | (with_reducible exact divide_Mod.mono _ _ _)
   | (with_reducible exact nat_Make.mono _ _)
   | (with_reducible exact LeO.refl _)
   | (with_reducible exact LeO.none _)
   | (with_reducible refine LeO.ite ?_ ?_)
   | (with_reducible refine LeO.bind ?_ (fun _ => ?_))
   | exact ih0 _ _
   | exact divide_Mod.mono _ _ _
   | exact nat_Make.mono _ _
   | exact LeO.none _
   | refine LeO.ite ?_ ?_
   | refine LeO.bind ?_ (fun _ => ?_)
theorem gcd_Euclid.mono : ∀ a0 a1 k, LeO (gcd_Euclid.f k a0 a1) (gcd_Euclid.f (k + 1) a0 a1) := by
 intro a0 a1 k
 have ih0 := gcd_Euclid.mono_l k
 unfold gcd_Euclid.f
 repeat' first
   | (with_reducible exact ih0 _ _)
   | (with_reducible exact divide_Mod.mono _ _ _)
   | (with_reducible exact nat_Make.mono _ _)
   | (with_reducible exact LeO.refl _)
   | (with_reducible exact LeO.none _)
   | (with_reducible refine LeO.ite ?_ ?_)
   | (with_reducible refine LeO.bind ?_ (fun _ => ?_))
   | exact ih0 _ _
   | exact divide_Mod.mono _ _ _
   | exact nat_Make.mono _ _
   | exact LeO.none _
   | refine LeO.ite ?_ ?_
   | refine LeO.bind ?_ (fun _ => ?_)
def divide_Exact.f (k : Nat) (l0 : List Int) (l1 : List Int) : Option (List Int × Int) := (divide_Div.f k l0 l1).bind fun bt497 => (if bt497.2.2 = 0 then (if (bt497.2.1.length : Int) > 0 then (some (([] : List Int), 4)) else (some (bt497.1, bt497.2.2))) else (some (([] : List Int), bt497.2.2)))
theorem divide_Exact.mono : ∀ a0 a1 k, LeO (divide_Exact.f k a0 a1) (divide_Exact.f (k + 1) a0 a1) := by
 intro a0 a1 k
 unfold divide_Exact.f
 repeat' first
   | (with_reducible exact divide_Div.mono _ _ _)
   | (with_reducible exact LeO.refl _)
   | (with_reducible exact LeO.none _)
   | (with_reducible refine LeO.ite ?_ ?_)
   | (with_reducible refine LeO.bind ?_ (fun _ => ?_))
   | exact divide_Div.mono _ _ _
   | exact LeO.none _
   | refine LeO.ite ?_ ?_
   | refine LeO.bind ?_ (fun _ => ?_)
def rat_low.f (k : Nat) (a0_0 : Bool) (l0_1 : List Int) (l1 : List Int) : Option (Bool × List Int × List Int) := (gcd_Euclid.f k l0_1 l1).bind fun t506 => ((divide_Exact.f k l0_1 t506).bind fun bt509 => ((divide_Exact.f k l1 t506).bind fun bt513 => ((whole_Made.f k a0_0 bt509.1).bind fun bt517 => (some (bt517.1, bt517.2, bt513.1)))))
theorem rat_low.mono : ∀ a0 a1 a2 k, LeO (rat_low.f k a0 a1 a2) (rat_low.f (k + 1) a0 a1 a2) := by
 intro a0 a1 a2 k
 unfold rat_low.f
 repeat' first
   | (with_reducible exact divide_Exact.mono _ _ _)
   | (with_reducible exact gcd_Euclid.mono _ _ _)
   | (with_reducible exact whole_Made.mono _ _ _)
   | (with_reducible exact LeO.refl _)
   | (with_reducible exact LeO.none _)
   | (with_reducible refine LeO.ite ?_ ?_)
   | (with_reducible refine LeO.bind ?_ (fun _ => ?_))
   | exact divide_Exact.mono _ _ _
   | exact gcd_Euclid.mono _ _ _
   | exact whole_Made.mono _ _ _
   | exact LeO.none _
   | refine LeO.ite ?_ ?_
   | refine LeO.bind ?_ (fun _ => ?_)
end Go.Proofs.Ytpmbcdakpmceiaa.F

end
