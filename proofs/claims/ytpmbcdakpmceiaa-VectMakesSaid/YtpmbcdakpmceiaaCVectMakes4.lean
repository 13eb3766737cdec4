/- A part of the proof of the law VectMakes: words, what the Go code does function by function, lemmas (assembled by wip/assemble.py). -/
import Derived.Test.YtpmbcdakpmceiaaCVectMakes3
set_option linter.unusedVariables false
set_option linter.unusedSimpArgs false
set_option linter.unusedSectionVars false
section
namespace Go.Proofs.Ytpmbcdakpmceiaa.F
open Go.RowKit Go.Proofs.YtpmbcdakpmceiaaW.PrintWords Go.Proofs.YtpmbcdakpmceiaaW.PrintLast Go.Proofs.YtpmbcdakpmceiaaW.PrintMore
attribute [local go_sem] max2_int min2_int max_two min_two max_three min_three max_four min_four
set_option linter.unusedVariables false
set_option linter.unusedSimpArgs false
def rat_Add.T1 : Bool × List (List Nat × List Nat) := (true, [([], []), ([0], [0]), ([], []), ([2], [2]), ([1, 3, 3], [1, 3]), ([], []), ([5], [5]), ([], []), ([7, 4], [7]), ([6, 8, 8], [6, 8]), ([4, 9, 9], [4, 9]), ([], []), ([11, 10, 10, 0, 1, 2, 3, 4, 5, 6, 7, 8, 9, 10, 11], [10, 11])])
def rat_Add.B1 : List Nat := [0, 1, 0, 4, 15, 0, 32, 0, 159, 511, 1023, 0, 4095]
theorem rat_Add.tab1 : rtab .any (opsOf Try.f21 1) = rat_Add.T1 := by kernel_rfl
theorem rat_Add.bits1 : waitsOk rat_Add.T1.2 rat_Add.B1 = true := by kernel_rfl
def rat_Add.T2 : Bool × List (List Nat × List Nat) := (true, [([], []), ([], []), ([1], [1]), ([], []), ([3, 2], [3]), ([2, 4, 4], [2, 4]), ([0, 5, 5], [0, 5]), ([6], [6]), ([7], [7]), ([7], [7]), ([], []), ([10, 8, 6, 0, 1, 2, 3, 4, 5, 6, 7, 8, 10], [8, 10]), ([9, 11, 0, 1, 2, 3, 4, 5, 6, 7, 8, 9, 10, 11], [9])])
def rat_Add.B2 : List Nat := [0, 0, 2, 0, 14, 30, 63, 127, 255, 255, 0, 1535, 4095]
theorem rat_Add.tab2 : rtab .any (opsOf Try.f21 2) = rat_Add.T2 := by kernel_rfl
theorem rat_Add.bits2 : waitsOk rat_Add.T2.2 rat_Add.B2 = true := by kernel_rfl
set_option maxHeartbeats 8000000 in
set_option maxRecDepth 100000 in
theorem rat_Add.calls (k : Nat) (a0_0 : Bool) (A0_1 : Option Addr) (c0_1 : Nat) (l0_1 : List Int) (A0_2 : Option Addr) (c0_2 : Nat) (l0_2 : List Int) (a1_0 : Bool) (A1_1 : Option Addr) (c1_1 : Nat) (l1_1 : List Int) (A1_2 : Option Addr) (c1_2 : Nat) (l1_2 : List Int) (r1 : Bool) (r2 : List Int) (r3 : List Int) (w : World) (hr0_1 : Kd.C (Kd.int .u64) w A0_1 l0_1.length l0_1) (hc0_1 : l0_1.length ≤ c0_1) (hr0_2 : Kd.C (Kd.int .u64) w A0_2 l0_2.length l0_2) (hc0_2 : l0_2.length ≤ c0_2) (hr1_1 : Kd.C (Kd.int .u64) w A1_1 l1_1.length l1_1) (hc1_1 : l1_1.length ≤ c1_1) (hr1_2 : Kd.C (Kd.int .u64) w A1_2 l1_2.length l1_2) (hc1_2 : l1_2.length ≤ c1_2) (h : rat_Add.f k a0_0 l0_1 l0_2 a1_0 l1_1 l1_2 = some (r1, r2, r3)) :
  Calls Try.prog 21 #[.agg #[.bool a0_0, .slice A0_1 l0_1.length c0_1, .slice A0_2 l0_2.length c0_2], .agg #[.bool a1_0, .slice A1_1 l1_1.length c1_1, .slice A1_2 l1_2.length c1_2]] w fun e w' => ∃ v1_ v2_ : Value, e = .returned (.agg #[.bool r1, v1_, v2_]) ∧ Kd.R (Kd.int .u64) 96 w' w.heap.size (fun k_ => nb k_ v2_) v1_ r2 ∧ Kd.R (Kd.int .u64) 96 w' w.heap.size (fun k_ => nb k_ v1_) v2_ r3 ∧ Below w.heap.size w w' := by
 have hu34 := Try.underlying34
 have hu32 := Try.underlying32
 have HR0_1 := Aside0.mk hr0_1
 have HC0_1 := Aside0.mk hc0_1
 clear hr0_1 hc0_1
 have HR0_2 := Aside0.mk hr0_2
 have HC0_2 := Aside0.mk hc0_2
 clear hr0_2 hc0_2
 have HR1_1 := Aside0.mk hr1_1
 have HC1_1 := Aside0.mk hc1_1
 clear hr1_1 hc1_1
 have HR1_2 := Aside0.mk hr1_2
 have HC1_2 := Aside0.mk hc1_2
 clear hr1_2 hc1_2
 have HB := Aside0.mk (Below.refl w.heap.size w)
 have H : ((rat_up.f k a1_0 l1_1 l1_2).bind fun bt539 => ((whole_Mul.f k a0_0 l0_1 bt539.1 bt539.2).bind fun bt543 => ((rat_up.f k a0_0 l0_1 l0_2).bind fun bt547 => ((whole_Mul.f k a1_0 l1_1 bt547.1 bt547.2).bind fun bt551 => ((whole_Add.f k bt543.1 bt543.2 bt551.1 bt551.2).bind fun bt555 => ((rat_up.f k a0_0 l0_1 l0_2).bind fun bt560 => ((rat_up.f k a1_0 l1_1 l1_2).bind fun bt564 => ((whole_Mul.f k bt560.1 bt560.2 bt564.1 bt564.2).bind fun bt568 => ((rat_Make.f k bt555.1 bt555.2 bt568.1 bt568.2).bind fun bt572 => (some (bt572.1, bt572.2.1, bt572.2.2.1))))))))))) = some (r1, r2, r3) := h
 clear h
 replace H := Option.bind_eq_some_iff.mp H
 obtain ⟨⟨t539, t540⟩, A30, H⟩ := H
 replace H : ((whole_Mul.f k a0_0 l0_1 t539 t540).bind fun bt543 => ((rat_up.f k a0_0 l0_1 l0_2).bind fun bt547 => ((whole_Mul.f k a1_0 l1_1 bt547.1 bt547.2).bind fun bt551 => ((whole_Add.f k bt543.1 bt543.2 bt551.1 bt551.2).bind fun bt555 => ((rat_up.f k a0_0 l0_1 l0_2).bind fun bt560 => ((rat_up.f k a1_0 l1_1 l1_2).bind fun bt564 => ((whole_Mul.f k bt560.1 bt560.2 bt564.1 bt564.2).bind fun bt568 => ((rat_Make.f k bt555.1 bt555.2 bt568.1 bt568.2).bind fun bt572 => (some (bt572.1, bt572.2.1, bt572.2.2.1)))))))))) = some (r1, r2, r3) := H
 have A3 := Aside0.mk A30
 clear A30
 replace H := Option.bind_eq_some_iff.mp H
 obtain ⟨⟨t543, t544⟩, A40, H⟩ := H
 replace H : ((rat_up.f k a0_0 l0_1 l0_2).bind fun bt547 => ((whole_Mul.f k a1_0 l1_1 bt547.1 bt547.2).bind fun bt551 => ((whole_Add.f k t543 t544 bt551.1 bt551.2).bind fun bt555 => ((rat_up.f k a0_0 l0_1 l0_2).bind fun bt560 => ((rat_up.f k a1_0 l1_1 l1_2).bind fun bt564 => ((whole_Mul.f k bt560.1 bt560.2 bt564.1 bt564.2).bind fun bt568 => ((rat_Make.f k bt555.1 bt555.2 bt568.1 bt568.2).bind fun bt572 => (some (bt572.1, bt572.2.1, bt572.2.2.1))))))))) = some (r1, r2, r3) := H
 have A4 := Aside0.mk A40
 clear A40
 replace H := Option.bind_eq_some_iff.mp H
 obtain ⟨⟨t547, t548⟩, A50, H⟩ := H
 replace H : ((whole_Mul.f k a1_0 l1_1 t547 t548).bind fun bt551 => ((whole_Add.f k t543 t544 bt551.1 bt551.2).bind fun bt555 => ((rat_up.f k a0_0 l0_1 l0_2).bind fun bt560 => ((rat_up.f k a1_0 l1_1 l1_2).bind fun bt564 => ((whole_Mul.f k bt560.1 bt560.2 bt564.1 bt564.2).bind fun bt568 => ((rat_Make.f k bt555.1 bt555.2 bt568.1 bt568.2).bind fun bt572 => (some (bt572.1, bt572.2.1, bt572.2.2.1)))))))) = some (r1, r2, r3) := H
 have A5 := Aside0.mk A50
 clear A50
 replace H := Option.bind_eq_some_iff.mp H
 obtain ⟨⟨t551, t552⟩, A60, H⟩ := H
 replace H : ((whole_Add.f k t543 t544 t551 t552).bind fun bt555 => ((rat_up.f k a0_0 l0_1 l0_2).bind fun bt560 => ((rat_up.f k a1_0 l1_1 l1_2).bind fun bt564 => ((whole_Mul.f k bt560.1 bt560.2 bt564.1 bt564.2).bind fun bt568 => ((rat_Make.f k bt555.1 bt555.2 bt568.1 bt568.2).bind fun bt572 => (some (bt572.1, bt572.2.1, bt572.2.2.1))))))) = some (r1, r2, r3) := H
 have A6 := Aside0.mk A60
 clear A60
 replace H := Option.bind_eq_some_iff.mp H
 obtain ⟨⟨t555, t556⟩, A70, H⟩ := H
 replace H : ((rat_up.f k a0_0 l0_1 l0_2).bind fun bt560 => ((rat_up.f k a1_0 l1_1 l1_2).bind fun bt564 => ((whole_Mul.f k bt560.1 bt560.2 bt564.1 bt564.2).bind fun bt568 => ((rat_Make.f k t555 t556 bt568.1 bt568.2).bind fun bt572 => (some (bt572.1, bt572.2.1, bt572.2.2.1)))))) = some (r1, r2, r3) := H
 have A7 := Aside0.mk A70
 clear A70
 replace H := Option.bind_eq_some_iff.mp H
 obtain ⟨⟨t560, t561⟩, A80, H⟩ := H
 replace H : ((rat_up.f k a1_0 l1_1 l1_2).bind fun bt564 => ((whole_Mul.f k t560 t561 bt564.1 bt564.2).bind fun bt568 => ((rat_Make.f k t555 t556 bt568.1 bt568.2).bind fun bt572 => (some (bt572.1, bt572.2.1, bt572.2.2.1))))) = some (r1, r2, r3) := H
 have A8 := Aside0.mk A80
 clear A80
 replace H := Option.bind_eq_some_iff.mp H
 obtain ⟨⟨t564, t565⟩, A90, H⟩ := H
 replace H : ((whole_Mul.f k t560 t561 t564 t565).bind fun bt568 => ((rat_Make.f k t555 t556 bt568.1 bt568.2).bind fun bt572 => (some (bt572.1, bt572.2.1, bt572.2.2.1)))) = some (r1, r2, r3) := H
 have A9 := Aside0.mk A90
 clear A90
 replace H := Option.bind_eq_some_iff.mp H
 obtain ⟨⟨t568, t569⟩, A100, H⟩ := H
 replace H : ((rat_Make.f k t555 t556 t568 t569).bind fun bt572 => (some (bt572.1, bt572.2.1, bt572.2.2.1))) = some (r1, r2, r3) := H
 have A10 := Aside0.mk A100
 clear A100
 replace H := Option.bind_eq_some_iff.mp H
 obtain ⟨⟨t572, t573, t576, t579⟩, A110, H⟩ := H
 replace H : (some (t572, t573, t576)) = some (r1, r2, r3) := H
 have A11 := Aside0.mk A110
 clear A110
 simp only [Option.some.injEq, Prod.mk.injEq] at H
 obtain ⟨rfl, rfl, rfl⟩ := H
 go_enter Try.func21, Try.ntmps21
 try go_wp2_with (first | ((with_reducible refine gate_dst (N := 2) rfl ?_); refine box_event ?hg (N := 2) ?hd (cs := #[.bool a0_0, .slice A0_1 l0_1.length c0_1, .slice A0_2 l0_2.length c0_2]) (t := 34) ?hr ?_; (case hd => rfl); (case hg => rfl); (case hr => first | (go_simp; done) | (go_simp; rfl)); intro gb536 hg w12 hbox hb; have BK536 := Aside0.mk (hbox); have GW536 := Aside0.mk ((by rw [hg]; exact (below_size (Bx HB.out)) : w.heap.size ≤ gb536)); have GE536 := Aside0.mk ((by rw [hg]; exact (below_size (Bx HB.out)) : w.heap.size ≤ gb536)); replace HB := Aside0.mk (below_step (Bx HB.out) hb); clear hb hbox hg) | ((with_reducible refine gate_dst (N := 3) rfl ?_); refine box_event ?hg (N := 3) ?hd (cs := #[.bool a1_0, .slice A1_1 l1_1.length c1_1, .slice A1_2 l1_2.length c1_2]) (t := 34) ?hr ?_; (case hd => rfl); (case hg => rfl); (case hr => first | (go_simp; done) | (go_simp; rfl)); intro gb537 hg w13 hbox hb; have n0_ := Aside0.mk (blk_below (Kx BK536.out) hb); have n1_ := Aside0.mk (below_step (Bs) hb); have n2_ := Aside0.mk (hbox); have n3_ := Aside0.mk ((by rw [hg]; exact (below_size (Bs)) : w.heap.size ≤ gb537)); have n4_ := Aside0.mk ((by rw [hg]; exact (below_size (Bs)) : w.heap.size ≤ gb537)); have n5_ := Aside0.mk ((by rw [hg]; exact Nat.ne_of_lt (blk_lt (Kx BK536.out)) : gb536 ≠ gb537)); have n6_ := Aside0.mk ((by rw [hg]; exact Nat.ne_of_gt (blk_lt (Kx BK536.out)) : gb537 ≠ gb536)); clear BK536; clear HB; have BK536 := n0_; have HB := n1_; have BK537 := n2_; have GW537 := n3_; have GE537 := n4_; have NB536_537 := n5_; have NB537_536 := n6_; clear n0_ n1_ n2_ n3_ n4_ n5_ n6_; clear hb hbox hg) | ((with_reducible refine gate_dst (N := 4) rfl ?_); refine box_event ?hg (N := 4) ?hd (cs := #[.bool false, .slice none 0 0, .slice none 0 0]) (t := 34) ?hr ?_; (case hd => rfl); (case hg => rfl); (case hr => first | (go_simp; done) | (go_simp; rfl)); intro gb538 hg w14 hbox hb; have n0_ := Aside0.mk (blk_below (Kx BK536.out) hb); have n1_ := Aside0.mk (blk_below (Kx BK537.out) hb); have n2_ := Aside0.mk (below_step (Bs) hb); have n3_ := Aside0.mk (hbox); have n4_ := Aside0.mk ((by rw [hg]; exact (below_size (Bs)) : w.heap.size ≤ gb538)); have n5_ := Aside0.mk ((by rw [hg]; exact (below_size (Bs)) : w.heap.size ≤ gb538)); have n6_ := Aside0.mk ((by rw [hg]; exact Nat.ne_of_lt (blk_lt (Kx BK536.out)) : gb536 ≠ gb538)); have n7_ := Aside0.mk ((by rw [hg]; exact Nat.ne_of_gt (blk_lt (Kx BK536.out)) : gb538 ≠ gb536)); have n8_ := Aside0.mk ((by rw [hg]; exact Nat.ne_of_lt (blk_lt (Kx BK537.out)) : gb537 ≠ gb538)); have n9_ := Aside0.mk ((by rw [hg]; exact Nat.ne_of_gt (blk_lt (Kx BK537.out)) : gb538 ≠ gb537)); clear BK536; clear BK537; clear HB; have BK536 := n0_; have BK537 := n1_; have HB := n2_; have BK538 := n3_; have GW538 := n4_; have GE538 := n5_; have NB536_538 := n6_; have NB538_536 := n7_; have NB537_538 := n8_; have NB538_537 := n9_; clear n0_ n1_ n2_ n3_ n4_ n5_ n6_ n7_ n8_ n9_; clear hb hbox hg))
 replace BK536 := Aside0.mk (blk_drew BK536.out)
 replace BK537 := Aside0.mk (blk_drew BK537.out)
 replace BK538 := Aside0.mk (blk_drew BK538.out)
 replace HB := Aside0.mk (below_drew1 HB.out)
 refine start_ (n := 13) (S := fun w' => w'.cell? ⟨gb536, 0, none⟩ = some (.bool a0_0) ∧ w'.cell? ⟨gb536, 1, none⟩ = some (.slice A0_1 l0_1.length c0_1) ∧ w'.cell? ⟨gb536, 2, none⟩ = some (.slice A0_2 l0_2.length c0_2) ∧ w'.cell? ⟨gb537, 0, none⟩ = some (.bool a1_0) ∧ w'.cell? ⟨gb537, 1, none⟩ = some (.slice A1_1 l1_1.length c1_1) ∧ w'.cell? ⟨gb537, 2, none⟩ = some (.slice A1_2 l1_2.length c1_2)) (ds := []) #[false, false, false, false, false, false, false, false, false, false, false, false, false] (by kernel_rfl) rfl rfl ⟨(blk_cell BK536.out 0).trans rfl, (blk_cell BK536.out 1).trans rfl, (blk_cell BK536.out 2).trans rfl, (blk_cell BK537.out 0).trans rfl, (blk_cell BK537.out 1).trans rfl, (blk_cell BK537.out 2).trans rfl⟩ (fun hHeld => ?_); refine with_tabW rat_Add.tab1 rat_Add.bits1 (fun HT_ HW_ => ?_)
 generalize w14.drew = w15 at BK536 BK537 BK538 HB hHeld ⊢
 refine pure_ (i := 0) (N := some 8) (v := ?_) (a' := ?_) #[true, false, false, false, false, false, false, false, false, false, false, false, false] rfl rfl (any_of HT_.out (by kernel_rfl)) (fun _ _ _ h => h) (Or.inl ⟨by rfl, ?_⟩) ?_ ?_
 rotate_left
 ·
  intro w'
  go_simp
  with_reducible rfl
 rotate_left
 ·
  simp only [Act.put, List.setIfInBounds_toArray, List.set_cons_zero, List.set_cons_succ, i64_w, i32_w]
  rfl
 refine pure_ (i := 5) (N := some 13) (v := ?_) (a' := ?_) #[true, false, false, false, false, true, false, false, false, false, false, false, false] rfl rfl (any_of HT_.out (by kernel_rfl)) (fun _ _ _ h => h) (Or.inl ⟨by rfl, ?_⟩) ?_ ?_
 rotate_left
 ·
  intro w'
  go_simp
  with_reducible rfl
 rotate_left
 ·
  simp only [Act.put, List.setIfInBounds_toArray, List.set_cons_zero, List.set_cons_succ, i64_w, i32_w]
  rfl
 refine take_ (i := 1) (N := some 9) (v := ?_) (a' := ?_) #[true, true, false, false, false, true, false, false, false, false, false, false, false] rfl rfl (take_ofW HT_.out HW_.out (by kernel_rfl)) (fun _ _ _ h => h) (Or.inl ⟨by rfl, ?_⟩) hHeld ?_ ?_
 rotate_left
 ·
  rintro w' ⟨s0, s1, s2, s3, s4, s5⟩
  go_simp
  with_reducible rfl
 rotate_left
 ·
  simp only [Act.put, List.setIfInBounds_toArray, List.set_cons_zero, List.set_cons_succ, i64_w, i32_w]
  rfl
 refine take_ (i := 2) (N := some 10) (v := ?_) (a' := ?_) #[true, true, true, false, false, true, false, false, false, false, false, false, false] rfl rfl (take_ofW HT_.out HW_.out (by kernel_rfl)) (fun _ _ _ h => h) (Or.inl ⟨by rfl, ?_⟩) hHeld ?_ ?_
 rotate_left
 ·
  rintro w' ⟨s0, s1, s2, s3, s4, s5⟩
  go_simp
  with_reducible rfl
 rotate_left
 ·
  simp only [Act.put, List.setIfInBounds_toArray, List.set_cons_zero, List.set_cons_succ, i64_w, i32_w]
  rfl
 refine take_ (i := 6) (N := some 14) (v := ?_) (a' := ?_) #[true, true, true, false, false, true, true, false, false, false, false, false, false] rfl rfl (take_ofW HT_.out HW_.out (by kernel_rfl)) (fun _ _ _ h => h) (Or.inl ⟨by rfl, ?_⟩) hHeld ?_ ?_
 rotate_left
 ·
  rintro w' ⟨s0, s1, s2, s3, s4, s5⟩
  go_simp
  with_reducible rfl
 rotate_left
 ·
  simp only [Act.put, List.setIfInBounds_toArray, List.set_cons_zero, List.set_cons_succ, i64_w, i32_w]
  rfl
 refine take_ (i := 7) (N := some 15) (v := ?_) (a' := ?_) #[true, true, true, false, false, true, true, true, false, false, false, false, false] rfl rfl (take_ofW HT_.out HW_.out (by kernel_rfl)) (fun _ _ _ h => h) (Or.inl ⟨by rfl, ?_⟩) hHeld ?_ ?_
 rotate_left
 ·
  rintro w' ⟨s0, s1, s2, s3, s4, s5⟩
  go_simp
  with_reducible rfl
 rotate_left
 ·
  simp only [Act.put, List.setIfInBounds_toArray, List.set_cons_zero, List.set_cons_succ, i64_w, i32_w]
  rfl
 refine join_ (σ := Value × Value × Value × Value × Value × Nat) 1 #[true, true, true, true, true, true, true, true, true, true, true, true, false] (fun s_ => [(11, .agg #[.bool t539, s_.1]), (12, .agg #[.bool t543, s_.2.1]), (16, .agg #[.bool t547, s_.2.2.1]), (17, .agg #[.bool t551, s_.2.2.2.1]), (18, .agg #[.bool t555, s_.2.2.2.2.1]), (5, .pointer (some ⟨s_.2.2.2.2.2, 0, none⟩))]) (fun s_ w' => (w'.cell? ⟨gb536, 0, none⟩ = some (.bool a0_0) ∧ w'.cell? ⟨gb536, 1, none⟩ = some (.slice A0_1 l0_1.length c0_1) ∧ w'.cell? ⟨gb536, 2, none⟩ = some (.slice A0_2 l0_2.length c0_2) ∧ w'.cell? ⟨gb537, 0, none⟩ = some (.bool a1_0) ∧ w'.cell? ⟨gb537, 1, none⟩ = some (.slice A1_1 l1_1.length c1_1) ∧ w'.cell? ⟨gb537, 2, none⟩ = some (.slice A1_2 l1_2.length c1_2)) ∧ (Kd.R (Kd.int .u64) 96 w' w.heap.size (fun k_ => nb k_ (s_.2.1) ∧ nb k_ (s_.2.2.1) ∧ nb k_ (s_.2.2.2.1) ∧ nb k_ (s_.2.2.2.2.1)) s_.1 t540) ∧ (Kd.R (Kd.int .u64) 96 w' w.heap.size (fun k_ => nb k_ (s_.1) ∧ nb k_ (s_.2.2.1) ∧ nb k_ (s_.2.2.2.1) ∧ nb k_ (s_.2.2.2.2.1)) s_.2.1 t544) ∧ (Kd.R (Kd.int .u64) 96 w' w.heap.size (fun k_ => nb k_ (s_.1) ∧ nb k_ (s_.2.1) ∧ nb k_ (s_.2.2.2.1) ∧ nb k_ (s_.2.2.2.2.1)) s_.2.2.1 t548) ∧ (Kd.R (Kd.int .u64) 96 w' w.heap.size (fun k_ => nb k_ (s_.1) ∧ nb k_ (s_.2.1) ∧ nb k_ (s_.2.2.1) ∧ nb k_ (s_.2.2.2.2.1)) s_.2.2.2.1 t552) ∧ (Kd.R (Kd.int .u64) 96 w' w.heap.size (fun k_ => nb k_ (s_.1) ∧ nb k_ (s_.2.1) ∧ nb k_ (s_.2.2.1) ∧ nb k_ (s_.2.2.2.1)) s_.2.2.2.2.1 t556) ∧ (w'.heap[gb536]? = some (.cells #[.bool a0_0, .slice A0_1 l0_1.length c0_1, .slice A0_2 l0_2.length c0_2] 34 (0, 0))) ∧ (w'.heap[gb537]? = some (.cells #[.bool a1_0, .slice A1_1 l1_1.length c1_1, .slice A1_2 l1_2.length c1_2] 34 (0, 0))) ∧ (w'.heap[gb538]? = some (.cells #[.bool false, .slice none 0 0, .slice none 0 0] 34 (0, 0))) ∧ (w'.heap[s_.2.2.2.2.2]? = some (.cells #[.bool false, .slice none 0 0] 32 (0, 0))) ∧ (w.heap.size ≤ s_.2.2.2.2.2) ∧ (w.heap.size ≤ s_.2.2.2.2.2) ∧ (gb536 ≠ s_.2.2.2.2.2) ∧ (s_.2.2.2.2.2 ≠ gb536) ∧ (gb537 ≠ s_.2.2.2.2.2) ∧ (s_.2.2.2.2.2 ≠ gb537) ∧ (gb538 ≠ s_.2.2.2.2.2) ∧ (s_.2.2.2.2.2 ≠ gb538) ∧ (Below w.heap.size w w')) ?_ ?_
 rotate_left
 ·
  intro hJ3_4_8_9_10_11
  refine join_ (σ := Value × Value × Value × Value × Value) 2 #[true, true, true, true, true, true, true, true, true, true, true, false, false] (fun s_ => [(11, .agg #[.bool t539, s_.1]), (12, .agg #[.bool t543, s_.2.1]), (16, .agg #[.bool t547, s_.2.2.1]), (17, .agg #[.bool t551, s_.2.2.2.1]), (18, .agg #[.bool t555, s_.2.2.2.2])]) (fun s_ w' => (w'.cell? ⟨gb536, 0, none⟩ = some (.bool a0_0) ∧ w'.cell? ⟨gb536, 1, none⟩ = some (.slice A0_1 l0_1.length c0_1) ∧ w'.cell? ⟨gb536, 2, none⟩ = some (.slice A0_2 l0_2.length c0_2) ∧ w'.cell? ⟨gb537, 0, none⟩ = some (.bool a1_0) ∧ w'.cell? ⟨gb537, 1, none⟩ = some (.slice A1_1 l1_1.length c1_1) ∧ w'.cell? ⟨gb537, 2, none⟩ = some (.slice A1_2 l1_2.length c1_2)) ∧ (Kd.R (Kd.int .u64) 96 w' w.heap.size (fun k_ => nb k_ (s_.2.1) ∧ nb k_ (s_.2.2.1) ∧ nb k_ (s_.2.2.2.1) ∧ nb k_ (s_.2.2.2.2)) s_.1 t540) ∧ (Kd.R (Kd.int .u64) 96 w' w.heap.size (fun k_ => nb k_ (s_.1) ∧ nb k_ (s_.2.2.1) ∧ nb k_ (s_.2.2.2.1) ∧ nb k_ (s_.2.2.2.2)) s_.2.1 t544) ∧ (Kd.R (Kd.int .u64) 96 w' w.heap.size (fun k_ => nb k_ (s_.1) ∧ nb k_ (s_.2.1) ∧ nb k_ (s_.2.2.2.1) ∧ nb k_ (s_.2.2.2.2)) s_.2.2.1 t548) ∧ (Kd.R (Kd.int .u64) 96 w' w.heap.size (fun k_ => nb k_ (s_.1) ∧ nb k_ (s_.2.1) ∧ nb k_ (s_.2.2.1) ∧ nb k_ (s_.2.2.2.2)) s_.2.2.2.1 t552) ∧ (Kd.R (Kd.int .u64) 96 w' w.heap.size (fun k_ => nb k_ (s_.1) ∧ nb k_ (s_.2.1) ∧ nb k_ (s_.2.2.1) ∧ nb k_ (s_.2.2.2.1)) s_.2.2.2.2 t556) ∧ (w'.heap[gb536]? = some (.cells #[.bool a0_0, .slice A0_1 l0_1.length c0_1, .slice A0_2 l0_2.length c0_2] 34 (0, 0))) ∧ (w'.heap[gb537]? = some (.cells #[.bool a1_0, .slice A1_1 l1_1.length c1_1, .slice A1_2 l1_2.length c1_2] 34 (0, 0))) ∧ (w'.heap[gb538]? = some (.cells #[.bool false, .slice none 0 0, .slice none 0 0] 34 (0, 0))) ∧ (Below w.heap.size w w')) ?_ ?_
  rotate_left
  ·
   intro hJ3_4_8_9_10
   refine join_ (σ := Value × Value × Value × Value × Nat) 2 #[true, true, true, true, true, true, true, true, true, true, false, true, false] (fun s_ => [(11, .agg #[.bool t539, s_.1]), (12, .agg #[.bool t543, s_.2.1]), (16, .agg #[.bool t547, s_.2.2.1]), (17, .agg #[.bool t551, s_.2.2.2.1]), (5, .pointer (some ⟨s_.2.2.2.2, 0, none⟩))]) (fun s_ w' => (w'.cell? ⟨gb536, 0, none⟩ = some (.bool a0_0) ∧ w'.cell? ⟨gb536, 1, none⟩ = some (.slice A0_1 l0_1.length c0_1) ∧ w'.cell? ⟨gb536, 2, none⟩ = some (.slice A0_2 l0_2.length c0_2) ∧ w'.cell? ⟨gb537, 0, none⟩ = some (.bool a1_0) ∧ w'.cell? ⟨gb537, 1, none⟩ = some (.slice A1_1 l1_1.length c1_1) ∧ w'.cell? ⟨gb537, 2, none⟩ = some (.slice A1_2 l1_2.length c1_2)) ∧ (Kd.R (Kd.int .u64) 96 w' w.heap.size (fun k_ => nb k_ (s_.2.1) ∧ nb k_ (s_.2.2.1) ∧ nb k_ (s_.2.2.2.1)) s_.1 t540) ∧ (Kd.R (Kd.int .u64) 96 w' w.heap.size (fun k_ => nb k_ (s_.1) ∧ nb k_ (s_.2.2.1) ∧ nb k_ (s_.2.2.2.1)) s_.2.1 t544) ∧ (Kd.R (Kd.int .u64) 96 w' w.heap.size (fun k_ => nb k_ (s_.1) ∧ nb k_ (s_.2.1) ∧ nb k_ (s_.2.2.2.1)) s_.2.2.1 t548) ∧ (Kd.R (Kd.int .u64) 96 w' w.heap.size (fun k_ => nb k_ (s_.1) ∧ nb k_ (s_.2.1) ∧ nb k_ (s_.2.2.1)) s_.2.2.2.1 t552) ∧ (w'.heap[gb536]? = some (.cells #[.bool a0_0, .slice A0_1 l0_1.length c0_1, .slice A0_2 l0_2.length c0_2] 34 (0, 0))) ∧ (w'.heap[gb537]? = some (.cells #[.bool a1_0, .slice A1_1 l1_1.length c1_1, .slice A1_2 l1_2.length c1_2] 34 (0, 0))) ∧ (w'.heap[gb538]? = some (.cells #[.bool false, .slice none 0 0, .slice none 0 0] 34 (0, 0))) ∧ (w'.heap[s_.2.2.2.2]? = some (.cells #[.bool false, .slice none 0 0] 32 (0, 0))) ∧ (w.heap.size ≤ s_.2.2.2.2) ∧ (w.heap.size ≤ s_.2.2.2.2) ∧ (gb536 ≠ s_.2.2.2.2) ∧ (s_.2.2.2.2 ≠ gb536) ∧ (gb537 ≠ s_.2.2.2.2) ∧ (s_.2.2.2.2 ≠ gb537) ∧ (gb538 ≠ s_.2.2.2.2) ∧ (s_.2.2.2.2 ≠ gb538) ∧ (Below w.heap.size w w')) ?_ ?_
   rotate_left
   ·
    intro hJ3_4_8_9_11
    refine join_ (σ := Value × Value × Value × Value) 3 #[true, true, true, true, true, true, true, true, true, true, false, false, false] (fun s_ => [(11, .agg #[.bool t539, s_.1]), (12, .agg #[.bool t543, s_.2.1]), (16, .agg #[.bool t547, s_.2.2.1]), (17, .agg #[.bool t551, s_.2.2.2])]) (fun s_ w' => (w'.cell? ⟨gb536, 0, none⟩ = some (.bool a0_0) ∧ w'.cell? ⟨gb536, 1, none⟩ = some (.slice A0_1 l0_1.length c0_1) ∧ w'.cell? ⟨gb536, 2, none⟩ = some (.slice A0_2 l0_2.length c0_2) ∧ w'.cell? ⟨gb537, 0, none⟩ = some (.bool a1_0) ∧ w'.cell? ⟨gb537, 1, none⟩ = some (.slice A1_1 l1_1.length c1_1) ∧ w'.cell? ⟨gb537, 2, none⟩ = some (.slice A1_2 l1_2.length c1_2)) ∧ (Kd.R (Kd.int .u64) 96 w' w.heap.size (fun k_ => nb k_ (s_.2.1) ∧ nb k_ (s_.2.2.1) ∧ nb k_ (s_.2.2.2)) s_.1 t540) ∧ (Kd.R (Kd.int .u64) 96 w' w.heap.size (fun k_ => nb k_ (s_.1) ∧ nb k_ (s_.2.2.1) ∧ nb k_ (s_.2.2.2)) s_.2.1 t544) ∧ (Kd.R (Kd.int .u64) 96 w' w.heap.size (fun k_ => nb k_ (s_.1) ∧ nb k_ (s_.2.1) ∧ nb k_ (s_.2.2.2)) s_.2.2.1 t548) ∧ (Kd.R (Kd.int .u64) 96 w' w.heap.size (fun k_ => nb k_ (s_.1) ∧ nb k_ (s_.2.1) ∧ nb k_ (s_.2.2.1)) s_.2.2.2 t552) ∧ (w'.heap[gb536]? = some (.cells #[.bool a0_0, .slice A0_1 l0_1.length c0_1, .slice A0_2 l0_2.length c0_2] 34 (0, 0))) ∧ (w'.heap[gb537]? = some (.cells #[.bool a1_0, .slice A1_1 l1_1.length c1_1, .slice A1_2 l1_2.length c1_2] 34 (0, 0))) ∧ (w'.heap[gb538]? = some (.cells #[.bool false, .slice none 0 0, .slice none 0 0] 34 (0, 0))) ∧ (Below w.heap.size w w')) ?_ ?_
    rotate_left
    ·
     intro hJ3_4_8_9
     refine join_ (σ := Value × Value × Value × Nat) 3 #[true, true, true, true, true, true, true, true, true, false, false, true, false] (fun s_ => [(11, .agg #[.bool t539, s_.1]), (12, .agg #[.bool t543, s_.2.1]), (16, .agg #[.bool t547, s_.2.2.1]), (5, .pointer (some ⟨s_.2.2.2, 0, none⟩))]) (fun s_ w' => (w'.cell? ⟨gb536, 0, none⟩ = some (.bool a0_0) ∧ w'.cell? ⟨gb536, 1, none⟩ = some (.slice A0_1 l0_1.length c0_1) ∧ w'.cell? ⟨gb536, 2, none⟩ = some (.slice A0_2 l0_2.length c0_2) ∧ w'.cell? ⟨gb537, 0, none⟩ = some (.bool a1_0) ∧ w'.cell? ⟨gb537, 1, none⟩ = some (.slice A1_1 l1_1.length c1_1) ∧ w'.cell? ⟨gb537, 2, none⟩ = some (.slice A1_2 l1_2.length c1_2)) ∧ (Kd.R (Kd.int .u64) 96 w' w.heap.size (fun k_ => nb k_ (s_.2.1) ∧ nb k_ (s_.2.2.1)) s_.1 t540) ∧ (Kd.R (Kd.int .u64) 96 w' w.heap.size (fun k_ => nb k_ (s_.1) ∧ nb k_ (s_.2.2.1)) s_.2.1 t544) ∧ (Kd.R (Kd.int .u64) 96 w' w.heap.size (fun k_ => nb k_ (s_.1) ∧ nb k_ (s_.2.1)) s_.2.2.1 t548) ∧ (w'.heap[gb536]? = some (.cells #[.bool a0_0, .slice A0_1 l0_1.length c0_1, .slice A0_2 l0_2.length c0_2] 34 (0, 0))) ∧ (w'.heap[gb537]? = some (.cells #[.bool a1_0, .slice A1_1 l1_1.length c1_1, .slice A1_2 l1_2.length c1_2] 34 (0, 0))) ∧ (w'.heap[gb538]? = some (.cells #[.bool false, .slice none 0 0, .slice none 0 0] 34 (0, 0))) ∧ (w'.heap[s_.2.2.2]? = some (.cells #[.bool false, .slice none 0 0] 32 (0, 0))) ∧ (w.heap.size ≤ s_.2.2.2) ∧ (w.heap.size ≤ s_.2.2.2) ∧ (gb536 ≠ s_.2.2.2) ∧ (s_.2.2.2 ≠ gb536) ∧ (gb537 ≠ s_.2.2.2) ∧ (s_.2.2.2 ≠ gb537) ∧ (gb538 ≠ s_.2.2.2) ∧ (s_.2.2.2 ≠ gb538) ∧ (Below w.heap.size w w')) ?_ ?_
     rotate_left
     ·
      intro hJ3_4_8_11
      refine join_ (σ := Value × Value × Value) 4 #[true, true, true, true, true, true, true, true, true, false, false, false, false] (fun s_ => [(11, .agg #[.bool t539, s_.1]), (12, .agg #[.bool t543, s_.2.1]), (16, .agg #[.bool t547, s_.2.2])]) (fun s_ w' => (w'.cell? ⟨gb536, 0, none⟩ = some (.bool a0_0) ∧ w'.cell? ⟨gb536, 1, none⟩ = some (.slice A0_1 l0_1.length c0_1) ∧ w'.cell? ⟨gb536, 2, none⟩ = some (.slice A0_2 l0_2.length c0_2) ∧ w'.cell? ⟨gb537, 0, none⟩ = some (.bool a1_0) ∧ w'.cell? ⟨gb537, 1, none⟩ = some (.slice A1_1 l1_1.length c1_1) ∧ w'.cell? ⟨gb537, 2, none⟩ = some (.slice A1_2 l1_2.length c1_2)) ∧ (Kd.R (Kd.int .u64) 96 w' w.heap.size (fun k_ => nb k_ (s_.2.1) ∧ nb k_ (s_.2.2)) s_.1 t540) ∧ (Kd.R (Kd.int .u64) 96 w' w.heap.size (fun k_ => nb k_ (s_.1) ∧ nb k_ (s_.2.2)) s_.2.1 t544) ∧ (Kd.R (Kd.int .u64) 96 w' w.heap.size (fun k_ => nb k_ (s_.1) ∧ nb k_ (s_.2.1)) s_.2.2 t548) ∧ (w'.heap[gb536]? = some (.cells #[.bool a0_0, .slice A0_1 l0_1.length c0_1, .slice A0_2 l0_2.length c0_2] 34 (0, 0))) ∧ (w'.heap[gb537]? = some (.cells #[.bool a1_0, .slice A1_1 l1_1.length c1_1, .slice A1_2 l1_2.length c1_2] 34 (0, 0))) ∧ (w'.heap[gb538]? = some (.cells #[.bool false, .slice none 0 0, .slice none 0 0] 34 (0, 0))) ∧ (Below w.heap.size w w')) ?_ ?_
      rotate_left
      ·
       intro hJ3_4_8
       refine join_ (σ := Value × Value × Nat) 4 #[true, true, true, true, true, true, true, true, false, false, false, true, false] (fun s_ => [(11, .agg #[.bool t539, s_.1]), (12, .agg #[.bool t543, s_.2.1]), (5, .pointer (some ⟨s_.2.2, 0, none⟩))]) (fun s_ w' => (w'.cell? ⟨gb536, 0, none⟩ = some (.bool a0_0) ∧ w'.cell? ⟨gb536, 1, none⟩ = some (.slice A0_1 l0_1.length c0_1) ∧ w'.cell? ⟨gb536, 2, none⟩ = some (.slice A0_2 l0_2.length c0_2) ∧ w'.cell? ⟨gb537, 0, none⟩ = some (.bool a1_0) ∧ w'.cell? ⟨gb537, 1, none⟩ = some (.slice A1_1 l1_1.length c1_1) ∧ w'.cell? ⟨gb537, 2, none⟩ = some (.slice A1_2 l1_2.length c1_2)) ∧ (Kd.R (Kd.int .u64) 96 w' w.heap.size (fun k_ => nb k_ (s_.2.1)) s_.1 t540) ∧ (Kd.R (Kd.int .u64) 96 w' w.heap.size (fun k_ => nb k_ (s_.1)) s_.2.1 t544) ∧ (w'.heap[gb536]? = some (.cells #[.bool a0_0, .slice A0_1 l0_1.length c0_1, .slice A0_2 l0_2.length c0_2] 34 (0, 0))) ∧ (w'.heap[gb537]? = some (.cells #[.bool a1_0, .slice A1_1 l1_1.length c1_1, .slice A1_2 l1_2.length c1_2] 34 (0, 0))) ∧ (w'.heap[gb538]? = some (.cells #[.bool false, .slice none 0 0, .slice none 0 0] 34 (0, 0))) ∧ (w'.heap[s_.2.2]? = some (.cells #[.bool false, .slice none 0 0] 32 (0, 0))) ∧ (w.heap.size ≤ s_.2.2) ∧ (w.heap.size ≤ s_.2.2) ∧ (gb536 ≠ s_.2.2) ∧ (s_.2.2 ≠ gb536) ∧ (gb537 ≠ s_.2.2) ∧ (s_.2.2 ≠ gb537) ∧ (gb538 ≠ s_.2.2) ∧ (s_.2.2 ≠ gb538) ∧ (Below w.heap.size w w')) ?_ ?_
       rotate_left
       ·
        intro hJ3_4_11
        refine join_ (σ := Value × Value) 5 #[true, true, true, true, true, true, true, true, false, false, false, false, false] (fun s_ => [(11, .agg #[.bool t539, s_.1]), (12, .agg #[.bool t543, s_.2])]) (fun s_ w' => (w'.cell? ⟨gb536, 0, none⟩ = some (.bool a0_0) ∧ w'.cell? ⟨gb536, 1, none⟩ = some (.slice A0_1 l0_1.length c0_1) ∧ w'.cell? ⟨gb536, 2, none⟩ = some (.slice A0_2 l0_2.length c0_2) ∧ w'.cell? ⟨gb537, 0, none⟩ = some (.bool a1_0) ∧ w'.cell? ⟨gb537, 1, none⟩ = some (.slice A1_1 l1_1.length c1_1) ∧ w'.cell? ⟨gb537, 2, none⟩ = some (.slice A1_2 l1_2.length c1_2)) ∧ (Kd.R (Kd.int .u64) 96 w' w.heap.size (fun k_ => nb k_ (s_.2)) s_.1 t540) ∧ (Kd.R (Kd.int .u64) 96 w' w.heap.size (fun k_ => nb k_ (s_.1)) s_.2 t544) ∧ (w'.heap[gb536]? = some (.cells #[.bool a0_0, .slice A0_1 l0_1.length c0_1, .slice A0_2 l0_2.length c0_2] 34 (0, 0))) ∧ (w'.heap[gb537]? = some (.cells #[.bool a1_0, .slice A1_1 l1_1.length c1_1, .slice A1_2 l1_2.length c1_2] 34 (0, 0))) ∧ (w'.heap[gb538]? = some (.cells #[.bool false, .slice none 0 0, .slice none 0 0] 34 (0, 0))) ∧ (Below w.heap.size w w')) ?_ ?_
        rotate_left
        ·
         intro hJ3_4
         refine join_ (σ := Value × Nat) 5 #[true, true, true, true, false, true, true, true, false, false, false, true, false] (fun s_ => [(11, .agg #[.bool t539, s_.1]), (5, .pointer (some ⟨s_.2, 0, none⟩))]) (fun s_ w' => (w'.cell? ⟨gb536, 0, none⟩ = some (.bool a0_0) ∧ w'.cell? ⟨gb536, 1, none⟩ = some (.slice A0_1 l0_1.length c0_1) ∧ w'.cell? ⟨gb536, 2, none⟩ = some (.slice A0_2 l0_2.length c0_2) ∧ w'.cell? ⟨gb537, 0, none⟩ = some (.bool a1_0) ∧ w'.cell? ⟨gb537, 1, none⟩ = some (.slice A1_1 l1_1.length c1_1) ∧ w'.cell? ⟨gb537, 2, none⟩ = some (.slice A1_2 l1_2.length c1_2)) ∧ (Kd.R (Kd.int .u64) 96 w' w.heap.size (fun _ => True) s_.1 t540) ∧ (w'.heap[gb536]? = some (.cells #[.bool a0_0, .slice A0_1 l0_1.length c0_1, .slice A0_2 l0_2.length c0_2] 34 (0, 0))) ∧ (w'.heap[gb537]? = some (.cells #[.bool a1_0, .slice A1_1 l1_1.length c1_1, .slice A1_2 l1_2.length c1_2] 34 (0, 0))) ∧ (w'.heap[gb538]? = some (.cells #[.bool false, .slice none 0 0, .slice none 0 0] 34 (0, 0))) ∧ (w'.heap[s_.2]? = some (.cells #[.bool false, .slice none 0 0] 32 (0, 0))) ∧ (w.heap.size ≤ s_.2) ∧ (w.heap.size ≤ s_.2) ∧ (gb536 ≠ s_.2) ∧ (s_.2 ≠ gb536) ∧ (gb537 ≠ s_.2) ∧ (s_.2 ≠ gb537) ∧ (gb538 ≠ s_.2) ∧ (s_.2 ≠ gb538) ∧ (Below w.heap.size w w')) ?_ ?_
         rotate_left
         ·
          intro hJ3_11
          refine join_ (σ := Value) 6 #[true, true, true, true, false, true, true, true, false, false, false, false, false] (fun s_ => [(11, .agg #[.bool t539, s_])]) (fun s_ w' => (w'.cell? ⟨gb536, 0, none⟩ = some (.bool a0_0) ∧ w'.cell? ⟨gb536, 1, none⟩ = some (.slice A0_1 l0_1.length c0_1) ∧ w'.cell? ⟨gb536, 2, none⟩ = some (.slice A0_2 l0_2.length c0_2) ∧ w'.cell? ⟨gb537, 0, none⟩ = some (.bool a1_0) ∧ w'.cell? ⟨gb537, 1, none⟩ = some (.slice A1_1 l1_1.length c1_1) ∧ w'.cell? ⟨gb537, 2, none⟩ = some (.slice A1_2 l1_2.length c1_2)) ∧ (Kd.R (Kd.int .u64) 96 w' w.heap.size (fun _ => True) s_ t540) ∧ (w'.heap[gb536]? = some (.cells #[.bool a0_0, .slice A0_1 l0_1.length c0_1, .slice A0_2 l0_2.length c0_2] 34 (0, 0))) ∧ (w'.heap[gb537]? = some (.cells #[.bool a1_0, .slice A1_1 l1_1.length c1_1, .slice A1_2 l1_2.length c1_2] 34 (0, 0))) ∧ (w'.heap[gb538]? = some (.cells #[.bool false, .slice none 0 0, .slice none 0 0] 34 (0, 0))) ∧ (Below w.heap.size w w')) ?_ ?_
          rotate_left
          ·
           intro hJ3
           refine join_ (σ := Nat) 6 #[true, true, true, false, false, true, true, true, false, false, false, true, false] (fun s_ => [(5, .pointer (some ⟨s_, 0, none⟩))]) (fun s_ w' => (w'.cell? ⟨gb536, 0, none⟩ = some (.bool a0_0) ∧ w'.cell? ⟨gb536, 1, none⟩ = some (.slice A0_1 l0_1.length c0_1) ∧ w'.cell? ⟨gb536, 2, none⟩ = some (.slice A0_2 l0_2.length c0_2) ∧ w'.cell? ⟨gb537, 0, none⟩ = some (.bool a1_0) ∧ w'.cell? ⟨gb537, 1, none⟩ = some (.slice A1_1 l1_1.length c1_1) ∧ w'.cell? ⟨gb537, 2, none⟩ = some (.slice A1_2 l1_2.length c1_2)) ∧ (w'.heap[gb536]? = some (.cells #[.bool a0_0, .slice A0_1 l0_1.length c0_1, .slice A0_2 l0_2.length c0_2] 34 (0, 0))) ∧ (w'.heap[gb537]? = some (.cells #[.bool a1_0, .slice A1_1 l1_1.length c1_1, .slice A1_2 l1_2.length c1_2] 34 (0, 0))) ∧ (w'.heap[gb538]? = some (.cells #[.bool false, .slice none 0 0, .slice none 0 0] 34 (0, 0))) ∧ (w'.heap[s_]? = some (.cells #[.bool false, .slice none 0 0] 32 (0, 0))) ∧ (w.heap.size ≤ s_) ∧ (w.heap.size ≤ s_) ∧ (gb536 ≠ s_) ∧ (s_ ≠ gb536) ∧ (gb537 ≠ s_) ∧ (s_ ≠ gb537) ∧ (gb538 ≠ s_) ∧ (s_ ≠ gb538) ∧ (Below w.heap.size w w')) ?_ ?_
           rotate_left
           ·
            intro hJ11
            refine two_ (i := 3) (j := 11) (Ni := some 11) (Nj := some 5) #[true, true, true, true, false, true, true, true, false, false, false, false, false] #[true, true, true, false, false, true, true, true, false, false, false, true, false] rfl rfl rfl rfl (two_of HT_.out (by kernel_rfl)) (by decide) (by decide) (fun K hK => ?_) (fun K hK => ?_)
            ·
             skip
             refine goes_ Try.func66 (by kernel_rfl) rfl #[.agg #[.bool a1_0, .slice A1_1 l1_1.length c1_1, .slice A1_2 l1_2.length c1_2]] (by rfl) rfl rfl (by (try simp only [List.map_toArray, List.map_cons, List.map_nil]); first | done | rfl | (simp only [List.length_drop, List.length_take]; rfl)) ?_
             with_reducible refine (rat_up.calls k a1_0 _ _ l1_1 _ _ l1_2 t539 t540 _ ?side1 ?side2 ?side3 ?side4 A3.out).mono ?_
             (case side1 => exact Kd.Cx (Kd.C_below HR1_1.out HB.out))
             (case side2 => exact HC1_1.out)
             (case side3 => exact Kd.Cx (Kd.C_below HR1_2.out HB.out))
             (case side4 => exact HC1_2.out)
             rintro e w16 ⟨v541, rfl, ho0, hb⟩
             refine ⟨_, rfl, ?_⟩
             have HO542 := Aside0.mk (Kd.R_lower ho0 (below_size (Bs)))
             replace BK536 := Aside0.mk (blk_below (Kx BK536.out) hb)
             replace BK537 := Aside0.mk (blk_below (Kx BK537.out) hb)
             replace BK538 := Aside0.mk (blk_below (Kx BK538.out) hb)
             replace HB := Aside0.mk (below_step (Bs) hb)
             (try clear hb)
             (try clear hb2)
             (try clear hk)
             (try clear hi)
             (try clear ho0)
             refine hK.out _ _ ⟨(blk_cell BK536.out 0).trans rfl, (blk_cell BK536.out 1).trans rfl, (blk_cell BK536.out 2).trans rfl, (blk_cell BK537.out 0).trans rfl, (blk_cell BK537.out 1).trans rfl, (blk_cell BK537.out 2).trans rfl⟩ (fun hHeld => ?_)
             clear hK K
             refine norm_ (a' := ?_) ?_ ?_
             rotate_left
             ·
              show Act.put _ (some 11) _ = _
              simp only [Act.put, List.setIfInBounds_toArray, List.set_cons_zero, List.set_cons_succ, i64_w, i32_w]
              rfl
             exact norm_ (by first | (simp only [putAll, Act.put, List.setIfInBounds_toArray, List.set_cons_zero, List.set_cons_succ]; done) | (simp only [putAll, Act.put, List.setIfInBounds_toArray, List.set_cons_zero, List.set_cons_succ]; rfl)) (hJ3 (_) _ ⟨hHeld, (Kd.Rx HO542.out), (Kx BK536.out), (Kx BK537.out), (Kx BK538.out), (Bs)⟩)
            ·
             skip
             refine box_step ?hg (N := 5) ?hd (cs := #[.bool false, .slice none 0 0]) (t := 32) ?hr ?_; (case hd => rfl); (case hg => rfl); (case hr => first | (go_simp; done) | (go_simp; rfl))
             intro gb559 hg w16 hbox hb
             have n0_ := Aside0.mk (blk_below (Kx BK536.out) hb)
             have n1_ := Aside0.mk (blk_below (Kx BK537.out) hb)
             have n2_ := Aside0.mk (blk_below (Kx BK538.out) hb)
             have n3_ := Aside0.mk (below_step (Bs) hb)
             have n4_ := Aside0.mk (hbox)
             have n5_ := Aside0.mk ((by rw [hg]; exact (below_size (Bs)) : w.heap.size ≤ gb559))
             have n6_ := Aside0.mk ((by rw [hg]; exact (below_size (Bs)) : w.heap.size ≤ gb559))
             have n7_ := Aside0.mk ((by rw [hg]; exact Nat.ne_of_lt (blk_lt (Kx BK536.out)) : gb536 ≠ gb559))
             have n8_ := Aside0.mk ((by rw [hg]; exact Nat.ne_of_gt (blk_lt (Kx BK536.out)) : gb559 ≠ gb536))
             have n9_ := Aside0.mk ((by rw [hg]; exact Nat.ne_of_lt (blk_lt (Kx BK537.out)) : gb537 ≠ gb559))
             have n10_ := Aside0.mk ((by rw [hg]; exact Nat.ne_of_gt (blk_lt (Kx BK537.out)) : gb559 ≠ gb537))
             have n11_ := Aside0.mk ((by rw [hg]; exact Nat.ne_of_lt (blk_lt (Kx BK538.out)) : gb538 ≠ gb559))
             have n12_ := Aside0.mk ((by rw [hg]; exact Nat.ne_of_gt (blk_lt (Kx BK538.out)) : gb559 ≠ gb538))
             clear BK536
             clear BK537
             clear BK538
             clear HB
             have BK536 := n0_
             have BK537 := n1_
             have BK538 := n2_
             have HB := n3_
             have BK559 := n4_
             have GW559 := n5_
             have GE559 := n6_
             have NB536_559 := n7_
             have NB559_536 := n8_
             have NB537_559 := n9_
             have NB559_537 := n10_
             have NB538_559 := n11_
             have NB559_538 := n12_
             clear n0_ n1_ n2_ n3_ n4_ n5_ n6_ n7_ n8_ n9_ n10_ n11_ n12_
             clear hb hbox hg
             refine hK.out _ _ ⟨(blk_cell BK536.out 0).trans rfl, (blk_cell BK536.out 1).trans rfl, (blk_cell BK536.out 2).trans rfl, (blk_cell BK537.out 0).trans rfl, (blk_cell BK537.out 1).trans rfl, (blk_cell BK537.out 2).trans rfl⟩ (fun hHeld => ?_)
             clear hK K
             refine norm_ (a' := ?_) ?_ ?_
             rotate_left
             ·
              show Act.put _ (some 5) _ = _
              simp only [Act.put, List.setIfInBounds_toArray, List.set_cons_zero, List.set_cons_succ, i64_w, i32_w]
              rfl
             exact norm_ (by first | (simp only [putAll, Act.put, List.setIfInBounds_toArray, List.set_cons_zero, List.set_cons_succ]; done) | (simp only [putAll, Act.put, List.setIfInBounds_toArray, List.set_cons_zero, List.set_cons_succ]; rfl)) (hJ11 (gb559) _ ⟨hHeld, (Kx BK536.out), (Kx BK537.out), (Kx BK538.out), (Kx BK559.out), GW559.out, GE559.out, NB536_559.out, NB559_536.out, NB537_559.out, NB559_537.out, NB538_559.out, NB559_538.out, (Bs)⟩)
           ·
            skip
            rintro gb559 w17 ⟨hS_, h0_, h1_, h2_, h3_, h4_, h5_, h6_, h7_, h8_, h9_, h10_, h11_, h12_⟩
            replace BK536 : Aside0 (w17.heap[gb536]? = some (.cells #[.bool a0_0, .slice A0_1 l0_1.length c0_1, .slice A0_2 l0_2.length c0_2] 34 (0, 0))) := ⟨h0_⟩
            replace BK537 : Aside0 (w17.heap[gb537]? = some (.cells #[.bool a1_0, .slice A1_1 l1_1.length c1_1, .slice A1_2 l1_2.length c1_2] 34 (0, 0))) := ⟨h1_⟩
            replace BK538 : Aside0 (w17.heap[gb538]? = some (.cells #[.bool false, .slice none 0 0, .slice none 0 0] 34 (0, 0))) := ⟨h2_⟩
            have BK559 : Aside0 (w17.heap[gb559]? = some (.cells #[.bool false, .slice none 0 0] 32 (0, 0))) := ⟨h3_⟩
            have GW559 : Aside0 (w.heap.size ≤ gb559) := ⟨h4_⟩
            have GE559 : Aside0 (w.heap.size ≤ gb559) := ⟨h5_⟩
            have NB536_559 : Aside0 (gb536 ≠ gb559) := ⟨h6_⟩
            have NB559_536 : Aside0 (gb559 ≠ gb536) := ⟨h7_⟩
            have NB537_559 : Aside0 (gb537 ≠ gb559) := ⟨h8_⟩
            have NB559_537 : Aside0 (gb559 ≠ gb537) := ⟨h9_⟩
            have NB538_559 : Aside0 (gb538 ≠ gb559) := ⟨h10_⟩
            have NB559_538 : Aside0 (gb559 ≠ gb538) := ⟨h11_⟩
            replace HB : Aside0 (Below w.heap.size w w17) := ⟨h12_⟩
            clear h0_ h1_ h2_ h3_ h4_ h5_ h6_ h7_ h8_ h9_ h10_ h11_ h12_
            have hHeld : w17.cell? ⟨gb536, 0, none⟩ = some (.bool a0_0) ∧ w17.cell? ⟨gb536, 1, none⟩ = some (.slice A0_1 l0_1.length c0_1) ∧ w17.cell? ⟨gb536, 2, none⟩ = some (.slice A0_2 l0_2.length c0_2) ∧ w17.cell? ⟨gb537, 0, none⟩ = some (.bool a1_0) ∧ w17.cell? ⟨gb537, 1, none⟩ = some (.slice A1_1 l1_1.length c1_1) ∧ w17.cell? ⟨gb537, 2, none⟩ = some (.slice A1_2 l1_2.length c1_2) := hS_
            refine norm_ (a' := ?_) ?_ ?_
            rotate_left
            ·
             simp only [putAll, Act.put, List.setIfInBounds_toArray, List.set_cons_zero, List.set_cons_succ]
             rfl
            refine one_ (i := 3) (N := some 11) #[true, true, true, true, false, true, true, true, false, false, false, true, false] rfl rfl (one_of HT_.out (by kernel_rfl)) (by decide) (fun K hK => ?_)
            refine goes_ Try.func66 (by kernel_rfl) rfl #[.agg #[.bool a1_0, .slice A1_1 l1_1.length c1_1, .slice A1_2 l1_2.length c1_2]] (by rfl) rfl rfl (by (try simp only [List.map_toArray, List.map_cons, List.map_nil]); first | done | rfl | (simp only [List.length_drop, List.length_take]; rfl)) ?_
            with_reducible refine (rat_up.calls k a1_0 _ _ l1_1 _ _ l1_2 t539 t540 _ ?side1 ?side2 ?side3 ?side4 A3.out).mono ?_
            (case side1 => exact Kd.Cx (Kd.C_below HR1_1.out HB.out))
            (case side2 => exact HC1_1.out)
            (case side3 => exact Kd.Cx (Kd.C_below HR1_2.out HB.out))
            (case side4 => exact HC1_2.out)
            rintro e w18 ⟨v541, rfl, ho0, hb⟩
            refine ⟨_, rfl, ?_⟩
            have HO542 := Aside0.mk (Kd.R_lower ho0 (below_size (Bs)))
            replace BK536 := Aside0.mk (blk_below (Kx BK536.out) hb)
            replace BK537 := Aside0.mk (blk_below (Kx BK537.out) hb)
            replace BK538 := Aside0.mk (blk_below (Kx BK538.out) hb)
            replace BK559 := Aside0.mk (blk_below (Kx BK559.out) hb)
            replace HB := Aside0.mk (below_step (Bs) hb)
            (try clear hb)
            (try clear hb2)
            (try clear hk)
            (try clear hi)
            (try clear ho0)
            refine hK.out _ _ ⟨(blk_cell BK536.out 0).trans rfl, (blk_cell BK536.out 1).trans rfl, (blk_cell BK536.out 2).trans rfl, (blk_cell BK537.out 0).trans rfl, (blk_cell BK537.out 1).trans rfl, (blk_cell BK537.out 2).trans rfl⟩ (fun hHeld => ?_)
            clear hK K
            refine norm_ (a' := ?_) ?_ ?_
            rotate_left
            ·
             show Act.put _ (some 11) _ = _
             simp only [Act.put, List.setIfInBounds_toArray, List.set_cons_zero, List.set_cons_succ, i64_w, i32_w]
             rfl
            exact norm_ (by first | (simp only [putAll, Act.put, List.setIfInBounds_toArray, List.set_cons_zero, List.set_cons_succ]; done) | (simp only [putAll, Act.put, List.setIfInBounds_toArray, List.set_cons_zero, List.set_cons_succ]; rfl)) (hJ3_11 (_, gb559) _ ⟨hHeld, (Kd.Rx HO542.out), (Kx BK536.out), (Kx BK537.out), (Kx BK538.out), (Kx BK559.out), GW559.out, GE559.out, NB536_559.out, NB559_536.out, NB537_559.out, NB559_537.out, NB538_559.out, NB559_538.out, (Bs)⟩)
          ·
           skip
           rintro v541 w17 ⟨hS_, h0_, h1_, h2_, h3_, h4_⟩
           have HO542 : Aside0 (Kd.R (Kd.int .u64) 96 w17 w.heap.size (fun _ => True) v541 t540) := ⟨h0_⟩
           replace BK536 : Aside0 (w17.heap[gb536]? = some (.cells #[.bool a0_0, .slice A0_1 l0_1.length c0_1, .slice A0_2 l0_2.length c0_2] 34 (0, 0))) := ⟨h1_⟩
           replace BK537 : Aside0 (w17.heap[gb537]? = some (.cells #[.bool a1_0, .slice A1_1 l1_1.length c1_1, .slice A1_2 l1_2.length c1_2] 34 (0, 0))) := ⟨h2_⟩
           replace BK538 : Aside0 (w17.heap[gb538]? = some (.cells #[.bool false, .slice none 0 0, .slice none 0 0] 34 (0, 0))) := ⟨h3_⟩
           replace HB : Aside0 (Below w.heap.size w w17) := ⟨h4_⟩
           clear h0_ h1_ h2_ h3_ h4_
           have hHeld : w17.cell? ⟨gb536, 0, none⟩ = some (.bool a0_0) ∧ w17.cell? ⟨gb536, 1, none⟩ = some (.slice A0_1 l0_1.length c0_1) ∧ w17.cell? ⟨gb536, 2, none⟩ = some (.slice A0_2 l0_2.length c0_2) ∧ w17.cell? ⟨gb537, 0, none⟩ = some (.bool a1_0) ∧ w17.cell? ⟨gb537, 1, none⟩ = some (.slice A1_1 l1_1.length c1_1) ∧ w17.cell? ⟨gb537, 2, none⟩ = some (.slice A1_2 l1_2.length c1_2) := hS_
           obtain ⟨Ao18, co18, eo18⟩ := Kd.R_slice HO542.out
           (first | subst eo18 | (injection eo18 with f1_ f2_ f3_; have f4_ := f1_.symm; have f5_ := f3_.symm; clear f1_ f2_ f3_; subst f4_; subst f5_))
           refine norm_ (a' := ?_) ?_ ?_
           rotate_left
           ·
            simp only [putAll, Act.put, List.setIfInBounds_toArray, List.set_cons_zero, List.set_cons_succ]
            rfl
           refine two_ (i := 4) (j := 11) (Ni := some 12) (Nj := some 5) #[true, true, true, true, true, true, true, true, false, false, false, false, false] #[true, true, true, true, false, true, true, true, false, false, false, true, false] rfl rfl rfl rfl (two_of HT_.out (by kernel_rfl)) (by decide) (by decide) (fun K hK => ?_) (fun K hK => ?_)
           ·
            skip
            refine goes_ Try.func65 (by kernel_rfl) rfl #[.agg #[.bool a0_0, .slice A0_1 l0_1.length c0_1], .agg #[.bool t539, .slice Ao18 t540.length co18]] (by rfl) rfl rfl (by (try simp only [List.map_toArray, List.map_cons, List.map_nil]); first | done | rfl | (simp only [List.length_drop, List.length_take]; rfl)) ?_
            with_reducible refine (whole_Mul.calls k a0_0 _ _ l0_1 t539 _ _ t540 t543 t544 _ ?side1 ?side2 ?side3 ?side4 A4.out).mono ?_
            (case side1 => exact Kd.Cx (Kd.C_below HR0_1.out HB.out))
            (case side2 => exact HC0_1.out)
            (case side3 => exact Kd.Cx (Kd.R_reads' HO542.out).2.2)
            (case side4 => exact (Kd.R_reads' HO542.out).2.1)
            rintro e w19 ⟨v545, rfl, ho0, hb⟩
            refine ⟨_, rfl, ?_⟩
            have HO546 := Aside0.mk (Kd.R_lower (Kd.R_new' ho0 (Kd.R_lt (Kd.Rx HO542.out))) (below_size (Bs)))
            replace HO542 := Aside0.mk (Kd.R_elder' (Kd.Rx HO542.out) (Kd.R_base ho0) hb)
            replace BK536 := Aside0.mk (blk_below (Kx BK536.out) hb)
            replace BK537 := Aside0.mk (blk_below (Kx BK537.out) hb)
            replace BK538 := Aside0.mk (blk_below (Kx BK538.out) hb)
            replace HB := Aside0.mk (below_step (Bs) hb)
            (try clear hb)
            (try clear hb2)
            (try clear hk)
            (try clear hi)
            (try clear ho0)
            refine hK.out _ _ ⟨(blk_cell BK536.out 0).trans rfl, (blk_cell BK536.out 1).trans rfl, (blk_cell BK536.out 2).trans rfl, (blk_cell BK537.out 0).trans rfl, (blk_cell BK537.out 1).trans rfl, (blk_cell BK537.out 2).trans rfl⟩ (fun hHeld => ?_)
            clear hK K
            refine norm_ (a' := ?_) ?_ ?_
            rotate_left
            ·
             show Act.put _ (some 12) _ = _
             simp only [Act.put, List.setIfInBounds_toArray, List.set_cons_zero, List.set_cons_succ, i64_w, i32_w]
             rfl
            exact norm_ (by first | (simp only [putAll, Act.put, List.setIfInBounds_toArray, List.set_cons_zero, List.set_cons_succ]; done) | (simp only [putAll, Act.put, List.setIfInBounds_toArray, List.set_cons_zero, List.set_cons_succ]; rfl)) (hJ3_4 (.slice Ao18 t540.length co18, _) _ ⟨hHeld, (Kd.Rm HO542.out), (Kd.Rm HO546.out), (Kx BK536.out), (Kx BK537.out), (Kx BK538.out), (Bs)⟩)
           ·
            skip
            refine box_step ?hg (N := 5) ?hd (cs := #[.bool false, .slice none 0 0]) (t := 32) ?hr ?_; (case hd => rfl); (case hg => rfl); (case hr => first | (go_simp; done) | (go_simp; rfl))
            intro gb559 hg w18 hbox hb
            have n0_ := Aside0.mk (Kd.R_below (Kd.Rx HO542.out) hb)
            have n1_ := Aside0.mk (blk_below (Kx BK536.out) hb)
            have n2_ := Aside0.mk (blk_below (Kx BK537.out) hb)
            have n3_ := Aside0.mk (blk_below (Kx BK538.out) hb)
            have n4_ := Aside0.mk (below_step (Bs) hb)
            have n5_ := Aside0.mk (hbox)
            have n6_ := Aside0.mk ((by rw [hg]; exact (below_size (Bs)) : w.heap.size ≤ gb559))
            have n7_ := Aside0.mk ((by rw [hg]; exact (below_size (Bs)) : w.heap.size ≤ gb559))
            have n8_ := Aside0.mk ((by rw [hg]; exact Nat.ne_of_lt (blk_lt (Kx BK536.out)) : gb536 ≠ gb559))
            have n9_ := Aside0.mk ((by rw [hg]; exact Nat.ne_of_gt (blk_lt (Kx BK536.out)) : gb559 ≠ gb536))
            have n10_ := Aside0.mk ((by rw [hg]; exact Nat.ne_of_lt (blk_lt (Kx BK537.out)) : gb537 ≠ gb559))
            have n11_ := Aside0.mk ((by rw [hg]; exact Nat.ne_of_gt (blk_lt (Kx BK537.out)) : gb559 ≠ gb537))
            have n12_ := Aside0.mk ((by rw [hg]; exact Nat.ne_of_lt (blk_lt (Kx BK538.out)) : gb538 ≠ gb559))
            have n13_ := Aside0.mk ((by rw [hg]; exact Nat.ne_of_gt (blk_lt (Kx BK538.out)) : gb559 ≠ gb538))
            clear HO542
            clear BK536
            clear BK537
            clear BK538
            clear HB
            have HO542 := n0_
            have BK536 := n1_
            have BK537 := n2_
            have BK538 := n3_
            have HB := n4_
            have BK559 := n5_
            have GW559 := n6_
            have GE559 := n7_
            have NB536_559 := n8_
            have NB559_536 := n9_
            have NB537_559 := n10_
            have NB559_537 := n11_
            have NB538_559 := n12_
            have NB559_538 := n13_
            clear n0_ n1_ n2_ n3_ n4_ n5_ n6_ n7_ n8_ n9_ n10_ n11_ n12_ n13_
            clear hb hbox hg
            refine hK.out _ _ ⟨(blk_cell BK536.out 0).trans rfl, (blk_cell BK536.out 1).trans rfl, (blk_cell BK536.out 2).trans rfl, (blk_cell BK537.out 0).trans rfl, (blk_cell BK537.out 1).trans rfl, (blk_cell BK537.out 2).trans rfl⟩ (fun hHeld => ?_)
            clear hK K
            refine norm_ (a' := ?_) ?_ ?_
            rotate_left
            ·
             show Act.put _ (some 5) _ = _
             simp only [Act.put, List.setIfInBounds_toArray, List.set_cons_zero, List.set_cons_succ, i64_w, i32_w]
             rfl
            exact norm_ (by first | (simp only [putAll, Act.put, List.setIfInBounds_toArray, List.set_cons_zero, List.set_cons_succ]; done) | (simp only [putAll, Act.put, List.setIfInBounds_toArray, List.set_cons_zero, List.set_cons_succ]; rfl)) (hJ3_11 (_, gb559) _ ⟨hHeld, (Kd.Rx HO542.out), (Kx BK536.out), (Kx BK537.out), (Kx BK538.out), (Kx BK559.out), GW559.out, GE559.out, NB536_559.out, NB559_536.out, NB537_559.out, NB559_537.out, NB538_559.out, NB559_538.out, (Bs)⟩)
         ·
          skip
          rintro ⟨v541, gb559⟩ w18 ⟨hS_, h0_, h1_, h2_, h3_, h4_, h5_, h6_, h7_, h8_, h9_, h10_, h11_, h12_, h13_⟩
          have HO542 : Aside0 (Kd.R (Kd.int .u64) 96 w18 w.heap.size (fun _ => True) v541 t540) := ⟨h0_⟩
          replace BK536 : Aside0 (w18.heap[gb536]? = some (.cells #[.bool a0_0, .slice A0_1 l0_1.length c0_1, .slice A0_2 l0_2.length c0_2] 34 (0, 0))) := ⟨h1_⟩
          replace BK537 : Aside0 (w18.heap[gb537]? = some (.cells #[.bool a1_0, .slice A1_1 l1_1.length c1_1, .slice A1_2 l1_2.length c1_2] 34 (0, 0))) := ⟨h2_⟩
          replace BK538 : Aside0 (w18.heap[gb538]? = some (.cells #[.bool false, .slice none 0 0, .slice none 0 0] 34 (0, 0))) := ⟨h3_⟩
          have BK559 : Aside0 (w18.heap[gb559]? = some (.cells #[.bool false, .slice none 0 0] 32 (0, 0))) := ⟨h4_⟩
          have GW559 : Aside0 (w.heap.size ≤ gb559) := ⟨h5_⟩
          have GE559 : Aside0 (w.heap.size ≤ gb559) := ⟨h6_⟩
          have NB536_559 : Aside0 (gb536 ≠ gb559) := ⟨h7_⟩
          have NB559_536 : Aside0 (gb559 ≠ gb536) := ⟨h8_⟩
          have NB537_559 : Aside0 (gb537 ≠ gb559) := ⟨h9_⟩
          have NB559_537 : Aside0 (gb559 ≠ gb537) := ⟨h10_⟩
          have NB538_559 : Aside0 (gb538 ≠ gb559) := ⟨h11_⟩
          have NB559_538 : Aside0 (gb559 ≠ gb538) := ⟨h12_⟩
          replace HB : Aside0 (Below w.heap.size w w18) := ⟨h13_⟩
          clear h0_ h1_ h2_ h3_ h4_ h5_ h6_ h7_ h8_ h9_ h10_ h11_ h12_ h13_
          have hHeld : w18.cell? ⟨gb536, 0, none⟩ = some (.bool a0_0) ∧ w18.cell? ⟨gb536, 1, none⟩ = some (.slice A0_1 l0_1.length c0_1) ∧ w18.cell? ⟨gb536, 2, none⟩ = some (.slice A0_2 l0_2.length c0_2) ∧ w18.cell? ⟨gb537, 0, none⟩ = some (.bool a1_0) ∧ w18.cell? ⟨gb537, 1, none⟩ = some (.slice A1_1 l1_1.length c1_1) ∧ w18.cell? ⟨gb537, 2, none⟩ = some (.slice A1_2 l1_2.length c1_2) := hS_
          obtain ⟨Ao19, co19, eo19⟩ := Kd.R_slice HO542.out
          (first | subst eo19 | (injection eo19 with f1_ f2_ f3_; have f4_ := f1_.symm; have f5_ := f3_.symm; clear f1_ f2_ f3_; subst f4_; subst f5_))
          refine norm_ (a' := ?_) ?_ ?_
          rotate_left
          ·
           simp only [putAll, Act.put, List.setIfInBounds_toArray, List.set_cons_zero, List.set_cons_succ]
           rfl
          refine one_ (i := 4) (N := some 12) #[true, true, true, true, true, true, true, true, false, false, false, true, false] rfl rfl (one_of HT_.out (by kernel_rfl)) (by decide) (fun K hK => ?_)
          refine goes_ Try.func65 (by kernel_rfl) rfl #[.agg #[.bool a0_0, .slice A0_1 l0_1.length c0_1], .agg #[.bool t539, .slice Ao19 t540.length co19]] (by rfl) rfl rfl (by (try simp only [List.map_toArray, List.map_cons, List.map_nil]); first | done | rfl | (simp only [List.length_drop, List.length_take]; rfl)) ?_
          with_reducible refine (whole_Mul.calls k a0_0 _ _ l0_1 t539 _ _ t540 t543 t544 _ ?side1 ?side2 ?side3 ?side4 A4.out).mono ?_
          (case side1 => exact Kd.Cx (Kd.C_below HR0_1.out HB.out))
          (case side2 => exact HC0_1.out)
          (case side3 => exact Kd.Cx (Kd.R_reads' HO542.out).2.2)
          (case side4 => exact (Kd.R_reads' HO542.out).2.1)
          rintro e w20 ⟨v545, rfl, ho0, hb⟩
          refine ⟨_, rfl, ?_⟩
          have HO546 := Aside0.mk (Kd.R_lower (Kd.R_new' ho0 (Kd.R_lt (Kd.Rx HO542.out))) (below_size (Bs)))
          replace HO542 := Aside0.mk (Kd.R_elder' (Kd.Rx HO542.out) (Kd.R_base ho0) hb)
          replace BK536 := Aside0.mk (blk_below (Kx BK536.out) hb)
          replace BK537 := Aside0.mk (blk_below (Kx BK537.out) hb)
          replace BK538 := Aside0.mk (blk_below (Kx BK538.out) hb)
          replace BK559 := Aside0.mk (blk_below (Kx BK559.out) hb)
          replace HB := Aside0.mk (below_step (Bs) hb)
          (try clear hb)
          (try clear hb2)
          (try clear hk)
          (try clear hi)
          (try clear ho0)
          refine hK.out _ _ ⟨(blk_cell BK536.out 0).trans rfl, (blk_cell BK536.out 1).trans rfl, (blk_cell BK536.out 2).trans rfl, (blk_cell BK537.out 0).trans rfl, (blk_cell BK537.out 1).trans rfl, (blk_cell BK537.out 2).trans rfl⟩ (fun hHeld => ?_)
          clear hK K
          refine norm_ (a' := ?_) ?_ ?_
          rotate_left
          ·
           show Act.put _ (some 12) _ = _
           simp only [Act.put, List.setIfInBounds_toArray, List.set_cons_zero, List.set_cons_succ, i64_w, i32_w]
           rfl
          exact norm_ (by first | (simp only [putAll, Act.put, List.setIfInBounds_toArray, List.set_cons_zero, List.set_cons_succ]; done) | (simp only [putAll, Act.put, List.setIfInBounds_toArray, List.set_cons_zero, List.set_cons_succ]; rfl)) (hJ3_4_11 (.slice Ao19 t540.length co19, _, gb559) _ ⟨hHeld, (Kd.Rm HO542.out), (Kd.Rm HO546.out), (Kx BK536.out), (Kx BK537.out), (Kx BK538.out), (Kx BK559.out), GW559.out, GE559.out, NB536_559.out, NB559_536.out, NB537_559.out, NB559_537.out, NB538_559.out, NB559_538.out, (Bs)⟩)
        ·
         skip
         rintro ⟨v541, v545⟩ w19 ⟨hS_, h0_, h1_, h2_, h3_, h4_, h5_⟩
         have HO542 : Aside0 (Kd.R (Kd.int .u64) 96 w19 w.heap.size (fun k_ => nb k_ v545) v541 t540) := ⟨h0_⟩
         have HO546 : Aside0 (Kd.R (Kd.int .u64) 96 w19 w.heap.size (fun k_ => nb k_ v541) v545 t544) := ⟨h1_⟩
         replace BK536 : Aside0 (w19.heap[gb536]? = some (.cells #[.bool a0_0, .slice A0_1 l0_1.length c0_1, .slice A0_2 l0_2.length c0_2] 34 (0, 0))) := ⟨h2_⟩
         replace BK537 : Aside0 (w19.heap[gb537]? = some (.cells #[.bool a1_0, .slice A1_1 l1_1.length c1_1, .slice A1_2 l1_2.length c1_2] 34 (0, 0))) := ⟨h3_⟩
         replace BK538 : Aside0 (w19.heap[gb538]? = some (.cells #[.bool false, .slice none 0 0, .slice none 0 0] 34 (0, 0))) := ⟨h4_⟩
         replace HB : Aside0 (Below w.heap.size w w19) := ⟨h5_⟩
         clear h0_ h1_ h2_ h3_ h4_ h5_
         have hHeld : w19.cell? ⟨gb536, 0, none⟩ = some (.bool a0_0) ∧ w19.cell? ⟨gb536, 1, none⟩ = some (.slice A0_1 l0_1.length c0_1) ∧ w19.cell? ⟨gb536, 2, none⟩ = some (.slice A0_2 l0_2.length c0_2) ∧ w19.cell? ⟨gb537, 0, none⟩ = some (.bool a1_0) ∧ w19.cell? ⟨gb537, 1, none⟩ = some (.slice A1_1 l1_1.length c1_1) ∧ w19.cell? ⟨gb537, 2, none⟩ = some (.slice A1_2 l1_2.length c1_2) := hS_
         refine norm_ (a' := ?_) ?_ ?_
         rotate_left
         ·
          simp only [putAll, Act.put, List.setIfInBounds_toArray, List.set_cons_zero, List.set_cons_succ]
          rfl
         refine two_ (i := 8) (j := 11) (Ni := some 16) (Nj := some 5) #[true, true, true, true, true, true, true, true, true, false, false, false, false] #[true, true, true, true, true, true, true, true, false, false, false, true, false] rfl rfl rfl rfl (two_of HT_.out (by kernel_rfl)) (by decide) (by decide) (fun K hK => ?_) (fun K hK => ?_)
         ·
          skip
          refine goes_ Try.func66 (by kernel_rfl) rfl #[.agg #[.bool a0_0, .slice A0_1 l0_1.length c0_1, .slice A0_2 l0_2.length c0_2]] (by rfl) rfl rfl (by (try simp only [List.map_toArray, List.map_cons, List.map_nil]); first | done | rfl | (simp only [List.length_drop, List.length_take]; rfl)) ?_
          with_reducible refine (rat_up.calls k a0_0 _ _ l0_1 _ _ l0_2 t547 t548 _ ?side1 ?side2 ?side3 ?side4 A5.out).mono ?_
          (case side1 => exact Kd.Cx (Kd.C_below HR0_1.out HB.out))
          (case side2 => exact HC0_1.out)
          (case side3 => exact Kd.Cx (Kd.C_below HR0_2.out HB.out))
          (case side4 => exact HC0_2.out)
          rintro e w20 ⟨v549, rfl, ho0, hb⟩
          refine ⟨_, rfl, ?_⟩
          have HO550 := Aside0.mk (Kd.R_lower (Kd.R_new' (Kd.R_new' ho0 (Kd.R_lt (Kd.Rx HO542.out))) (Kd.R_lt (Kd.Rx HO546.out))) (below_size (Bs)))
          replace HO542 := Aside0.mk (Kd.R_elder' (Kd.Rx HO542.out) (Kd.R_base ho0) hb)
          replace HO546 := Aside0.mk (Kd.R_elder' (Kd.Rx HO546.out) (Kd.R_base ho0) hb)
          replace BK536 := Aside0.mk (blk_below (Kx BK536.out) hb)
          replace BK537 := Aside0.mk (blk_below (Kx BK537.out) hb)
          replace BK538 := Aside0.mk (blk_below (Kx BK538.out) hb)
          replace HB := Aside0.mk (below_step (Bs) hb)
          (try clear hb)
          (try clear hb2)
          (try clear hk)
          (try clear hi)
          (try clear ho0)
          refine hK.out _ _ ⟨(blk_cell BK536.out 0).trans rfl, (blk_cell BK536.out 1).trans rfl, (blk_cell BK536.out 2).trans rfl, (blk_cell BK537.out 0).trans rfl, (blk_cell BK537.out 1).trans rfl, (blk_cell BK537.out 2).trans rfl⟩ (fun hHeld => ?_)
          clear hK K
          refine norm_ (a' := ?_) ?_ ?_
          rotate_left
          ·
           show Act.put _ (some 16) _ = _
           simp only [Act.put, List.setIfInBounds_toArray, List.set_cons_zero, List.set_cons_succ, i64_w, i32_w]
           rfl
          exact norm_ (by first | (simp only [putAll, Act.put, List.setIfInBounds_toArray, List.set_cons_zero, List.set_cons_succ]; done) | (simp only [putAll, Act.put, List.setIfInBounds_toArray, List.set_cons_zero, List.set_cons_succ]; rfl)) (hJ3_4_8 (_, _, _) _ ⟨hHeld, (Kd.Rx HO542.out), (Kd.Rx HO546.out), (Kd.Rm HO550.out), (Kx BK536.out), (Kx BK537.out), (Kx BK538.out), (Bs)⟩)
         ·
          skip
          refine box_step ?hg (N := 5) ?hd (cs := #[.bool false, .slice none 0 0]) (t := 32) ?hr ?_; (case hd => rfl); (case hg => rfl); (case hr => first | (go_simp; done) | (go_simp; rfl))
          intro gb559 hg w20 hbox hb
          have n0_ := Aside0.mk (Kd.R_below (Kd.Rx HO542.out) hb)
          have n1_ := Aside0.mk (Kd.R_below (Kd.Rx HO546.out) hb)
          have n2_ := Aside0.mk (blk_below (Kx BK536.out) hb)
          have n3_ := Aside0.mk (blk_below (Kx BK537.out) hb)
          have n4_ := Aside0.mk (blk_below (Kx BK538.out) hb)
          have n5_ := Aside0.mk (below_step (Bs) hb)
          have n6_ := Aside0.mk (hbox)
          have n7_ := Aside0.mk ((by rw [hg]; exact (below_size (Bs)) : w.heap.size ≤ gb559))
          have n8_ := Aside0.mk ((by rw [hg]; exact (below_size (Bs)) : w.heap.size ≤ gb559))
          have n9_ := Aside0.mk ((by rw [hg]; exact Nat.ne_of_lt (blk_lt (Kx BK536.out)) : gb536 ≠ gb559))
          have n10_ := Aside0.mk ((by rw [hg]; exact Nat.ne_of_gt (blk_lt (Kx BK536.out)) : gb559 ≠ gb536))
          have n11_ := Aside0.mk ((by rw [hg]; exact Nat.ne_of_lt (blk_lt (Kx BK537.out)) : gb537 ≠ gb559))
          have n12_ := Aside0.mk ((by rw [hg]; exact Nat.ne_of_gt (blk_lt (Kx BK537.out)) : gb559 ≠ gb537))
          have n13_ := Aside0.mk ((by rw [hg]; exact Nat.ne_of_lt (blk_lt (Kx BK538.out)) : gb538 ≠ gb559))
          have n14_ := Aside0.mk ((by rw [hg]; exact Nat.ne_of_gt (blk_lt (Kx BK538.out)) : gb559 ≠ gb538))
          clear HO542
          clear HO546
          clear BK536
          clear BK537
          clear BK538
          clear HB
          have HO542 := n0_
          have HO546 := n1_
          have BK536 := n2_
          have BK537 := n3_
          have BK538 := n4_
          have HB := n5_
          have BK559 := n6_
          have GW559 := n7_
          have GE559 := n8_
          have NB536_559 := n9_
          have NB559_536 := n10_
          have NB537_559 := n11_
          have NB559_537 := n12_
          have NB538_559 := n13_
          have NB559_538 := n14_
          clear n0_ n1_ n2_ n3_ n4_ n5_ n6_ n7_ n8_ n9_ n10_ n11_ n12_ n13_ n14_
          clear hb hbox hg
          refine hK.out _ _ ⟨(blk_cell BK536.out 0).trans rfl, (blk_cell BK536.out 1).trans rfl, (blk_cell BK536.out 2).trans rfl, (blk_cell BK537.out 0).trans rfl, (blk_cell BK537.out 1).trans rfl, (blk_cell BK537.out 2).trans rfl⟩ (fun hHeld => ?_)
          clear hK K
          refine norm_ (a' := ?_) ?_ ?_
          rotate_left
          ·
           show Act.put _ (some 5) _ = _
           simp only [Act.put, List.setIfInBounds_toArray, List.set_cons_zero, List.set_cons_succ, i64_w, i32_w]
           rfl
          exact norm_ (by first | (simp only [putAll, Act.put, List.setIfInBounds_toArray, List.set_cons_zero, List.set_cons_succ]; done) | (simp only [putAll, Act.put, List.setIfInBounds_toArray, List.set_cons_zero, List.set_cons_succ]; rfl)) (hJ3_4_11 (_, _, gb559) _ ⟨hHeld, (Kd.Rx HO542.out), (Kd.Rx HO546.out), (Kx BK536.out), (Kx BK537.out), (Kx BK538.out), (Kx BK559.out), GW559.out, GE559.out, NB536_559.out, NB559_536.out, NB537_559.out, NB559_537.out, NB538_559.out, NB559_538.out, (Bs)⟩)
       ·
        skip
        rintro ⟨v541, v545, gb559⟩ w20 ⟨hS_, h0_, h1_, h2_, h3_, h4_, h5_, h6_, h7_, h8_, h9_, h10_, h11_, h12_, h13_, h14_⟩
        have HO542 : Aside0 (Kd.R (Kd.int .u64) 96 w20 w.heap.size (fun k_ => nb k_ v545) v541 t540) := ⟨h0_⟩
        have HO546 : Aside0 (Kd.R (Kd.int .u64) 96 w20 w.heap.size (fun k_ => nb k_ v541) v545 t544) := ⟨h1_⟩
        replace BK536 : Aside0 (w20.heap[gb536]? = some (.cells #[.bool a0_0, .slice A0_1 l0_1.length c0_1, .slice A0_2 l0_2.length c0_2] 34 (0, 0))) := ⟨h2_⟩
        replace BK537 : Aside0 (w20.heap[gb537]? = some (.cells #[.bool a1_0, .slice A1_1 l1_1.length c1_1, .slice A1_2 l1_2.length c1_2] 34 (0, 0))) := ⟨h3_⟩
        replace BK538 : Aside0 (w20.heap[gb538]? = some (.cells #[.bool false, .slice none 0 0, .slice none 0 0] 34 (0, 0))) := ⟨h4_⟩
        have BK559 : Aside0 (w20.heap[gb559]? = some (.cells #[.bool false, .slice none 0 0] 32 (0, 0))) := ⟨h5_⟩
        have GW559 : Aside0 (w.heap.size ≤ gb559) := ⟨h6_⟩
        have GE559 : Aside0 (w.heap.size ≤ gb559) := ⟨h7_⟩
        have NB536_559 : Aside0 (gb536 ≠ gb559) := ⟨h8_⟩
        have NB559_536 : Aside0 (gb559 ≠ gb536) := ⟨h9_⟩
        have NB537_559 : Aside0 (gb537 ≠ gb559) := ⟨h10_⟩
        have NB559_537 : Aside0 (gb559 ≠ gb537) := ⟨h11_⟩
        have NB538_559 : Aside0 (gb538 ≠ gb559) := ⟨h12_⟩
        have NB559_538 : Aside0 (gb559 ≠ gb538) := ⟨h13_⟩
        replace HB : Aside0 (Below w.heap.size w w20) := ⟨h14_⟩
        clear h0_ h1_ h2_ h3_ h4_ h5_ h6_ h7_ h8_ h9_ h10_ h11_ h12_ h13_ h14_
        have hHeld : w20.cell? ⟨gb536, 0, none⟩ = some (.bool a0_0) ∧ w20.cell? ⟨gb536, 1, none⟩ = some (.slice A0_1 l0_1.length c0_1) ∧ w20.cell? ⟨gb536, 2, none⟩ = some (.slice A0_2 l0_2.length c0_2) ∧ w20.cell? ⟨gb537, 0, none⟩ = some (.bool a1_0) ∧ w20.cell? ⟨gb537, 1, none⟩ = some (.slice A1_1 l1_1.length c1_1) ∧ w20.cell? ⟨gb537, 2, none⟩ = some (.slice A1_2 l1_2.length c1_2) := hS_
        refine norm_ (a' := ?_) ?_ ?_
        rotate_left
        ·
         simp only [putAll, Act.put, List.setIfInBounds_toArray, List.set_cons_zero, List.set_cons_succ]
         rfl
        refine one_ (i := 8) (N := some 16) #[true, true, true, true, true, true, true, true, true, false, false, true, false] rfl rfl (one_of HT_.out (by kernel_rfl)) (by decide) (fun K hK => ?_)
        refine goes_ Try.func66 (by kernel_rfl) rfl #[.agg #[.bool a0_0, .slice A0_1 l0_1.length c0_1, .slice A0_2 l0_2.length c0_2]] (by rfl) rfl rfl (by (try simp only [List.map_toArray, List.map_cons, List.map_nil]); first | done | rfl | (simp only [List.length_drop, List.length_take]; rfl)) ?_
        with_reducible refine (rat_up.calls k a0_0 _ _ l0_1 _ _ l0_2 t547 t548 _ ?side1 ?side2 ?side3 ?side4 A5.out).mono ?_
        (case side1 => exact Kd.Cx (Kd.C_below HR0_1.out HB.out))
        (case side2 => exact HC0_1.out)
        (case side3 => exact Kd.Cx (Kd.C_below HR0_2.out HB.out))
        (case side4 => exact HC0_2.out)
        rintro e w21 ⟨v549, rfl, ho0, hb⟩
        refine ⟨_, rfl, ?_⟩
        have HO550 := Aside0.mk (Kd.R_lower (Kd.R_new' (Kd.R_new' ho0 (Kd.R_lt (Kd.Rx HO542.out))) (Kd.R_lt (Kd.Rx HO546.out))) (below_size (Bs)))
        replace HO542 := Aside0.mk (Kd.R_elder' (Kd.Rx HO542.out) (Kd.R_base ho0) hb)
        replace HO546 := Aside0.mk (Kd.R_elder' (Kd.Rx HO546.out) (Kd.R_base ho0) hb)
        replace BK536 := Aside0.mk (blk_below (Kx BK536.out) hb)
        replace BK537 := Aside0.mk (blk_below (Kx BK537.out) hb)
        replace BK538 := Aside0.mk (blk_below (Kx BK538.out) hb)
        replace BK559 := Aside0.mk (blk_below (Kx BK559.out) hb)
        replace HB := Aside0.mk (below_step (Bs) hb)
        (try clear hb)
        (try clear hb2)
        (try clear hk)
        (try clear hi)
        (try clear ho0)
        refine hK.out _ _ ⟨(blk_cell BK536.out 0).trans rfl, (blk_cell BK536.out 1).trans rfl, (blk_cell BK536.out 2).trans rfl, (blk_cell BK537.out 0).trans rfl, (blk_cell BK537.out 1).trans rfl, (blk_cell BK537.out 2).trans rfl⟩ (fun hHeld => ?_)
        clear hK K
        refine norm_ (a' := ?_) ?_ ?_
        rotate_left
        ·
         show Act.put _ (some 16) _ = _
         simp only [Act.put, List.setIfInBounds_toArray, List.set_cons_zero, List.set_cons_succ, i64_w, i32_w]
         rfl
        exact norm_ (by first | (simp only [putAll, Act.put, List.setIfInBounds_toArray, List.set_cons_zero, List.set_cons_succ]; done) | (simp only [putAll, Act.put, List.setIfInBounds_toArray, List.set_cons_zero, List.set_cons_succ]; rfl)) (hJ3_4_8_11 (_, _, _, gb559) _ ⟨hHeld, (Kd.Rx HO542.out), (Kd.Rx HO546.out), (Kd.Rm HO550.out), (Kx BK536.out), (Kx BK537.out), (Kx BK538.out), (Kx BK559.out), GW559.out, GE559.out, NB536_559.out, NB559_536.out, NB537_559.out, NB559_537.out, NB538_559.out, NB559_538.out, (Bs)⟩)
      ·
       skip
       rintro ⟨v541, v545, v549⟩ w20 ⟨hS_, h0_, h1_, h2_, h3_, h4_, h5_, h6_⟩
       have HO542 : Aside0 (Kd.R (Kd.int .u64) 96 w20 w.heap.size (fun k_ => nb k_ v545 ∧ nb k_ v549) v541 t540) := ⟨h0_⟩
       have HO546 : Aside0 (Kd.R (Kd.int .u64) 96 w20 w.heap.size (fun k_ => nb k_ v541 ∧ nb k_ v549) v545 t544) := ⟨h1_⟩
       have HO550 : Aside0 (Kd.R (Kd.int .u64) 96 w20 w.heap.size (fun k_ => nb k_ v541 ∧ nb k_ v545) v549 t548) := ⟨h2_⟩
       replace BK536 : Aside0 (w20.heap[gb536]? = some (.cells #[.bool a0_0, .slice A0_1 l0_1.length c0_1, .slice A0_2 l0_2.length c0_2] 34 (0, 0))) := ⟨h3_⟩
       replace BK537 : Aside0 (w20.heap[gb537]? = some (.cells #[.bool a1_0, .slice A1_1 l1_1.length c1_1, .slice A1_2 l1_2.length c1_2] 34 (0, 0))) := ⟨h4_⟩
       replace BK538 : Aside0 (w20.heap[gb538]? = some (.cells #[.bool false, .slice none 0 0, .slice none 0 0] 34 (0, 0))) := ⟨h5_⟩
       replace HB : Aside0 (Below w.heap.size w w20) := ⟨h6_⟩
       clear h0_ h1_ h2_ h3_ h4_ h5_ h6_
       have hHeld : w20.cell? ⟨gb536, 0, none⟩ = some (.bool a0_0) ∧ w20.cell? ⟨gb536, 1, none⟩ = some (.slice A0_1 l0_1.length c0_1) ∧ w20.cell? ⟨gb536, 2, none⟩ = some (.slice A0_2 l0_2.length c0_2) ∧ w20.cell? ⟨gb537, 0, none⟩ = some (.bool a1_0) ∧ w20.cell? ⟨gb537, 1, none⟩ = some (.slice A1_1 l1_1.length c1_1) ∧ w20.cell? ⟨gb537, 2, none⟩ = some (.slice A1_2 l1_2.length c1_2) := hS_
       obtain ⟨Ao21, co21, eo21⟩ := Kd.R_slice HO550.out
       (first | subst eo21 | (injection eo21 with f1_ f2_ f3_; have f4_ := f1_.symm; have f5_ := f3_.symm; clear f1_ f2_ f3_; subst f4_; subst f5_))
       refine norm_ (a' := ?_) ?_ ?_
       rotate_left
       ·
        simp only [putAll, Act.put, List.setIfInBounds_toArray, List.set_cons_zero, List.set_cons_succ]
        rfl
       refine two_ (i := 9) (j := 11) (Ni := some 17) (Nj := some 5) #[true, true, true, true, true, true, true, true, true, true, false, false, false] #[true, true, true, true, true, true, true, true, true, false, false, true, false] rfl rfl rfl rfl (two_of HT_.out (by kernel_rfl)) (by decide) (by decide) (fun K hK => ?_) (fun K hK => ?_)
       ·
        skip
        refine goes_ Try.func65 (by kernel_rfl) rfl #[.agg #[.bool a1_0, .slice A1_1 l1_1.length c1_1], .agg #[.bool t547, .slice Ao21 t548.length co21]] (by rfl) rfl rfl (by (try simp only [List.map_toArray, List.map_cons, List.map_nil]); first | done | rfl | (simp only [List.length_drop, List.length_take]; rfl)) ?_
        with_reducible refine (whole_Mul.calls k a1_0 _ _ l1_1 t547 _ _ t548 t551 t552 _ ?side1 ?side2 ?side3 ?side4 A6.out).mono ?_
        (case side1 => exact Kd.Cx (Kd.C_below HR1_1.out HB.out))
        (case side2 => exact HC1_1.out)
        (case side3 => exact Kd.Cx (Kd.R_reads' HO550.out).2.2)
        (case side4 => exact (Kd.R_reads' HO550.out).2.1)
        rintro e w22 ⟨v553, rfl, ho0, hb⟩
        refine ⟨_, rfl, ?_⟩
        have HO554 := Aside0.mk (Kd.R_lower (Kd.R_new' (Kd.R_new' (Kd.R_new' ho0 (Kd.R_lt (Kd.Rx HO542.out))) (Kd.R_lt (Kd.Rx HO546.out))) (Kd.R_lt (Kd.Rx HO550.out))) (below_size (Bs)))
        replace HO542 := Aside0.mk (Kd.R_elder' (Kd.Rx HO542.out) (Kd.R_base ho0) hb)
        replace HO546 := Aside0.mk (Kd.R_elder' (Kd.Rx HO546.out) (Kd.R_base ho0) hb)
        replace HO550 := Aside0.mk (Kd.R_elder' (Kd.Rx HO550.out) (Kd.R_base ho0) hb)
        replace BK536 := Aside0.mk (blk_below (Kx BK536.out) hb)
        replace BK537 := Aside0.mk (blk_below (Kx BK537.out) hb)
        replace BK538 := Aside0.mk (blk_below (Kx BK538.out) hb)
        replace HB := Aside0.mk (below_step (Bs) hb)
        (try clear hb)
        (try clear hb2)
        (try clear hk)
        (try clear hi)
        (try clear ho0)
        refine hK.out _ _ ⟨(blk_cell BK536.out 0).trans rfl, (blk_cell BK536.out 1).trans rfl, (blk_cell BK536.out 2).trans rfl, (blk_cell BK537.out 0).trans rfl, (blk_cell BK537.out 1).trans rfl, (blk_cell BK537.out 2).trans rfl⟩ (fun hHeld => ?_)
        clear hK K
        refine norm_ (a' := ?_) ?_ ?_
        rotate_left
        ·
         show Act.put _ (some 17) _ = _
         simp only [Act.put, List.setIfInBounds_toArray, List.set_cons_zero, List.set_cons_succ, i64_w, i32_w]
         rfl
        exact norm_ (by first | (simp only [putAll, Act.put, List.setIfInBounds_toArray, List.set_cons_zero, List.set_cons_succ]; done) | (simp only [putAll, Act.put, List.setIfInBounds_toArray, List.set_cons_zero, List.set_cons_succ]; rfl)) (hJ3_4_8_9 (_, _, .slice Ao21 t548.length co21, _) _ ⟨hHeld, (Kd.Rm HO542.out), (Kd.Rm HO546.out), (Kd.Rm HO550.out), (Kd.Rm HO554.out), (Kx BK536.out), (Kx BK537.out), (Kx BK538.out), (Bs)⟩)
       ·
        skip
        refine box_step ?hg (N := 5) ?hd (cs := #[.bool false, .slice none 0 0]) (t := 32) ?hr ?_; (case hd => rfl); (case hg => rfl); (case hr => first | (go_simp; done) | (go_simp; rfl))
        intro gb559 hg w21 hbox hb
        have n0_ := Aside0.mk (Kd.R_below (Kd.Rx HO542.out) hb)
        have n1_ := Aside0.mk (Kd.R_below (Kd.Rx HO546.out) hb)
        have n2_ := Aside0.mk (Kd.R_below (Kd.Rx HO550.out) hb)
        have n3_ := Aside0.mk (blk_below (Kx BK536.out) hb)
        have n4_ := Aside0.mk (blk_below (Kx BK537.out) hb)
        have n5_ := Aside0.mk (blk_below (Kx BK538.out) hb)
        have n6_ := Aside0.mk (below_step (Bs) hb)
        have n7_ := Aside0.mk (hbox)
        have n8_ := Aside0.mk ((by rw [hg]; exact (below_size (Bs)) : w.heap.size ≤ gb559))
        have n9_ := Aside0.mk ((by rw [hg]; exact (below_size (Bs)) : w.heap.size ≤ gb559))
        have n10_ := Aside0.mk ((by rw [hg]; exact Nat.ne_of_lt (blk_lt (Kx BK536.out)) : gb536 ≠ gb559))
        have n11_ := Aside0.mk ((by rw [hg]; exact Nat.ne_of_gt (blk_lt (Kx BK536.out)) : gb559 ≠ gb536))
        have n12_ := Aside0.mk ((by rw [hg]; exact Nat.ne_of_lt (blk_lt (Kx BK537.out)) : gb537 ≠ gb559))
        have n13_ := Aside0.mk ((by rw [hg]; exact Nat.ne_of_gt (blk_lt (Kx BK537.out)) : gb559 ≠ gb537))
        have n14_ := Aside0.mk ((by rw [hg]; exact Nat.ne_of_lt (blk_lt (Kx BK538.out)) : gb538 ≠ gb559))
        have n15_ := Aside0.mk ((by rw [hg]; exact Nat.ne_of_gt (blk_lt (Kx BK538.out)) : gb559 ≠ gb538))
        clear HO542
        clear HO546
        clear HO550
        clear BK536
        clear BK537
        clear BK538
        clear HB
        have HO542 := n0_
        have HO546 := n1_
        have HO550 := n2_
        have BK536 := n3_
        have BK537 := n4_
        have BK538 := n5_
        have HB := n6_
        have BK559 := n7_
        have GW559 := n8_
        have GE559 := n9_
        have NB536_559 := n10_
        have NB559_536 := n11_
        have NB537_559 := n12_
        have NB559_537 := n13_
        have NB538_559 := n14_
        have NB559_538 := n15_
        clear n0_ n1_ n2_ n3_ n4_ n5_ n6_ n7_ n8_ n9_ n10_ n11_ n12_ n13_ n14_ n15_
        clear hb hbox hg
        refine hK.out _ _ ⟨(blk_cell BK536.out 0).trans rfl, (blk_cell BK536.out 1).trans rfl, (blk_cell BK536.out 2).trans rfl, (blk_cell BK537.out 0).trans rfl, (blk_cell BK537.out 1).trans rfl, (blk_cell BK537.out 2).trans rfl⟩ (fun hHeld => ?_)
        clear hK K
        refine norm_ (a' := ?_) ?_ ?_
        rotate_left
        ·
         show Act.put _ (some 5) _ = _
         simp only [Act.put, List.setIfInBounds_toArray, List.set_cons_zero, List.set_cons_succ, i64_w, i32_w]
         rfl
        exact norm_ (by first | (simp only [putAll, Act.put, List.setIfInBounds_toArray, List.set_cons_zero, List.set_cons_succ]; done) | (simp only [putAll, Act.put, List.setIfInBounds_toArray, List.set_cons_zero, List.set_cons_succ]; rfl)) (hJ3_4_8_11 (_, _, _, gb559) _ ⟨hHeld, (Kd.Rx HO542.out), (Kd.Rx HO546.out), (Kd.Rx HO550.out), (Kx BK536.out), (Kx BK537.out), (Kx BK538.out), (Kx BK559.out), GW559.out, GE559.out, NB536_559.out, NB559_536.out, NB537_559.out, NB559_537.out, NB538_559.out, NB559_538.out, (Bs)⟩)
     ·
      skip
      rintro ⟨v541, v545, v549, gb559⟩ w21 ⟨hS_, h0_, h1_, h2_, h3_, h4_, h5_, h6_, h7_, h8_, h9_, h10_, h11_, h12_, h13_, h14_, h15_⟩
      have HO542 : Aside0 (Kd.R (Kd.int .u64) 96 w21 w.heap.size (fun k_ => nb k_ v545 ∧ nb k_ v549) v541 t540) := ⟨h0_⟩
      have HO546 : Aside0 (Kd.R (Kd.int .u64) 96 w21 w.heap.size (fun k_ => nb k_ v541 ∧ nb k_ v549) v545 t544) := ⟨h1_⟩
      have HO550 : Aside0 (Kd.R (Kd.int .u64) 96 w21 w.heap.size (fun k_ => nb k_ v541 ∧ nb k_ v545) v549 t548) := ⟨h2_⟩
      replace BK536 : Aside0 (w21.heap[gb536]? = some (.cells #[.bool a0_0, .slice A0_1 l0_1.length c0_1, .slice A0_2 l0_2.length c0_2] 34 (0, 0))) := ⟨h3_⟩
      replace BK537 : Aside0 (w21.heap[gb537]? = some (.cells #[.bool a1_0, .slice A1_1 l1_1.length c1_1, .slice A1_2 l1_2.length c1_2] 34 (0, 0))) := ⟨h4_⟩
      replace BK538 : Aside0 (w21.heap[gb538]? = some (.cells #[.bool false, .slice none 0 0, .slice none 0 0] 34 (0, 0))) := ⟨h5_⟩
      have BK559 : Aside0 (w21.heap[gb559]? = some (.cells #[.bool false, .slice none 0 0] 32 (0, 0))) := ⟨h6_⟩
      have GW559 : Aside0 (w.heap.size ≤ gb559) := ⟨h7_⟩
      have GE559 : Aside0 (w.heap.size ≤ gb559) := ⟨h8_⟩
      have NB536_559 : Aside0 (gb536 ≠ gb559) := ⟨h9_⟩
      have NB559_536 : Aside0 (gb559 ≠ gb536) := ⟨h10_⟩
      have NB537_559 : Aside0 (gb537 ≠ gb559) := ⟨h11_⟩
      have NB559_537 : Aside0 (gb559 ≠ gb537) := ⟨h12_⟩
      have NB538_559 : Aside0 (gb538 ≠ gb559) := ⟨h13_⟩
      have NB559_538 : Aside0 (gb559 ≠ gb538) := ⟨h14_⟩
      replace HB : Aside0 (Below w.heap.size w w21) := ⟨h15_⟩
      clear h0_ h1_ h2_ h3_ h4_ h5_ h6_ h7_ h8_ h9_ h10_ h11_ h12_ h13_ h14_ h15_
      have hHeld : w21.cell? ⟨gb536, 0, none⟩ = some (.bool a0_0) ∧ w21.cell? ⟨gb536, 1, none⟩ = some (.slice A0_1 l0_1.length c0_1) ∧ w21.cell? ⟨gb536, 2, none⟩ = some (.slice A0_2 l0_2.length c0_2) ∧ w21.cell? ⟨gb537, 0, none⟩ = some (.bool a1_0) ∧ w21.cell? ⟨gb537, 1, none⟩ = some (.slice A1_1 l1_1.length c1_1) ∧ w21.cell? ⟨gb537, 2, none⟩ = some (.slice A1_2 l1_2.length c1_2) := hS_
      obtain ⟨Ao22, co22, eo22⟩ := Kd.R_slice HO550.out
      (first | subst eo22 | (injection eo22 with f1_ f2_ f3_; have f4_ := f1_.symm; have f5_ := f3_.symm; clear f1_ f2_ f3_; subst f4_; subst f5_))
      refine norm_ (a' := ?_) ?_ ?_
      rotate_left
      ·
       simp only [putAll, Act.put, List.setIfInBounds_toArray, List.set_cons_zero, List.set_cons_succ]
       rfl
      refine one_ (i := 9) (N := some 17) #[true, true, true, true, true, true, true, true, true, true, false, true, false] rfl rfl (one_of HT_.out (by kernel_rfl)) (by decide) (fun K hK => ?_)
      refine goes_ Try.func65 (by kernel_rfl) rfl #[.agg #[.bool a1_0, .slice A1_1 l1_1.length c1_1], .agg #[.bool t547, .slice Ao22 t548.length co22]] (by rfl) rfl rfl (by (try simp only [List.map_toArray, List.map_cons, List.map_nil]); first | done | rfl | (simp only [List.length_drop, List.length_take]; rfl)) ?_
      with_reducible refine (whole_Mul.calls k a1_0 _ _ l1_1 t547 _ _ t548 t551 t552 _ ?side1 ?side2 ?side3 ?side4 A6.out).mono ?_
      (case side1 => exact Kd.Cx (Kd.C_below HR1_1.out HB.out))
      (case side2 => exact HC1_1.out)
      (case side3 => exact Kd.Cx (Kd.R_reads' HO550.out).2.2)
      (case side4 => exact (Kd.R_reads' HO550.out).2.1)
      rintro e w23 ⟨v553, rfl, ho0, hb⟩
      refine ⟨_, rfl, ?_⟩
      have HO554 := Aside0.mk (Kd.R_lower (Kd.R_new' (Kd.R_new' (Kd.R_new' ho0 (Kd.R_lt (Kd.Rx HO542.out))) (Kd.R_lt (Kd.Rx HO546.out))) (Kd.R_lt (Kd.Rx HO550.out))) (below_size (Bs)))
      replace HO542 := Aside0.mk (Kd.R_elder' (Kd.Rx HO542.out) (Kd.R_base ho0) hb)
      replace HO546 := Aside0.mk (Kd.R_elder' (Kd.Rx HO546.out) (Kd.R_base ho0) hb)
      replace HO550 := Aside0.mk (Kd.R_elder' (Kd.Rx HO550.out) (Kd.R_base ho0) hb)
      replace BK536 := Aside0.mk (blk_below (Kx BK536.out) hb)
      replace BK537 := Aside0.mk (blk_below (Kx BK537.out) hb)
      replace BK538 := Aside0.mk (blk_below (Kx BK538.out) hb)
      replace BK559 := Aside0.mk (blk_below (Kx BK559.out) hb)
      replace HB := Aside0.mk (below_step (Bs) hb)
      (try clear hb)
      (try clear hb2)
      (try clear hk)
      (try clear hi)
      (try clear ho0)
      refine hK.out _ _ ⟨(blk_cell BK536.out 0).trans rfl, (blk_cell BK536.out 1).trans rfl, (blk_cell BK536.out 2).trans rfl, (blk_cell BK537.out 0).trans rfl, (blk_cell BK537.out 1).trans rfl, (blk_cell BK537.out 2).trans rfl⟩ (fun hHeld => ?_)
      clear hK K
      refine norm_ (a' := ?_) ?_ ?_
      rotate_left
      ·
       show Act.put _ (some 17) _ = _
       simp only [Act.put, List.setIfInBounds_toArray, List.set_cons_zero, List.set_cons_succ, i64_w, i32_w]
       rfl
      exact norm_ (by first | (simp only [putAll, Act.put, List.setIfInBounds_toArray, List.set_cons_zero, List.set_cons_succ]; done) | (simp only [putAll, Act.put, List.setIfInBounds_toArray, List.set_cons_zero, List.set_cons_succ]; rfl)) (hJ3_4_8_9_11 (_, _, .slice Ao22 t548.length co22, _, gb559) _ ⟨hHeld, (Kd.Rm HO542.out), (Kd.Rm HO546.out), (Kd.Rm HO550.out), (Kd.Rm HO554.out), (Kx BK536.out), (Kx BK537.out), (Kx BK538.out), (Kx BK559.out), GW559.out, GE559.out, NB536_559.out, NB559_536.out, NB537_559.out, NB559_537.out, NB538_559.out, NB559_538.out, (Bs)⟩)
    ·
     skip
     rintro ⟨v541, v545, v549, v553⟩ w22 ⟨hS_, h0_, h1_, h2_, h3_, h4_, h5_, h6_, h7_⟩
     have HO542 : Aside0 (Kd.R (Kd.int .u64) 96 w22 w.heap.size (fun k_ => nb k_ v545 ∧ nb k_ v549 ∧ nb k_ v553) v541 t540) := ⟨h0_⟩
     have HO546 : Aside0 (Kd.R (Kd.int .u64) 96 w22 w.heap.size (fun k_ => nb k_ v541 ∧ nb k_ v549 ∧ nb k_ v553) v545 t544) := ⟨h1_⟩
     have HO550 : Aside0 (Kd.R (Kd.int .u64) 96 w22 w.heap.size (fun k_ => nb k_ v541 ∧ nb k_ v545 ∧ nb k_ v553) v549 t548) := ⟨h2_⟩
     have HO554 : Aside0 (Kd.R (Kd.int .u64) 96 w22 w.heap.size (fun k_ => nb k_ v541 ∧ nb k_ v545 ∧ nb k_ v549) v553 t552) := ⟨h3_⟩
     replace BK536 : Aside0 (w22.heap[gb536]? = some (.cells #[.bool a0_0, .slice A0_1 l0_1.length c0_1, .slice A0_2 l0_2.length c0_2] 34 (0, 0))) := ⟨h4_⟩
     replace BK537 : Aside0 (w22.heap[gb537]? = some (.cells #[.bool a1_0, .slice A1_1 l1_1.length c1_1, .slice A1_2 l1_2.length c1_2] 34 (0, 0))) := ⟨h5_⟩
     replace BK538 : Aside0 (w22.heap[gb538]? = some (.cells #[.bool false, .slice none 0 0, .slice none 0 0] 34 (0, 0))) := ⟨h6_⟩
     replace HB : Aside0 (Below w.heap.size w w22) := ⟨h7_⟩
     clear h0_ h1_ h2_ h3_ h4_ h5_ h6_ h7_
     have hHeld : w22.cell? ⟨gb536, 0, none⟩ = some (.bool a0_0) ∧ w22.cell? ⟨gb536, 1, none⟩ = some (.slice A0_1 l0_1.length c0_1) ∧ w22.cell? ⟨gb536, 2, none⟩ = some (.slice A0_2 l0_2.length c0_2) ∧ w22.cell? ⟨gb537, 0, none⟩ = some (.bool a1_0) ∧ w22.cell? ⟨gb537, 1, none⟩ = some (.slice A1_1 l1_1.length c1_1) ∧ w22.cell? ⟨gb537, 2, none⟩ = some (.slice A1_2 l1_2.length c1_2) := hS_
     obtain ⟨Ao23, co23, eo23⟩ := Kd.R_slice HO546.out
     (first | subst eo23 | (injection eo23 with f1_ f2_ f3_; have f4_ := f1_.symm; have f5_ := f3_.symm; clear f1_ f2_ f3_; subst f4_; subst f5_))
     obtain ⟨Ao24, co24, eo24⟩ := Kd.R_slice HO554.out
     (first | subst eo24 | (injection eo24 with f1_ f2_ f3_; have f4_ := f1_.symm; have f5_ := f3_.symm; clear f1_ f2_ f3_; subst f4_; subst f5_))
     refine norm_ (a' := ?_) ?_ ?_
     rotate_left
     ·
      simp only [putAll, Act.put, List.setIfInBounds_toArray, List.set_cons_zero, List.set_cons_succ]
      rfl
     refine two_ (i := 10) (j := 11) (Ni := some 18) (Nj := some 5) #[true, true, true, true, true, true, true, true, true, true, true, false, false] #[true, true, true, true, true, true, true, true, true, true, false, true, false] rfl rfl rfl rfl (two_of HT_.out (by kernel_rfl)) (by decide) (by decide) (fun K hK => ?_) (fun K hK => ?_)
     ·
      skip
      refine goes_ Try.func64 (by kernel_rfl) rfl #[.agg #[.bool t543, .slice Ao23 t544.length co23], .agg #[.bool t551, .slice Ao24 t552.length co24]] (by rfl) rfl rfl (by (try simp only [List.map_toArray, List.map_cons, List.map_nil]); first | done | rfl | (simp only [List.length_drop, List.length_take]; rfl)) ?_
      with_reducible refine (whole_Add.calls k t543 _ _ t544 t551 _ _ t552 t555 t556 _ ?side1 ?side2 ?side3 ?side4 A7.out).mono ?_
      (case side1 => exact Kd.Cx (Kd.R_reads' HO546.out).2.2)
      (case side2 => exact (Kd.R_reads' HO546.out).2.1)
      (case side3 => exact Kd.Cx (Kd.R_reads' HO554.out).2.2)
      (case side4 => exact (Kd.R_reads' HO554.out).2.1)
      rintro e w25 ⟨v557, rfl, ho0, hb⟩
      refine ⟨_, rfl, ?_⟩
      have HO558 := Aside0.mk (Kd.R_lower (Kd.R_new' (Kd.R_new' (Kd.R_new' (Kd.R_new' ho0 (Kd.R_lt (Kd.Rx HO542.out))) (Kd.R_lt (Kd.Rx HO546.out))) (Kd.R_lt (Kd.Rx HO550.out))) (Kd.R_lt (Kd.Rx HO554.out))) (below_size (Bs)))
      replace HO542 := Aside0.mk (Kd.R_elder' (Kd.Rx HO542.out) (Kd.R_base ho0) hb)
      replace HO546 := Aside0.mk (Kd.R_elder' (Kd.Rx HO546.out) (Kd.R_base ho0) hb)
      replace HO550 := Aside0.mk (Kd.R_elder' (Kd.Rx HO550.out) (Kd.R_base ho0) hb)
      replace HO554 := Aside0.mk (Kd.R_elder' (Kd.Rx HO554.out) (Kd.R_base ho0) hb)
      replace BK536 := Aside0.mk (blk_below (Kx BK536.out) hb)
      replace BK537 := Aside0.mk (blk_below (Kx BK537.out) hb)
      replace BK538 := Aside0.mk (blk_below (Kx BK538.out) hb)
      replace HB := Aside0.mk (below_step (Bs) hb)
      (try clear hb)
      (try clear hb2)
      (try clear hk)
      (try clear hi)
      (try clear ho0)
      refine hK.out _ _ ⟨(blk_cell BK536.out 0).trans rfl, (blk_cell BK536.out 1).trans rfl, (blk_cell BK536.out 2).trans rfl, (blk_cell BK537.out 0).trans rfl, (blk_cell BK537.out 1).trans rfl, (blk_cell BK537.out 2).trans rfl⟩ (fun hHeld => ?_)
      clear hK K
      refine norm_ (a' := ?_) ?_ ?_
      rotate_left
      ·
       show Act.put _ (some 18) _ = _
       simp only [Act.put, List.setIfInBounds_toArray, List.set_cons_zero, List.set_cons_succ, i64_w, i32_w]
       rfl
      exact norm_ (by first | (simp only [putAll, Act.put, List.setIfInBounds_toArray, List.set_cons_zero, List.set_cons_succ]; done) | (simp only [putAll, Act.put, List.setIfInBounds_toArray, List.set_cons_zero, List.set_cons_succ]; rfl)) (hJ3_4_8_9_10 (_, .slice Ao23 t544.length co23, _, .slice Ao24 t552.length co24, _) _ ⟨hHeld, (Kd.Rm HO542.out), (Kd.Rm HO546.out), (Kd.Rm HO550.out), (Kd.Rm HO554.out), (Kd.Rm HO558.out), (Kx BK536.out), (Kx BK537.out), (Kx BK538.out), (Bs)⟩)
     ·
      skip
      refine box_step ?hg (N := 5) ?hd (cs := #[.bool false, .slice none 0 0]) (t := 32) ?hr ?_; (case hd => rfl); (case hg => rfl); (case hr => first | (go_simp; done) | (go_simp; rfl))
      intro gb559 hg w23 hbox hb
      have n0_ := Aside0.mk (Kd.R_below (Kd.Rx HO542.out) hb)
      have n1_ := Aside0.mk (Kd.R_below (Kd.Rx HO546.out) hb)
      have n2_ := Aside0.mk (Kd.R_below (Kd.Rx HO550.out) hb)
      have n3_ := Aside0.mk (Kd.R_below (Kd.Rx HO554.out) hb)
      have n4_ := Aside0.mk (blk_below (Kx BK536.out) hb)
      have n5_ := Aside0.mk (blk_below (Kx BK537.out) hb)
      have n6_ := Aside0.mk (blk_below (Kx BK538.out) hb)
      have n7_ := Aside0.mk (below_step (Bs) hb)
      have n8_ := Aside0.mk (hbox)
      have n9_ := Aside0.mk ((by rw [hg]; exact (below_size (Bs)) : w.heap.size ≤ gb559))
      have n10_ := Aside0.mk ((by rw [hg]; exact (below_size (Bs)) : w.heap.size ≤ gb559))
      have n11_ := Aside0.mk ((by rw [hg]; exact Nat.ne_of_lt (blk_lt (Kx BK536.out)) : gb536 ≠ gb559))
      have n12_ := Aside0.mk ((by rw [hg]; exact Nat.ne_of_gt (blk_lt (Kx BK536.out)) : gb559 ≠ gb536))
      have n13_ := Aside0.mk ((by rw [hg]; exact Nat.ne_of_lt (blk_lt (Kx BK537.out)) : gb537 ≠ gb559))
      have n14_ := Aside0.mk ((by rw [hg]; exact Nat.ne_of_gt (blk_lt (Kx BK537.out)) : gb559 ≠ gb537))
      have n15_ := Aside0.mk ((by rw [hg]; exact Nat.ne_of_lt (blk_lt (Kx BK538.out)) : gb538 ≠ gb559))
      have n16_ := Aside0.mk ((by rw [hg]; exact Nat.ne_of_gt (blk_lt (Kx BK538.out)) : gb559 ≠ gb538))
      clear HO542
      clear HO546
      clear HO550
      clear HO554
      clear BK536
      clear BK537
      clear BK538
      clear HB
      have HO542 := n0_
      have HO546 := n1_
      have HO550 := n2_
      have HO554 := n3_
      have BK536 := n4_
      have BK537 := n5_
      have BK538 := n6_
      have HB := n7_
      have BK559 := n8_
      have GW559 := n9_
      have GE559 := n10_
      have NB536_559 := n11_
      have NB559_536 := n12_
      have NB537_559 := n13_
      have NB559_537 := n14_
      have NB538_559 := n15_
      have NB559_538 := n16_
      clear n0_ n1_ n2_ n3_ n4_ n5_ n6_ n7_ n8_ n9_ n10_ n11_ n12_ n13_ n14_ n15_ n16_
      clear hb hbox hg
      refine hK.out _ _ ⟨(blk_cell BK536.out 0).trans rfl, (blk_cell BK536.out 1).trans rfl, (blk_cell BK536.out 2).trans rfl, (blk_cell BK537.out 0).trans rfl, (blk_cell BK537.out 1).trans rfl, (blk_cell BK537.out 2).trans rfl⟩ (fun hHeld => ?_)
      clear hK K
      refine norm_ (a' := ?_) ?_ ?_
      rotate_left
      ·
       show Act.put _ (some 5) _ = _
       simp only [Act.put, List.setIfInBounds_toArray, List.set_cons_zero, List.set_cons_succ, i64_w, i32_w]
       rfl
      exact norm_ (by first | (simp only [putAll, Act.put, List.setIfInBounds_toArray, List.set_cons_zero, List.set_cons_succ]; done) | (simp only [putAll, Act.put, List.setIfInBounds_toArray, List.set_cons_zero, List.set_cons_succ]; rfl)) (hJ3_4_8_9_11 (_, _, _, _, gb559) _ ⟨hHeld, (Kd.Rx HO542.out), (Kd.Rx HO546.out), (Kd.Rx HO550.out), (Kd.Rx HO554.out), (Kx BK536.out), (Kx BK537.out), (Kx BK538.out), (Kx BK559.out), GW559.out, GE559.out, NB536_559.out, NB559_536.out, NB537_559.out, NB559_537.out, NB538_559.out, NB559_538.out, (Bs)⟩)
   ·
    skip
    rintro ⟨v541, v545, v549, v553, gb559⟩ w23 ⟨hS_, h0_, h1_, h2_, h3_, h4_, h5_, h6_, h7_, h8_, h9_, h10_, h11_, h12_, h13_, h14_, h15_, h16_⟩
    have HO542 : Aside0 (Kd.R (Kd.int .u64) 96 w23 w.heap.size (fun k_ => nb k_ v545 ∧ nb k_ v549 ∧ nb k_ v553) v541 t540) := ⟨h0_⟩
    have HO546 : Aside0 (Kd.R (Kd.int .u64) 96 w23 w.heap.size (fun k_ => nb k_ v541 ∧ nb k_ v549 ∧ nb k_ v553) v545 t544) := ⟨h1_⟩
    have HO550 : Aside0 (Kd.R (Kd.int .u64) 96 w23 w.heap.size (fun k_ => nb k_ v541 ∧ nb k_ v545 ∧ nb k_ v553) v549 t548) := ⟨h2_⟩
    have HO554 : Aside0 (Kd.R (Kd.int .u64) 96 w23 w.heap.size (fun k_ => nb k_ v541 ∧ nb k_ v545 ∧ nb k_ v549) v553 t552) := ⟨h3_⟩
    replace BK536 : Aside0 (w23.heap[gb536]? = some (.cells #[.bool a0_0, .slice A0_1 l0_1.length c0_1, .slice A0_2 l0_2.length c0_2] 34 (0, 0))) := ⟨h4_⟩
    replace BK537 : Aside0 (w23.heap[gb537]? = some (.cells #[.bool a1_0, .slice A1_1 l1_1.length c1_1, .slice A1_2 l1_2.length c1_2] 34 (0, 0))) := ⟨h5_⟩
    replace BK538 : Aside0 (w23.heap[gb538]? = some (.cells #[.bool false, .slice none 0 0, .slice none 0 0] 34 (0, 0))) := ⟨h6_⟩
    have BK559 : Aside0 (w23.heap[gb559]? = some (.cells #[.bool false, .slice none 0 0] 32 (0, 0))) := ⟨h7_⟩
    have GW559 : Aside0 (w.heap.size ≤ gb559) := ⟨h8_⟩
    have GE559 : Aside0 (w.heap.size ≤ gb559) := ⟨h9_⟩
    have NB536_559 : Aside0 (gb536 ≠ gb559) := ⟨h10_⟩
    have NB559_536 : Aside0 (gb559 ≠ gb536) := ⟨h11_⟩
    have NB537_559 : Aside0 (gb537 ≠ gb559) := ⟨h12_⟩
    have NB559_537 : Aside0 (gb559 ≠ gb537) := ⟨h13_⟩
    have NB538_559 : Aside0 (gb538 ≠ gb559) := ⟨h14_⟩
    have NB559_538 : Aside0 (gb559 ≠ gb538) := ⟨h15_⟩
    replace HB : Aside0 (Below w.heap.size w w23) := ⟨h16_⟩
    clear h0_ h1_ h2_ h3_ h4_ h5_ h6_ h7_ h8_ h9_ h10_ h11_ h12_ h13_ h14_ h15_ h16_
    have hHeld : w23.cell? ⟨gb536, 0, none⟩ = some (.bool a0_0) ∧ w23.cell? ⟨gb536, 1, none⟩ = some (.slice A0_1 l0_1.length c0_1) ∧ w23.cell? ⟨gb536, 2, none⟩ = some (.slice A0_2 l0_2.length c0_2) ∧ w23.cell? ⟨gb537, 0, none⟩ = some (.bool a1_0) ∧ w23.cell? ⟨gb537, 1, none⟩ = some (.slice A1_1 l1_1.length c1_1) ∧ w23.cell? ⟨gb537, 2, none⟩ = some (.slice A1_2 l1_2.length c1_2) := hS_
    obtain ⟨Ao24, co24, eo24⟩ := Kd.R_slice HO546.out
    (first | subst eo24 | (injection eo24 with f1_ f2_ f3_; have f4_ := f1_.symm; have f5_ := f3_.symm; clear f1_ f2_ f3_; subst f4_; subst f5_))
    obtain ⟨Ao25, co25, eo25⟩ := Kd.R_slice HO554.out
    (first | subst eo25 | (injection eo25 with f1_ f2_ f3_; have f4_ := f1_.symm; have f5_ := f3_.symm; clear f1_ f2_ f3_; subst f4_; subst f5_))
    refine norm_ (a' := ?_) ?_ ?_
    rotate_left
    ·
     simp only [putAll, Act.put, List.setIfInBounds_toArray, List.set_cons_zero, List.set_cons_succ]
     rfl
    refine one_ (i := 10) (N := some 18) #[true, true, true, true, true, true, true, true, true, true, true, true, false] rfl rfl (one_of HT_.out (by kernel_rfl)) (by decide) (fun K hK => ?_)
    refine goes_ Try.func64 (by kernel_rfl) rfl #[.agg #[.bool t543, .slice Ao24 t544.length co24], .agg #[.bool t551, .slice Ao25 t552.length co25]] (by rfl) rfl rfl (by (try simp only [List.map_toArray, List.map_cons, List.map_nil]); first | done | rfl | (simp only [List.length_drop, List.length_take]; rfl)) ?_
    with_reducible refine (whole_Add.calls k t543 _ _ t544 t551 _ _ t552 t555 t556 _ ?side1 ?side2 ?side3 ?side4 A7.out).mono ?_
    (case side1 => exact Kd.Cx (Kd.R_reads' HO546.out).2.2)
    (case side2 => exact (Kd.R_reads' HO546.out).2.1)
    (case side3 => exact Kd.Cx (Kd.R_reads' HO554.out).2.2)
    (case side4 => exact (Kd.R_reads' HO554.out).2.1)
    rintro e w26 ⟨v557, rfl, ho0, hb⟩
    refine ⟨_, rfl, ?_⟩
    have HO558 := Aside0.mk (Kd.R_lower (Kd.R_new' (Kd.R_new' (Kd.R_new' (Kd.R_new' ho0 (Kd.R_lt (Kd.Rx HO542.out))) (Kd.R_lt (Kd.Rx HO546.out))) (Kd.R_lt (Kd.Rx HO550.out))) (Kd.R_lt (Kd.Rx HO554.out))) (below_size (Bs)))
    replace HO542 := Aside0.mk (Kd.R_elder' (Kd.Rx HO542.out) (Kd.R_base ho0) hb)
    replace HO546 := Aside0.mk (Kd.R_elder' (Kd.Rx HO546.out) (Kd.R_base ho0) hb)
    replace HO550 := Aside0.mk (Kd.R_elder' (Kd.Rx HO550.out) (Kd.R_base ho0) hb)
    replace HO554 := Aside0.mk (Kd.R_elder' (Kd.Rx HO554.out) (Kd.R_base ho0) hb)
    replace BK536 := Aside0.mk (blk_below (Kx BK536.out) hb)
    replace BK537 := Aside0.mk (blk_below (Kx BK537.out) hb)
    replace BK538 := Aside0.mk (blk_below (Kx BK538.out) hb)
    replace BK559 := Aside0.mk (blk_below (Kx BK559.out) hb)
    replace HB := Aside0.mk (below_step (Bs) hb)
    (try clear hb)
    (try clear hb2)
    (try clear hk)
    (try clear hi)
    (try clear ho0)
    refine hK.out _ _ ⟨(blk_cell BK536.out 0).trans rfl, (blk_cell BK536.out 1).trans rfl, (blk_cell BK536.out 2).trans rfl, (blk_cell BK537.out 0).trans rfl, (blk_cell BK537.out 1).trans rfl, (blk_cell BK537.out 2).trans rfl⟩ (fun hHeld => ?_)
    clear hK K
    refine norm_ (a' := ?_) ?_ ?_
    rotate_left
    ·
     show Act.put _ (some 18) _ = _
     simp only [Act.put, List.setIfInBounds_toArray, List.set_cons_zero, List.set_cons_succ, i64_w, i32_w]
     rfl
    exact norm_ (by first | (simp only [putAll, Act.put, List.setIfInBounds_toArray, List.set_cons_zero, List.set_cons_succ]; done) | (simp only [putAll, Act.put, List.setIfInBounds_toArray, List.set_cons_zero, List.set_cons_succ]; rfl)) (hJ3_4_8_9_10_11 (_, .slice Ao24 t544.length co24, _, .slice Ao25 t552.length co25, _, gb559) _ ⟨hHeld, (Kd.Rm HO542.out), (Kd.Rm HO546.out), (Kd.Rm HO550.out), (Kd.Rm HO554.out), (Kd.Rm HO558.out), (Kx BK536.out), (Kx BK537.out), (Kx BK538.out), (Kx BK559.out), GW559.out, GE559.out, NB536_559.out, NB559_536.out, NB537_559.out, NB559_537.out, NB538_559.out, NB559_538.out, (Bs)⟩)
  ·
   skip
   rintro ⟨v541, v545, v549, v553, v557⟩ w25 ⟨hS_, h0_, h1_, h2_, h3_, h4_, h5_, h6_, h7_, h8_⟩
   have HO542 : Aside0 (Kd.R (Kd.int .u64) 96 w25 w.heap.size (fun k_ => nb k_ v545 ∧ nb k_ v549 ∧ nb k_ v553 ∧ nb k_ v557) v541 t540) := ⟨h0_⟩
   have HO546 : Aside0 (Kd.R (Kd.int .u64) 96 w25 w.heap.size (fun k_ => nb k_ v541 ∧ nb k_ v549 ∧ nb k_ v553 ∧ nb k_ v557) v545 t544) := ⟨h1_⟩
   have HO550 : Aside0 (Kd.R (Kd.int .u64) 96 w25 w.heap.size (fun k_ => nb k_ v541 ∧ nb k_ v545 ∧ nb k_ v553 ∧ nb k_ v557) v549 t548) := ⟨h2_⟩
   have HO554 : Aside0 (Kd.R (Kd.int .u64) 96 w25 w.heap.size (fun k_ => nb k_ v541 ∧ nb k_ v545 ∧ nb k_ v549 ∧ nb k_ v557) v553 t552) := ⟨h3_⟩
   have HO558 : Aside0 (Kd.R (Kd.int .u64) 96 w25 w.heap.size (fun k_ => nb k_ v541 ∧ nb k_ v545 ∧ nb k_ v549 ∧ nb k_ v553) v557 t556) := ⟨h4_⟩
   replace BK536 : Aside0 (w25.heap[gb536]? = some (.cells #[.bool a0_0, .slice A0_1 l0_1.length c0_1, .slice A0_2 l0_2.length c0_2] 34 (0, 0))) := ⟨h5_⟩
   replace BK537 : Aside0 (w25.heap[gb537]? = some (.cells #[.bool a1_0, .slice A1_1 l1_1.length c1_1, .slice A1_2 l1_2.length c1_2] 34 (0, 0))) := ⟨h6_⟩
   replace BK538 : Aside0 (w25.heap[gb538]? = some (.cells #[.bool false, .slice none 0 0, .slice none 0 0] 34 (0, 0))) := ⟨h7_⟩
   replace HB : Aside0 (Below w.heap.size w w25) := ⟨h8_⟩
   clear h0_ h1_ h2_ h3_ h4_ h5_ h6_ h7_ h8_
   have hHeld : w25.cell? ⟨gb536, 0, none⟩ = some (.bool a0_0) ∧ w25.cell? ⟨gb536, 1, none⟩ = some (.slice A0_1 l0_1.length c0_1) ∧ w25.cell? ⟨gb536, 2, none⟩ = some (.slice A0_2 l0_2.length c0_2) ∧ w25.cell? ⟨gb537, 0, none⟩ = some (.bool a1_0) ∧ w25.cell? ⟨gb537, 1, none⟩ = some (.slice A1_1 l1_1.length c1_1) ∧ w25.cell? ⟨gb537, 2, none⟩ = some (.slice A1_2 l1_2.length c1_2) := hS_
   refine norm_ (a' := ?_) ?_ ?_
   rotate_left
   ·
    simp only [putAll, Act.put, List.setIfInBounds_toArray, List.set_cons_zero, List.set_cons_succ]
    rfl
   refine one_ (i := 11) (N := some 5) #[true, true, true, true, true, true, true, true, true, true, true, true, false] rfl rfl (one_of HT_.out (by kernel_rfl)) (by decide) (fun K hK => ?_)
   refine box_step ?hg (N := 5) ?hd (cs := #[.bool false, .slice none 0 0]) (t := 32) ?hr ?_; (case hd => rfl); (case hg => rfl); (case hr => first | (go_simp; done) | (go_simp; rfl))
   intro gb559 hg w26 hbox hb
   have n0_ := Aside0.mk (Kd.R_below (Kd.Rx HO542.out) hb)
   have n1_ := Aside0.mk (Kd.R_below (Kd.Rx HO546.out) hb)
   have n2_ := Aside0.mk (Kd.R_below (Kd.Rx HO550.out) hb)
   have n3_ := Aside0.mk (Kd.R_below (Kd.Rx HO554.out) hb)
   have n4_ := Aside0.mk (Kd.R_below (Kd.Rx HO558.out) hb)
   have n5_ := Aside0.mk (blk_below (Kx BK536.out) hb)
   have n6_ := Aside0.mk (blk_below (Kx BK537.out) hb)
   have n7_ := Aside0.mk (blk_below (Kx BK538.out) hb)
   have n8_ := Aside0.mk (below_step (Bs) hb)
   have n9_ := Aside0.mk (hbox)
   have n10_ := Aside0.mk ((by rw [hg]; exact (below_size (Bs)) : w.heap.size ≤ gb559))
   have n11_ := Aside0.mk ((by rw [hg]; exact (below_size (Bs)) : w.heap.size ≤ gb559))
   have n12_ := Aside0.mk ((by rw [hg]; exact Nat.ne_of_lt (blk_lt (Kx BK536.out)) : gb536 ≠ gb559))
   have n13_ := Aside0.mk ((by rw [hg]; exact Nat.ne_of_gt (blk_lt (Kx BK536.out)) : gb559 ≠ gb536))
   have n14_ := Aside0.mk ((by rw [hg]; exact Nat.ne_of_lt (blk_lt (Kx BK537.out)) : gb537 ≠ gb559))
   have n15_ := Aside0.mk ((by rw [hg]; exact Nat.ne_of_gt (blk_lt (Kx BK537.out)) : gb559 ≠ gb537))
   have n16_ := Aside0.mk ((by rw [hg]; exact Nat.ne_of_lt (blk_lt (Kx BK538.out)) : gb538 ≠ gb559))
   have n17_ := Aside0.mk ((by rw [hg]; exact Nat.ne_of_gt (blk_lt (Kx BK538.out)) : gb559 ≠ gb538))
   clear HO542
   clear HO546
   clear HO550
   clear HO554
   clear HO558
   clear BK536
   clear BK537
   clear BK538
   clear HB
   have HO542 := n0_
   have HO546 := n1_
   have HO550 := n2_
   have HO554 := n3_
   have HO558 := n4_
   have BK536 := n5_
   have BK537 := n6_
   have BK538 := n7_
   have HB := n8_
   have BK559 := n9_
   have GW559 := n10_
   have GE559 := n11_
   have NB536_559 := n12_
   have NB559_536 := n13_
   have NB537_559 := n14_
   have NB559_537 := n15_
   have NB538_559 := n16_
   have NB559_538 := n17_
   clear n0_ n1_ n2_ n3_ n4_ n5_ n6_ n7_ n8_ n9_ n10_ n11_ n12_ n13_ n14_ n15_ n16_ n17_
   clear hb hbox hg
   refine hK.out _ _ ⟨(blk_cell BK536.out 0).trans rfl, (blk_cell BK536.out 1).trans rfl, (blk_cell BK536.out 2).trans rfl, (blk_cell BK537.out 0).trans rfl, (blk_cell BK537.out 1).trans rfl, (blk_cell BK537.out 2).trans rfl⟩ (fun hHeld => ?_)
   clear hK K
   refine norm_ (a' := ?_) ?_ ?_
   rotate_left
   ·
    show Act.put _ (some 5) _ = _
    simp only [Act.put, List.setIfInBounds_toArray, List.set_cons_zero, List.set_cons_succ, i64_w, i32_w]
    rfl
   exact norm_ (by first | (simp only [putAll, Act.put, List.setIfInBounds_toArray, List.set_cons_zero, List.set_cons_succ]; done) | (simp only [putAll, Act.put, List.setIfInBounds_toArray, List.set_cons_zero, List.set_cons_succ]; rfl)) (hJ3_4_8_9_10_11 (_, _, _, _, _, gb559) _ ⟨hHeld, (Kd.Rx HO542.out), (Kd.Rx HO546.out), (Kd.Rx HO550.out), (Kd.Rx HO554.out), (Kd.Rx HO558.out), (Kx BK536.out), (Kx BK537.out), (Kx BK538.out), (Kx BK559.out), GW559.out, GE559.out, NB536_559.out, NB559_536.out, NB537_559.out, NB559_537.out, NB538_559.out, NB559_538.out, (Bs)⟩)
 rintro ⟨v541, v545, v549, v553, v557, gb559⟩ w26 ⟨hS_, h0_, h1_, h2_, h3_, h4_, h5_, h6_, h7_, h8_, h9_, h10_, h11_, h12_, h13_, h14_, h15_, h16_, h17_⟩
 have HO542 : Aside0 (Kd.R (Kd.int .u64) 96 w26 w.heap.size (fun k_ => nb k_ v545 ∧ nb k_ v549 ∧ nb k_ v553 ∧ nb k_ v557) v541 t540) := ⟨h0_⟩
 have HO546 : Aside0 (Kd.R (Kd.int .u64) 96 w26 w.heap.size (fun k_ => nb k_ v541 ∧ nb k_ v549 ∧ nb k_ v553 ∧ nb k_ v557) v545 t544) := ⟨h1_⟩
 have HO550 : Aside0 (Kd.R (Kd.int .u64) 96 w26 w.heap.size (fun k_ => nb k_ v541 ∧ nb k_ v545 ∧ nb k_ v553 ∧ nb k_ v557) v549 t548) := ⟨h2_⟩
 have HO554 : Aside0 (Kd.R (Kd.int .u64) 96 w26 w.heap.size (fun k_ => nb k_ v541 ∧ nb k_ v545 ∧ nb k_ v549 ∧ nb k_ v557) v553 t552) := ⟨h3_⟩
 have HO558 : Aside0 (Kd.R (Kd.int .u64) 96 w26 w.heap.size (fun k_ => nb k_ v541 ∧ nb k_ v545 ∧ nb k_ v549 ∧ nb k_ v553) v557 t556) := ⟨h4_⟩
 replace BK536 : Aside0 (w26.heap[gb536]? = some (.cells #[.bool a0_0, .slice A0_1 l0_1.length c0_1, .slice A0_2 l0_2.length c0_2] 34 (0, 0))) := ⟨h5_⟩
 replace BK537 : Aside0 (w26.heap[gb537]? = some (.cells #[.bool a1_0, .slice A1_1 l1_1.length c1_1, .slice A1_2 l1_2.length c1_2] 34 (0, 0))) := ⟨h6_⟩
 replace BK538 : Aside0 (w26.heap[gb538]? = some (.cells #[.bool false, .slice none 0 0, .slice none 0 0] 34 (0, 0))) := ⟨h7_⟩
 have BK559 : Aside0 (w26.heap[gb559]? = some (.cells #[.bool false, .slice none 0 0] 32 (0, 0))) := ⟨h8_⟩
 have GW559 : Aside0 (w.heap.size ≤ gb559) := ⟨h9_⟩
 have GE559 : Aside0 (w.heap.size ≤ gb559) := ⟨h10_⟩
 have NB536_559 : Aside0 (gb536 ≠ gb559) := ⟨h11_⟩
 have NB559_536 : Aside0 (gb559 ≠ gb536) := ⟨h12_⟩
 have NB537_559 : Aside0 (gb537 ≠ gb559) := ⟨h13_⟩
 have NB559_537 : Aside0 (gb559 ≠ gb537) := ⟨h14_⟩
 have NB538_559 : Aside0 (gb538 ≠ gb559) := ⟨h15_⟩
 have NB559_538 : Aside0 (gb559 ≠ gb538) := ⟨h16_⟩
 replace HB : Aside0 (Below w.heap.size w w26) := ⟨h17_⟩
 clear h0_ h1_ h2_ h3_ h4_ h5_ h6_ h7_ h8_ h9_ h10_ h11_ h12_ h13_ h14_ h15_ h16_ h17_
 have hHeld : w26.cell? ⟨gb536, 0, none⟩ = some (.bool a0_0) ∧ w26.cell? ⟨gb536, 1, none⟩ = some (.slice A0_1 l0_1.length c0_1) ∧ w26.cell? ⟨gb536, 2, none⟩ = some (.slice A0_2 l0_2.length c0_2) ∧ w26.cell? ⟨gb537, 0, none⟩ = some (.bool a1_0) ∧ w26.cell? ⟨gb537, 1, none⟩ = some (.slice A1_1 l1_1.length c1_1) ∧ w26.cell? ⟨gb537, 2, none⟩ = some (.slice A1_2 l1_2.length c1_2) := hS_
 obtain ⟨Ao28, co28, eo28⟩ := Kd.R_slice HO558.out
 (first | subst eo28 | (injection eo28 with f1_ f2_ f3_; have f4_ := f1_.symm; have f5_ := f3_.symm; clear f1_ f2_ f3_; subst f4_; subst f5_))
 refine norm_ (a' := ?_) ?_ ?_
 rotate_left
 ·
  simp only [putAll, Act.put, List.setIfInBounds_toArray, List.set_cons_zero, List.set_cons_succ]
  rfl
 refine one_ (i := 12) (N := none) #[true, true, true, true, true, true, true, true, true, true, true, true, true] rfl rfl (one_of HT_.out (by kernel_rfl)) (by decide) (fun K hK => ?_)
 have hs27 : w26.cell? ⟨gb559, 0, none⟩ = some (.bool false) := (blk_cell BK559.out 0).trans rfl
 have hfs27 := blk_frozen BK559.out 0
 have hns27_0 := NB536_559.out
 have hns27_1 := NB537_559.out
 have hns27_2 := NB538_559.out
 have hms27_0 := NB559_536.out
 have hms27_1 := NB559_537.out
 have hms27_2 := NB559_538.out
 have hs29 : w26.cell? ⟨gb559, 1, none⟩ = some (.slice none 0 0) := (blk_cell BK559.out 1).trans rfl
 have hfs29 := blk_frozen BK559.out 1
 have hns29_0 := NB536_559.out
 have hns29_1 := NB537_559.out
 have hns29_2 := NB538_559.out
 have hms29_0 := NB559_536.out
 have hms29_1 := NB559_537.out
 have hms29_2 := NB559_538.out
 refine skip_ (w1 := ?_) (by rfl) rfl ?_ ?_
 rotate_left
 ·
  go_simp
  rfl
 refine hK.out _ _ ⟨((cell_far (p := ⟨gb559, _, none⟩) NB536_559.out _).trans (((cell_far (p := ⟨gb559, _, none⟩) NB536_559.out _).trans (hHeld.1)))), ((cell_far (p := ⟨gb559, _, none⟩) NB536_559.out _).trans (((cell_far (p := ⟨gb559, _, none⟩) NB536_559.out _).trans (hHeld.2.1)))), ((cell_far (p := ⟨gb559, _, none⟩) NB536_559.out _).trans (((cell_far (p := ⟨gb559, _, none⟩) NB536_559.out _).trans (hHeld.2.2.1)))), ((cell_far (p := ⟨gb559, _, none⟩) NB537_559.out _).trans (((cell_far (p := ⟨gb559, _, none⟩) NB537_559.out _).trans (hHeld.2.2.2.1)))), ((cell_far (p := ⟨gb559, _, none⟩) NB537_559.out _).trans (((cell_far (p := ⟨gb559, _, none⟩) NB537_559.out _).trans (hHeld.2.2.2.2.1)))), ((cell_far (p := ⟨gb559, _, none⟩) NB537_559.out _).trans (((cell_far (p := ⟨gb559, _, none⟩) NB537_559.out _).trans (hHeld.2.2.2.2.2))))⟩ (fun hHeld => ?_)
 clear hK K
 refine done_ (done_of HT_.out (by kernel_rfl)) ?_
 try go_wp2
 have n0_ : Aside0 (Kd.R (Kd.int .u64) 96 ((w26.setCell ⟨gb559, 0, none⟩ (.bool t555)).setCell ⟨gb559, 1, none⟩ (.slice Ao28 t556.length co28)) w.heap.size (fun k_ => nb k_ v545 ∧ nb k_ v549 ∧ nb k_ v553 ∧ nb k_ (.slice Ao28 t556.length co28)) v541 t540) := ⟨by exact Kd.Rx (Kd.R_mono (Kd.R_far (p := ⟨gb559, 1, none⟩) (Kd.R_far (p := ⟨gb559, 0, none⟩) (Kd.R_types HO542.out BK559.out (by decide)) (fun _ hk => hk.2) (.bool t555)) (fun _ hk => hk.2) (.slice Ao28 t556.length co28)) (fun _ hk => ⟨hk.1.1, ⟨hk.1.2.1, ⟨hk.1.2.2.1, hk.1.2.2.2⟩⟩⟩))⟩
 have n1_ : Aside0 (Kd.R (Kd.int .u64) 96 ((w26.setCell ⟨gb559, 0, none⟩ (.bool t555)).setCell ⟨gb559, 1, none⟩ (.slice Ao28 t556.length co28)) w.heap.size (fun k_ => nb k_ v541 ∧ nb k_ v549 ∧ nb k_ v553 ∧ nb k_ (.slice Ao28 t556.length co28)) v545 t544) := ⟨by exact Kd.Rx (Kd.R_mono (Kd.R_far (p := ⟨gb559, 1, none⟩) (Kd.R_far (p := ⟨gb559, 0, none⟩) (Kd.R_types HO546.out BK559.out (by decide)) (fun _ hk => hk.2) (.bool t555)) (fun _ hk => hk.2) (.slice Ao28 t556.length co28)) (fun _ hk => ⟨hk.1.1, ⟨hk.1.2.1, ⟨hk.1.2.2.1, hk.1.2.2.2⟩⟩⟩))⟩
 have n2_ : Aside0 (Kd.R (Kd.int .u64) 96 ((w26.setCell ⟨gb559, 0, none⟩ (.bool t555)).setCell ⟨gb559, 1, none⟩ (.slice Ao28 t556.length co28)) w.heap.size (fun k_ => nb k_ v541 ∧ nb k_ v545 ∧ nb k_ v553 ∧ nb k_ (.slice Ao28 t556.length co28)) v549 t548) := ⟨by exact Kd.Rx (Kd.R_mono (Kd.R_far (p := ⟨gb559, 1, none⟩) (Kd.R_far (p := ⟨gb559, 0, none⟩) (Kd.R_types HO550.out BK559.out (by decide)) (fun _ hk => hk.2) (.bool t555)) (fun _ hk => hk.2) (.slice Ao28 t556.length co28)) (fun _ hk => ⟨hk.1.1, ⟨hk.1.2.1, ⟨hk.1.2.2.1, hk.1.2.2.2⟩⟩⟩))⟩
 have n3_ : Aside0 (Kd.R (Kd.int .u64) 96 ((w26.setCell ⟨gb559, 0, none⟩ (.bool t555)).setCell ⟨gb559, 1, none⟩ (.slice Ao28 t556.length co28)) w.heap.size (fun k_ => nb k_ v541 ∧ nb k_ v545 ∧ nb k_ v549 ∧ nb k_ (.slice Ao28 t556.length co28)) v553 t552) := ⟨by exact Kd.Rx (Kd.R_mono (Kd.R_far (p := ⟨gb559, 1, none⟩) (Kd.R_far (p := ⟨gb559, 0, none⟩) (Kd.R_types HO554.out BK559.out (by decide)) (fun _ hk => hk.2) (.bool t555)) (fun _ hk => hk.2) (.slice Ao28 t556.length co28)) (fun _ hk => ⟨hk.1.1, ⟨hk.1.2.1, ⟨hk.1.2.2.1, hk.1.2.2.2⟩⟩⟩))⟩
 have n4_ : Aside0 (Kd.R (Kd.int .u64) 96 ((w26.setCell ⟨gb559, 0, none⟩ (.bool t555)).setCell ⟨gb559, 1, none⟩ (.slice Ao28 t556.length co28)) w.heap.size (fun k_ => nb k_ v541 ∧ nb k_ v545 ∧ nb k_ v549 ∧ nb k_ v553) (.slice Ao28 t556.length co28) t556) := ⟨by exact Kd.Rx (Kd.R_mono (Kd.R_far (p := ⟨gb559, 1, none⟩) (Kd.R_far (p := ⟨gb559, 0, none⟩) (Kd.R_types HO558.out BK559.out (by decide)) (fun _ hk => hk.2) (.bool t555)) (fun _ hk => hk.2) (.slice Ao28 t556.length co28)) (fun _ hk => ⟨hk.1.1, ⟨hk.1.2.1, ⟨hk.1.2.2.1, hk.1.2.2.2⟩⟩⟩))⟩
 have n5_ : Aside0 (((w26.setCell ⟨gb559, 0, none⟩ (.bool t555)).setCell ⟨gb559, 1, none⟩ (.slice Ao28 t556.length co28)).heap[gb536]? = some (.cells #[.bool a0_0, .slice A0_1 l0_1.length c0_1, .slice A0_2 l0_2.length c0_2] 34 (0, 0))) := ⟨by (with_reducible repeat (first | refine blk_drewN ?_ _ | refine blk_drew ?_ | refine blk_alloc ?_ _)); refine blk_far ?_ NB536_559.out _; (with_reducible repeat (first | refine blk_drewN ?_ _ | refine blk_drew ?_ | refine blk_alloc ?_ _)); refine blk_far ?_ NB536_559.out _; (with_reducible repeat (first | refine blk_drewN ?_ _ | refine blk_drew ?_ | refine blk_alloc ?_ _)); exact BK536.out⟩
 have n6_ : Aside0 (((w26.setCell ⟨gb559, 0, none⟩ (.bool t555)).setCell ⟨gb559, 1, none⟩ (.slice Ao28 t556.length co28)).heap[gb537]? = some (.cells #[.bool a1_0, .slice A1_1 l1_1.length c1_1, .slice A1_2 l1_2.length c1_2] 34 (0, 0))) := ⟨by (with_reducible repeat (first | refine blk_drewN ?_ _ | refine blk_drew ?_ | refine blk_alloc ?_ _)); refine blk_far ?_ NB537_559.out _; (with_reducible repeat (first | refine blk_drewN ?_ _ | refine blk_drew ?_ | refine blk_alloc ?_ _)); refine blk_far ?_ NB537_559.out _; (with_reducible repeat (first | refine blk_drewN ?_ _ | refine blk_drew ?_ | refine blk_alloc ?_ _)); exact BK537.out⟩
 have n7_ : Aside0 (((w26.setCell ⟨gb559, 0, none⟩ (.bool t555)).setCell ⟨gb559, 1, none⟩ (.slice Ao28 t556.length co28)).heap[gb538]? = some (.cells #[.bool false, .slice none 0 0, .slice none 0 0] 34 (0, 0))) := ⟨by (with_reducible repeat (first | refine blk_drewN ?_ _ | refine blk_drew ?_ | refine blk_alloc ?_ _)); refine blk_far ?_ NB538_559.out _; (with_reducible repeat (first | refine blk_drewN ?_ _ | refine blk_drew ?_ | refine blk_alloc ?_ _)); refine blk_far ?_ NB538_559.out _; (with_reducible repeat (first | refine blk_drewN ?_ _ | refine blk_drew ?_ | refine blk_alloc ?_ _)); exact BK538.out⟩
 have n8_ : Aside0 (((w26.setCell ⟨gb559, 0, none⟩ (.bool t555)).setCell ⟨gb559, 1, none⟩ (.slice Ao28 t556.length co28)).heap[gb559]? = some (.cells #[.bool t555, .slice Ao28 t556.length co28] 32 (0, 0))) := ⟨by (with_reducible repeat (first | refine blk_drewN ?_ _ | refine blk_drew ?_ | refine blk_alloc ?_ _)); refine blk_put (cs := #[.bool t555, .slice none 0 0]) ?_ 1 _ rfl; (with_reducible repeat (first | refine blk_drewN ?_ _ | refine blk_drew ?_ | refine blk_alloc ?_ _)); refine blk_put (cs := #[.bool false, .slice none 0 0]) ?_ 0 _ rfl; (with_reducible repeat (first | refine blk_drewN ?_ _ | refine blk_drew ?_ | refine blk_alloc ?_ _)); exact BK559.out⟩
 have n9_ : Aside0 (Below w.heap.size w ((w26.setCell ⟨gb559, 0, none⟩ (.bool t555)).setCell ⟨gb559, 1, none⟩ (.slice Ao28 t556.length co28))) := ⟨Bs⟩
 (try clear HO542)
 (try clear HO546)
 (try clear HO550)
 (try clear HO554)
 (try clear HO558)
 (try clear BK536)
 (try clear BK537)
 (try clear BK538)
 (try clear BK559)
 (try clear HB)
 generalize ((w26.setCell ⟨gb559, 0, none⟩ (.bool t555)).setCell ⟨gb559, 1, none⟩ (.slice Ao28 t556.length co28)) = w30 at n0_ n1_ n2_ n3_ n4_ n5_ n6_ n7_ n8_ n9_ ⊢
 have HO542 := n0_
 have HO546 := n1_
 have HO550 := n2_
 have HO554 := n3_
 have HO558 := n4_
 have BK536 := n5_
 have BK537 := n6_
 have BK538 := n7_
 have BK559 := n8_
 have HB := n9_
 clear n0_ n1_ n2_ n3_ n4_ n5_ n6_ n7_ n8_ n9_
 replace HO542 := Aside0.mk (Kd.R_drew HO542.out)
 replace HO546 := Aside0.mk (Kd.R_drew HO546.out)
 replace HO550 := Aside0.mk (Kd.R_drew HO550.out)
 replace HO554 := Aside0.mk (Kd.R_drew HO554.out)
 replace HO558 := Aside0.mk (Kd.R_drew HO558.out)
 replace BK536 := Aside0.mk (blk_drew BK536.out)
 replace BK537 := Aside0.mk (blk_drew BK537.out)
 replace BK538 := Aside0.mk (blk_drew BK538.out)
 replace BK559 := Aside0.mk (blk_drew BK559.out)
 replace HB := Aside0.mk (below_drew1 HB.out)
 refine start_ (n := 13) (S := fun w' => w'.cell? ⟨gb559, 0, none⟩ = some (.bool t555) ∧ w'.cell? ⟨gb559, 1, none⟩ = some (.slice Ao28 t556.length co28) ∧ w'.cell? ⟨gb536, 0, none⟩ = some (.bool a0_0) ∧ w'.cell? ⟨gb536, 1, none⟩ = some (.slice A0_1 l0_1.length c0_1) ∧ w'.cell? ⟨gb536, 2, none⟩ = some (.slice A0_2 l0_2.length c0_2) ∧ w'.cell? ⟨gb537, 0, none⟩ = some (.bool a1_0) ∧ w'.cell? ⟨gb537, 1, none⟩ = some (.slice A1_1 l1_1.length c1_1) ∧ w'.cell? ⟨gb537, 2, none⟩ = some (.slice A1_2 l1_2.length c1_2)) (ds := []) #[false, false, false, false, false, false, false, false, false, false, false, false, false] (by kernel_rfl) rfl rfl ⟨(blk_cell BK559.out 0).trans rfl, (blk_cell BK559.out 1).trans rfl, (blk_cell BK536.out 0).trans rfl, (blk_cell BK536.out 1).trans rfl, (blk_cell BK536.out 2).trans rfl, (blk_cell BK537.out 0).trans rfl, (blk_cell BK537.out 1).trans rfl, (blk_cell BK537.out 2).trans rfl⟩ (fun hHeld => ?_); refine with_tabW rat_Add.tab2 rat_Add.bits2 (fun HT_ HW_ => ?_)
 generalize w30.drew = w31 at HO542 HO546 HO550 HO554 HO558 BK536 BK537 BK538 BK559 HB hHeld ⊢
 refine take_ (i := 0) (N := some 20) (v := ?_) (a' := ?_) #[true, false, false, false, false, false, false, false, false, false, false, false, false] rfl rfl (take_ofW HT_.out HW_.out (by kernel_rfl)) (fun _ _ _ h => h) (Or.inl ⟨by rfl, ?_⟩) hHeld ?_ ?_
 rotate_left
 ·
  rintro w' ⟨s0, s1, s2, s3, s4, s5, s6, s7⟩
  go_simp
  with_reducible rfl
 rotate_left
 ·
  simp only [Act.put, List.setIfInBounds_toArray, List.set_cons_zero, List.set_cons_succ, i64_w, i32_w]
  rfl
 refine take_ (i := 1) (N := some 21) (v := ?_) (a' := ?_) #[true, true, false, false, false, false, false, false, false, false, false, false, false] rfl rfl (take_ofW HT_.out HW_.out (by kernel_rfl)) (fun _ _ _ h => h) (Or.inl ⟨by rfl, ?_⟩) hHeld ?_ ?_
 rotate_left
 ·
  rintro w' ⟨s0, s1, s2, s3, s4, s5, s6, s7⟩
  go_simp
  with_reducible rfl
 rotate_left
 ·
  simp only [Act.put, List.setIfInBounds_toArray, List.set_cons_zero, List.set_cons_succ, i64_w, i32_w]
  rfl
 refine take_ (i := 3) (N := some 23) (v := ?_) (a' := ?_) #[true, true, false, true, false, false, false, false, false, false, false, false, false] rfl rfl (take_ofW HT_.out HW_.out (by kernel_rfl)) (fun _ _ _ h => h) (Or.inl ⟨by rfl, ?_⟩) hHeld ?_ ?_
 rotate_left
 ·
  rintro w' ⟨s0, s1, s2, s3, s4, s5, s6, s7⟩
  go_simp
  with_reducible rfl
 rotate_left
 ·
  simp only [Act.put, List.setIfInBounds_toArray, List.set_cons_zero, List.set_cons_succ, i64_w, i32_w]
  rfl
 refine join_ (σ := Value × Value × Value × Value × Value × Nat) 2 #[true, true, true, true, true, true, true, true, true, true, true, false, false] (fun s_ => [(22, .agg #[.bool t560, s_.1]), (24, .agg #[.bool t564, s_.2.1]), (25, .agg #[.bool t568, s_.2.2.1]), (26, .tuple #[.agg #[.bool t572, s_.2.2.2.1, s_.2.2.2.2.1], .int .i64 t579]), (6, .pointer (some ⟨s_.2.2.2.2.2, 0, none⟩)), (19, .tuple #[.agg #[.bool t572, s_.2.2.2.1, s_.2.2.2.2.1], .int .i64 t579]), (27, .agg #[.bool t572, s_.2.2.2.1, s_.2.2.2.2.1]), (28, .int .i64 t579)]) (fun s_ w' => (w'.cell? ⟨gb559, 0, none⟩ = some (.bool t555) ∧ w'.cell? ⟨gb559, 1, none⟩ = some (.slice Ao28 t556.length co28) ∧ w'.cell? ⟨gb536, 0, none⟩ = some (.bool a0_0) ∧ w'.cell? ⟨gb536, 1, none⟩ = some (.slice A0_1 l0_1.length c0_1) ∧ w'.cell? ⟨gb536, 2, none⟩ = some (.slice A0_2 l0_2.length c0_2) ∧ w'.cell? ⟨gb537, 0, none⟩ = some (.bool a1_0) ∧ w'.cell? ⟨gb537, 1, none⟩ = some (.slice A1_1 l1_1.length c1_1) ∧ w'.cell? ⟨gb537, 2, none⟩ = some (.slice A1_2 l1_2.length c1_2)) ∧ (Kd.R (Kd.int .u64) 96 w' w.heap.size (fun k_ => nb k_ v545 ∧ nb k_ v549 ∧ nb k_ v553 ∧ nb k_ (.slice Ao28 t556.length co28) ∧ nb k_ (s_.1) ∧ nb k_ (s_.2.1) ∧ nb k_ (s_.2.2.1) ∧ nb k_ (s_.2.2.2.1) ∧ nb k_ (s_.2.2.2.2.1)) v541 t540) ∧ (Kd.R (Kd.int .u64) 96 w' w.heap.size (fun k_ => nb k_ v541 ∧ nb k_ v549 ∧ nb k_ v553 ∧ nb k_ (.slice Ao28 t556.length co28) ∧ nb k_ (s_.1) ∧ nb k_ (s_.2.1) ∧ nb k_ (s_.2.2.1) ∧ nb k_ (s_.2.2.2.1) ∧ nb k_ (s_.2.2.2.2.1)) v545 t544) ∧ (Kd.R (Kd.int .u64) 96 w' w.heap.size (fun k_ => nb k_ v541 ∧ nb k_ v545 ∧ nb k_ v553 ∧ nb k_ (.slice Ao28 t556.length co28) ∧ nb k_ (s_.1) ∧ nb k_ (s_.2.1) ∧ nb k_ (s_.2.2.1) ∧ nb k_ (s_.2.2.2.1) ∧ nb k_ (s_.2.2.2.2.1)) v549 t548) ∧ (Kd.R (Kd.int .u64) 96 w' w.heap.size (fun k_ => nb k_ v541 ∧ nb k_ v545 ∧ nb k_ v549 ∧ nb k_ (.slice Ao28 t556.length co28) ∧ nb k_ (s_.1) ∧ nb k_ (s_.2.1) ∧ nb k_ (s_.2.2.1) ∧ nb k_ (s_.2.2.2.1) ∧ nb k_ (s_.2.2.2.2.1)) v553 t552) ∧ (Kd.R (Kd.int .u64) 96 w' w.heap.size (fun k_ => nb k_ v541 ∧ nb k_ v545 ∧ nb k_ v549 ∧ nb k_ v553 ∧ nb k_ (s_.1) ∧ nb k_ (s_.2.1) ∧ nb k_ (s_.2.2.1) ∧ nb k_ (s_.2.2.2.1) ∧ nb k_ (s_.2.2.2.2.1)) (.slice Ao28 t556.length co28) t556) ∧ (Kd.R (Kd.int .u64) 96 w' w.heap.size (fun k_ => nb k_ v541 ∧ nb k_ v545 ∧ nb k_ v549 ∧ nb k_ v553 ∧ nb k_ (.slice Ao28 t556.length co28) ∧ nb k_ (s_.2.1) ∧ nb k_ (s_.2.2.1) ∧ nb k_ (s_.2.2.2.1) ∧ nb k_ (s_.2.2.2.2.1)) s_.1 t561) ∧ (Kd.R (Kd.int .u64) 96 w' w.heap.size (fun k_ => nb k_ v541 ∧ nb k_ v545 ∧ nb k_ v549 ∧ nb k_ v553 ∧ nb k_ (.slice Ao28 t556.length co28) ∧ nb k_ (s_.1) ∧ nb k_ (s_.2.2.1) ∧ nb k_ (s_.2.2.2.1) ∧ nb k_ (s_.2.2.2.2.1)) s_.2.1 t565) ∧ (Kd.R (Kd.int .u64) 96 w' w.heap.size (fun k_ => nb k_ v541 ∧ nb k_ v545 ∧ nb k_ v549 ∧ nb k_ v553 ∧ nb k_ (.slice Ao28 t556.length co28) ∧ nb k_ (s_.1) ∧ nb k_ (s_.2.1) ∧ nb k_ (s_.2.2.2.1) ∧ nb k_ (s_.2.2.2.2.1)) s_.2.2.1 t569) ∧ (Kd.R (Kd.int .u64) 96 w' w.heap.size (fun k_ => nb k_ v541 ∧ nb k_ v545 ∧ nb k_ v549 ∧ nb k_ v553 ∧ nb k_ (.slice Ao28 t556.length co28) ∧ nb k_ (s_.1) ∧ nb k_ (s_.2.1) ∧ nb k_ (s_.2.2.1) ∧ nb k_ (s_.2.2.2.2.1)) s_.2.2.2.1 t573) ∧ (Kd.R (Kd.int .u64) 96 w' w.heap.size (fun k_ => nb k_ v541 ∧ nb k_ v545 ∧ nb k_ v549 ∧ nb k_ v553 ∧ nb k_ (.slice Ao28 t556.length co28) ∧ nb k_ (s_.1) ∧ nb k_ (s_.2.1) ∧ nb k_ (s_.2.2.1) ∧ nb k_ (s_.2.2.2.1)) s_.2.2.2.2.1 t576) ∧ (w'.heap[gb536]? = some (.cells #[.bool a0_0, .slice A0_1 l0_1.length c0_1, .slice A0_2 l0_2.length c0_2] 34 (0, 0))) ∧ (w'.heap[gb537]? = some (.cells #[.bool a1_0, .slice A1_1 l1_1.length c1_1, .slice A1_2 l1_2.length c1_2] 34 (0, 0))) ∧ (w'.heap[gb538]? = some (.cells #[.bool false, .slice none 0 0, .slice none 0 0] 34 (0, 0))) ∧ (w'.heap[gb559]? = some (.cells #[.bool t555, .slice Ao28 t556.length co28] 32 (0, 0))) ∧ (w'.heap[s_.2.2.2.2.2]? = some (.cells #[.bool false, .slice none 0 0, .slice none 0 0] 34 (0, 0))) ∧ (w.heap.size ≤ s_.2.2.2.2.2) ∧ (w.heap.size ≤ s_.2.2.2.2.2) ∧ (gb536 ≠ s_.2.2.2.2.2) ∧ (s_.2.2.2.2.2 ≠ gb536) ∧ (gb537 ≠ s_.2.2.2.2.2) ∧ (s_.2.2.2.2.2 ≠ gb537) ∧ (gb538 ≠ s_.2.2.2.2.2) ∧ (s_.2.2.2.2.2 ≠ gb538) ∧ (gb559 ≠ s_.2.2.2.2.2) ∧ (s_.2.2.2.2.2 ≠ gb559) ∧ (Below w.heap.size w w')) ?_ ?_
 rotate_left
 ·
  intro hJ2_4_5_6_10
  refine join_ (σ := Value × Value × Value × Value × Value) 3 #[true, true, true, true, true, true, true, true, true, true, false, false, false] (fun s_ => [(22, .agg #[.bool t560, s_.1]), (24, .agg #[.bool t564, s_.2.1]), (25, .agg #[.bool t568, s_.2.2.1]), (26, .tuple #[.agg #[.bool t572, s_.2.2.2.1, s_.2.2.2.2], .int .i64 t579]), (19, .tuple #[.agg #[.bool t572, s_.2.2.2.1, s_.2.2.2.2], .int .i64 t579]), (27, .agg #[.bool t572, s_.2.2.2.1, s_.2.2.2.2]), (28, .int .i64 t579)]) (fun s_ w' => (w'.cell? ⟨gb559, 0, none⟩ = some (.bool t555) ∧ w'.cell? ⟨gb559, 1, none⟩ = some (.slice Ao28 t556.length co28) ∧ w'.cell? ⟨gb536, 0, none⟩ = some (.bool a0_0) ∧ w'.cell? ⟨gb536, 1, none⟩ = some (.slice A0_1 l0_1.length c0_1) ∧ w'.cell? ⟨gb536, 2, none⟩ = some (.slice A0_2 l0_2.length c0_2) ∧ w'.cell? ⟨gb537, 0, none⟩ = some (.bool a1_0) ∧ w'.cell? ⟨gb537, 1, none⟩ = some (.slice A1_1 l1_1.length c1_1) ∧ w'.cell? ⟨gb537, 2, none⟩ = some (.slice A1_2 l1_2.length c1_2)) ∧ (Kd.R (Kd.int .u64) 96 w' w.heap.size (fun k_ => nb k_ v545 ∧ nb k_ v549 ∧ nb k_ v553 ∧ nb k_ (.slice Ao28 t556.length co28) ∧ nb k_ (s_.1) ∧ nb k_ (s_.2.1) ∧ nb k_ (s_.2.2.1) ∧ nb k_ (s_.2.2.2.1) ∧ nb k_ (s_.2.2.2.2)) v541 t540) ∧ (Kd.R (Kd.int .u64) 96 w' w.heap.size (fun k_ => nb k_ v541 ∧ nb k_ v549 ∧ nb k_ v553 ∧ nb k_ (.slice Ao28 t556.length co28) ∧ nb k_ (s_.1) ∧ nb k_ (s_.2.1) ∧ nb k_ (s_.2.2.1) ∧ nb k_ (s_.2.2.2.1) ∧ nb k_ (s_.2.2.2.2)) v545 t544) ∧ (Kd.R (Kd.int .u64) 96 w' w.heap.size (fun k_ => nb k_ v541 ∧ nb k_ v545 ∧ nb k_ v553 ∧ nb k_ (.slice Ao28 t556.length co28) ∧ nb k_ (s_.1) ∧ nb k_ (s_.2.1) ∧ nb k_ (s_.2.2.1) ∧ nb k_ (s_.2.2.2.1) ∧ nb k_ (s_.2.2.2.2)) v549 t548) ∧ (Kd.R (Kd.int .u64) 96 w' w.heap.size (fun k_ => nb k_ v541 ∧ nb k_ v545 ∧ nb k_ v549 ∧ nb k_ (.slice Ao28 t556.length co28) ∧ nb k_ (s_.1) ∧ nb k_ (s_.2.1) ∧ nb k_ (s_.2.2.1) ∧ nb k_ (s_.2.2.2.1) ∧ nb k_ (s_.2.2.2.2)) v553 t552) ∧ (Kd.R (Kd.int .u64) 96 w' w.heap.size (fun k_ => nb k_ v541 ∧ nb k_ v545 ∧ nb k_ v549 ∧ nb k_ v553 ∧ nb k_ (s_.1) ∧ nb k_ (s_.2.1) ∧ nb k_ (s_.2.2.1) ∧ nb k_ (s_.2.2.2.1) ∧ nb k_ (s_.2.2.2.2)) (.slice Ao28 t556.length co28) t556) ∧ (Kd.R (Kd.int .u64) 96 w' w.heap.size (fun k_ => nb k_ v541 ∧ nb k_ v545 ∧ nb k_ v549 ∧ nb k_ v553 ∧ nb k_ (.slice Ao28 t556.length co28) ∧ nb k_ (s_.2.1) ∧ nb k_ (s_.2.2.1) ∧ nb k_ (s_.2.2.2.1) ∧ nb k_ (s_.2.2.2.2)) s_.1 t561) ∧ (Kd.R (Kd.int .u64) 96 w' w.heap.size (fun k_ => nb k_ v541 ∧ nb k_ v545 ∧ nb k_ v549 ∧ nb k_ v553 ∧ nb k_ (.slice Ao28 t556.length co28) ∧ nb k_ (s_.1) ∧ nb k_ (s_.2.2.1) ∧ nb k_ (s_.2.2.2.1) ∧ nb k_ (s_.2.2.2.2)) s_.2.1 t565) ∧ (Kd.R (Kd.int .u64) 96 w' w.heap.size (fun k_ => nb k_ v541 ∧ nb k_ v545 ∧ nb k_ v549 ∧ nb k_ v553 ∧ nb k_ (.slice Ao28 t556.length co28) ∧ nb k_ (s_.1) ∧ nb k_ (s_.2.1) ∧ nb k_ (s_.2.2.2.1) ∧ nb k_ (s_.2.2.2.2)) s_.2.2.1 t569) ∧ (Kd.R (Kd.int .u64) 96 w' w.heap.size (fun k_ => nb k_ v541 ∧ nb k_ v545 ∧ nb k_ v549 ∧ nb k_ v553 ∧ nb k_ (.slice Ao28 t556.length co28) ∧ nb k_ (s_.1) ∧ nb k_ (s_.2.1) ∧ nb k_ (s_.2.2.1) ∧ nb k_ (s_.2.2.2.2)) s_.2.2.2.1 t573) ∧ (Kd.R (Kd.int .u64) 96 w' w.heap.size (fun k_ => nb k_ v541 ∧ nb k_ v545 ∧ nb k_ v549 ∧ nb k_ v553 ∧ nb k_ (.slice Ao28 t556.length co28) ∧ nb k_ (s_.1) ∧ nb k_ (s_.2.1) ∧ nb k_ (s_.2.2.1) ∧ nb k_ (s_.2.2.2.1)) s_.2.2.2.2 t576) ∧ (w'.heap[gb536]? = some (.cells #[.bool a0_0, .slice A0_1 l0_1.length c0_1, .slice A0_2 l0_2.length c0_2] 34 (0, 0))) ∧ (w'.heap[gb537]? = some (.cells #[.bool a1_0, .slice A1_1 l1_1.length c1_1, .slice A1_2 l1_2.length c1_2] 34 (0, 0))) ∧ (w'.heap[gb538]? = some (.cells #[.bool false, .slice none 0 0, .slice none 0 0] 34 (0, 0))) ∧ (w'.heap[gb559]? = some (.cells #[.bool t555, .slice Ao28 t556.length co28] 32 (0, 0))) ∧ (Below w.heap.size w w')) ?_ ?_
  rotate_left
  ·
   intro hJ2_4_5_6
   refine join_ (σ := Value × Value × Value × Nat) 6 #[true, true, true, true, true, true, false, false, false, false, true, false, false] (fun s_ => [(22, .agg #[.bool t560, s_.1]), (24, .agg #[.bool t564, s_.2.1]), (25, .agg #[.bool t568, s_.2.2.1]), (6, .pointer (some ⟨s_.2.2.2, 0, none⟩))]) (fun s_ w' => (w'.cell? ⟨gb559, 0, none⟩ = some (.bool t555) ∧ w'.cell? ⟨gb559, 1, none⟩ = some (.slice Ao28 t556.length co28) ∧ w'.cell? ⟨gb536, 0, none⟩ = some (.bool a0_0) ∧ w'.cell? ⟨gb536, 1, none⟩ = some (.slice A0_1 l0_1.length c0_1) ∧ w'.cell? ⟨gb536, 2, none⟩ = some (.slice A0_2 l0_2.length c0_2) ∧ w'.cell? ⟨gb537, 0, none⟩ = some (.bool a1_0) ∧ w'.cell? ⟨gb537, 1, none⟩ = some (.slice A1_1 l1_1.length c1_1) ∧ w'.cell? ⟨gb537, 2, none⟩ = some (.slice A1_2 l1_2.length c1_2)) ∧ (Kd.R (Kd.int .u64) 96 w' w.heap.size (fun k_ => nb k_ v545 ∧ nb k_ v549 ∧ nb k_ v553 ∧ nb k_ (.slice Ao28 t556.length co28) ∧ nb k_ (s_.1) ∧ nb k_ (s_.2.1) ∧ nb k_ (s_.2.2.1)) v541 t540) ∧ (Kd.R (Kd.int .u64) 96 w' w.heap.size (fun k_ => nb k_ v541 ∧ nb k_ v549 ∧ nb k_ v553 ∧ nb k_ (.slice Ao28 t556.length co28) ∧ nb k_ (s_.1) ∧ nb k_ (s_.2.1) ∧ nb k_ (s_.2.2.1)) v545 t544) ∧ (Kd.R (Kd.int .u64) 96 w' w.heap.size (fun k_ => nb k_ v541 ∧ nb k_ v545 ∧ nb k_ v553 ∧ nb k_ (.slice Ao28 t556.length co28) ∧ nb k_ (s_.1) ∧ nb k_ (s_.2.1) ∧ nb k_ (s_.2.2.1)) v549 t548) ∧ (Kd.R (Kd.int .u64) 96 w' w.heap.size (fun k_ => nb k_ v541 ∧ nb k_ v545 ∧ nb k_ v549 ∧ nb k_ (.slice Ao28 t556.length co28) ∧ nb k_ (s_.1) ∧ nb k_ (s_.2.1) ∧ nb k_ (s_.2.2.1)) v553 t552) ∧ (Kd.R (Kd.int .u64) 96 w' w.heap.size (fun k_ => nb k_ v541 ∧ nb k_ v545 ∧ nb k_ v549 ∧ nb k_ v553 ∧ nb k_ (s_.1) ∧ nb k_ (s_.2.1) ∧ nb k_ (s_.2.2.1)) (.slice Ao28 t556.length co28) t556) ∧ (Kd.R (Kd.int .u64) 96 w' w.heap.size (fun k_ => nb k_ v541 ∧ nb k_ v545 ∧ nb k_ v549 ∧ nb k_ v553 ∧ nb k_ (.slice Ao28 t556.length co28) ∧ nb k_ (s_.2.1) ∧ nb k_ (s_.2.2.1)) s_.1 t561) ∧ (Kd.R (Kd.int .u64) 96 w' w.heap.size (fun k_ => nb k_ v541 ∧ nb k_ v545 ∧ nb k_ v549 ∧ nb k_ v553 ∧ nb k_ (.slice Ao28 t556.length co28) ∧ nb k_ (s_.1) ∧ nb k_ (s_.2.2.1)) s_.2.1 t565) ∧ (Kd.R (Kd.int .u64) 96 w' w.heap.size (fun k_ => nb k_ v541 ∧ nb k_ v545 ∧ nb k_ v549 ∧ nb k_ v553 ∧ nb k_ (.slice Ao28 t556.length co28) ∧ nb k_ (s_.1) ∧ nb k_ (s_.2.1)) s_.2.2.1 t569) ∧ (w'.heap[gb536]? = some (.cells #[.bool a0_0, .slice A0_1 l0_1.length c0_1, .slice A0_2 l0_2.length c0_2] 34 (0, 0))) ∧ (w'.heap[gb537]? = some (.cells #[.bool a1_0, .slice A1_1 l1_1.length c1_1, .slice A1_2 l1_2.length c1_2] 34 (0, 0))) ∧ (w'.heap[gb538]? = some (.cells #[.bool false, .slice none 0 0, .slice none 0 0] 34 (0, 0))) ∧ (w'.heap[gb559]? = some (.cells #[.bool t555, .slice Ao28 t556.length co28] 32 (0, 0))) ∧ (w'.heap[s_.2.2.2]? = some (.cells #[.bool false, .slice none 0 0, .slice none 0 0] 34 (0, 0))) ∧ (w.heap.size ≤ s_.2.2.2) ∧ (w.heap.size ≤ s_.2.2.2) ∧ (gb536 ≠ s_.2.2.2) ∧ (s_.2.2.2 ≠ gb536) ∧ (gb537 ≠ s_.2.2.2) ∧ (s_.2.2.2 ≠ gb537) ∧ (gb538 ≠ s_.2.2.2) ∧ (s_.2.2.2 ≠ gb538) ∧ (gb559 ≠ s_.2.2.2) ∧ (s_.2.2.2 ≠ gb559) ∧ (Below w.heap.size w w')) ?_ ?_
   rotate_left
   ·
    intro hJ2_4_5_10
    refine join_ (σ := Value × Value × Value) 7 #[true, true, true, true, true, true, false, false, false, false, false, false, false] (fun s_ => [(22, .agg #[.bool t560, s_.1]), (24, .agg #[.bool t564, s_.2.1]), (25, .agg #[.bool t568, s_.2.2])]) (fun s_ w' => (w'.cell? ⟨gb559, 0, none⟩ = some (.bool t555) ∧ w'.cell? ⟨gb559, 1, none⟩ = some (.slice Ao28 t556.length co28) ∧ w'.cell? ⟨gb536, 0, none⟩ = some (.bool a0_0) ∧ w'.cell? ⟨gb536, 1, none⟩ = some (.slice A0_1 l0_1.length c0_1) ∧ w'.cell? ⟨gb536, 2, none⟩ = some (.slice A0_2 l0_2.length c0_2) ∧ w'.cell? ⟨gb537, 0, none⟩ = some (.bool a1_0) ∧ w'.cell? ⟨gb537, 1, none⟩ = some (.slice A1_1 l1_1.length c1_1) ∧ w'.cell? ⟨gb537, 2, none⟩ = some (.slice A1_2 l1_2.length c1_2)) ∧ (Kd.R (Kd.int .u64) 96 w' w.heap.size (fun k_ => nb k_ v545 ∧ nb k_ v549 ∧ nb k_ v553 ∧ nb k_ (.slice Ao28 t556.length co28) ∧ nb k_ (s_.1) ∧ nb k_ (s_.2.1) ∧ nb k_ (s_.2.2)) v541 t540) ∧ (Kd.R (Kd.int .u64) 96 w' w.heap.size (fun k_ => nb k_ v541 ∧ nb k_ v549 ∧ nb k_ v553 ∧ nb k_ (.slice Ao28 t556.length co28) ∧ nb k_ (s_.1) ∧ nb k_ (s_.2.1) ∧ nb k_ (s_.2.2)) v545 t544) ∧ (Kd.R (Kd.int .u64) 96 w' w.heap.size (fun k_ => nb k_ v541 ∧ nb k_ v545 ∧ nb k_ v553 ∧ nb k_ (.slice Ao28 t556.length co28) ∧ nb k_ (s_.1) ∧ nb k_ (s_.2.1) ∧ nb k_ (s_.2.2)) v549 t548) ∧ (Kd.R (Kd.int .u64) 96 w' w.heap.size (fun k_ => nb k_ v541 ∧ nb k_ v545 ∧ nb k_ v549 ∧ nb k_ (.slice Ao28 t556.length co28) ∧ nb k_ (s_.1) ∧ nb k_ (s_.2.1) ∧ nb k_ (s_.2.2)) v553 t552) ∧ (Kd.R (Kd.int .u64) 96 w' w.heap.size (fun k_ => nb k_ v541 ∧ nb k_ v545 ∧ nb k_ v549 ∧ nb k_ v553 ∧ nb k_ (s_.1) ∧ nb k_ (s_.2.1) ∧ nb k_ (s_.2.2)) (.slice Ao28 t556.length co28) t556) ∧ (Kd.R (Kd.int .u64) 96 w' w.heap.size (fun k_ => nb k_ v541 ∧ nb k_ v545 ∧ nb k_ v549 ∧ nb k_ v553 ∧ nb k_ (.slice Ao28 t556.length co28) ∧ nb k_ (s_.2.1) ∧ nb k_ (s_.2.2)) s_.1 t561) ∧ (Kd.R (Kd.int .u64) 96 w' w.heap.size (fun k_ => nb k_ v541 ∧ nb k_ v545 ∧ nb k_ v549 ∧ nb k_ v553 ∧ nb k_ (.slice Ao28 t556.length co28) ∧ nb k_ (s_.1) ∧ nb k_ (s_.2.2)) s_.2.1 t565) ∧ (Kd.R (Kd.int .u64) 96 w' w.heap.size (fun k_ => nb k_ v541 ∧ nb k_ v545 ∧ nb k_ v549 ∧ nb k_ v553 ∧ nb k_ (.slice Ao28 t556.length co28) ∧ nb k_ (s_.1) ∧ nb k_ (s_.2.1)) s_.2.2 t569) ∧ (w'.heap[gb536]? = some (.cells #[.bool a0_0, .slice A0_1 l0_1.length c0_1, .slice A0_2 l0_2.length c0_2] 34 (0, 0))) ∧ (w'.heap[gb537]? = some (.cells #[.bool a1_0, .slice A1_1 l1_1.length c1_1, .slice A1_2 l1_2.length c1_2] 34 (0, 0))) ∧ (w'.heap[gb538]? = some (.cells #[.bool false, .slice none 0 0, .slice none 0 0] 34 (0, 0))) ∧ (w'.heap[gb559]? = some (.cells #[.bool t555, .slice Ao28 t556.length co28] 32 (0, 0))) ∧ (Below w.heap.size w w')) ?_ ?_
    rotate_left
    ·
     intro hJ2_4_5
     refine join_ (σ := Value × Value × Nat) 7 #[true, true, true, true, true, false, false, false, false, false, true, false, false] (fun s_ => [(22, .agg #[.bool t560, s_.1]), (24, .agg #[.bool t564, s_.2.1]), (6, .pointer (some ⟨s_.2.2, 0, none⟩))]) (fun s_ w' => (w'.cell? ⟨gb559, 0, none⟩ = some (.bool t555) ∧ w'.cell? ⟨gb559, 1, none⟩ = some (.slice Ao28 t556.length co28) ∧ w'.cell? ⟨gb536, 0, none⟩ = some (.bool a0_0) ∧ w'.cell? ⟨gb536, 1, none⟩ = some (.slice A0_1 l0_1.length c0_1) ∧ w'.cell? ⟨gb536, 2, none⟩ = some (.slice A0_2 l0_2.length c0_2) ∧ w'.cell? ⟨gb537, 0, none⟩ = some (.bool a1_0) ∧ w'.cell? ⟨gb537, 1, none⟩ = some (.slice A1_1 l1_1.length c1_1) ∧ w'.cell? ⟨gb537, 2, none⟩ = some (.slice A1_2 l1_2.length c1_2)) ∧ (Kd.R (Kd.int .u64) 96 w' w.heap.size (fun k_ => nb k_ v545 ∧ nb k_ v549 ∧ nb k_ v553 ∧ nb k_ (.slice Ao28 t556.length co28) ∧ nb k_ (s_.1) ∧ nb k_ (s_.2.1)) v541 t540) ∧ (Kd.R (Kd.int .u64) 96 w' w.heap.size (fun k_ => nb k_ v541 ∧ nb k_ v549 ∧ nb k_ v553 ∧ nb k_ (.slice Ao28 t556.length co28) ∧ nb k_ (s_.1) ∧ nb k_ (s_.2.1)) v545 t544) ∧ (Kd.R (Kd.int .u64) 96 w' w.heap.size (fun k_ => nb k_ v541 ∧ nb k_ v545 ∧ nb k_ v553 ∧ nb k_ (.slice Ao28 t556.length co28) ∧ nb k_ (s_.1) ∧ nb k_ (s_.2.1)) v549 t548) ∧ (Kd.R (Kd.int .u64) 96 w' w.heap.size (fun k_ => nb k_ v541 ∧ nb k_ v545 ∧ nb k_ v549 ∧ nb k_ (.slice Ao28 t556.length co28) ∧ nb k_ (s_.1) ∧ nb k_ (s_.2.1)) v553 t552) ∧ (Kd.R (Kd.int .u64) 96 w' w.heap.size (fun k_ => nb k_ v541 ∧ nb k_ v545 ∧ nb k_ v549 ∧ nb k_ v553 ∧ nb k_ (s_.1) ∧ nb k_ (s_.2.1)) (.slice Ao28 t556.length co28) t556) ∧ (Kd.R (Kd.int .u64) 96 w' w.heap.size (fun k_ => nb k_ v541 ∧ nb k_ v545 ∧ nb k_ v549 ∧ nb k_ v553 ∧ nb k_ (.slice Ao28 t556.length co28) ∧ nb k_ (s_.2.1)) s_.1 t561) ∧ (Kd.R (Kd.int .u64) 96 w' w.heap.size (fun k_ => nb k_ v541 ∧ nb k_ v545 ∧ nb k_ v549 ∧ nb k_ v553 ∧ nb k_ (.slice Ao28 t556.length co28) ∧ nb k_ (s_.1)) s_.2.1 t565) ∧ (w'.heap[gb536]? = some (.cells #[.bool a0_0, .slice A0_1 l0_1.length c0_1, .slice A0_2 l0_2.length c0_2] 34 (0, 0))) ∧ (w'.heap[gb537]? = some (.cells #[.bool a1_0, .slice A1_1 l1_1.length c1_1, .slice A1_2 l1_2.length c1_2] 34 (0, 0))) ∧ (w'.heap[gb538]? = some (.cells #[.bool false, .slice none 0 0, .slice none 0 0] 34 (0, 0))) ∧ (w'.heap[gb559]? = some (.cells #[.bool t555, .slice Ao28 t556.length co28] 32 (0, 0))) ∧ (w'.heap[s_.2.2]? = some (.cells #[.bool false, .slice none 0 0, .slice none 0 0] 34 (0, 0))) ∧ (w.heap.size ≤ s_.2.2) ∧ (w.heap.size ≤ s_.2.2) ∧ (gb536 ≠ s_.2.2) ∧ (s_.2.2 ≠ gb536) ∧ (gb537 ≠ s_.2.2) ∧ (s_.2.2 ≠ gb537) ∧ (gb538 ≠ s_.2.2) ∧ (s_.2.2 ≠ gb538) ∧ (gb559 ≠ s_.2.2) ∧ (s_.2.2 ≠ gb559) ∧ (Below w.heap.size w w')) ?_ ?_
     rotate_left
     ·
      intro hJ2_4_10
      refine join_ (σ := Value × Value) 8 #[true, true, true, true, true, false, false, false, false, false, false, false, false] (fun s_ => [(22, .agg #[.bool t560, s_.1]), (24, .agg #[.bool t564, s_.2])]) (fun s_ w' => (w'.cell? ⟨gb559, 0, none⟩ = some (.bool t555) ∧ w'.cell? ⟨gb559, 1, none⟩ = some (.slice Ao28 t556.length co28) ∧ w'.cell? ⟨gb536, 0, none⟩ = some (.bool a0_0) ∧ w'.cell? ⟨gb536, 1, none⟩ = some (.slice A0_1 l0_1.length c0_1) ∧ w'.cell? ⟨gb536, 2, none⟩ = some (.slice A0_2 l0_2.length c0_2) ∧ w'.cell? ⟨gb537, 0, none⟩ = some (.bool a1_0) ∧ w'.cell? ⟨gb537, 1, none⟩ = some (.slice A1_1 l1_1.length c1_1) ∧ w'.cell? ⟨gb537, 2, none⟩ = some (.slice A1_2 l1_2.length c1_2)) ∧ (Kd.R (Kd.int .u64) 96 w' w.heap.size (fun k_ => nb k_ v545 ∧ nb k_ v549 ∧ nb k_ v553 ∧ nb k_ (.slice Ao28 t556.length co28) ∧ nb k_ (s_.1) ∧ nb k_ (s_.2)) v541 t540) ∧ (Kd.R (Kd.int .u64) 96 w' w.heap.size (fun k_ => nb k_ v541 ∧ nb k_ v549 ∧ nb k_ v553 ∧ nb k_ (.slice Ao28 t556.length co28) ∧ nb k_ (s_.1) ∧ nb k_ (s_.2)) v545 t544) ∧ (Kd.R (Kd.int .u64) 96 w' w.heap.size (fun k_ => nb k_ v541 ∧ nb k_ v545 ∧ nb k_ v553 ∧ nb k_ (.slice Ao28 t556.length co28) ∧ nb k_ (s_.1) ∧ nb k_ (s_.2)) v549 t548) ∧ (Kd.R (Kd.int .u64) 96 w' w.heap.size (fun k_ => nb k_ v541 ∧ nb k_ v545 ∧ nb k_ v549 ∧ nb k_ (.slice Ao28 t556.length co28) ∧ nb k_ (s_.1) ∧ nb k_ (s_.2)) v553 t552) ∧ (Kd.R (Kd.int .u64) 96 w' w.heap.size (fun k_ => nb k_ v541 ∧ nb k_ v545 ∧ nb k_ v549 ∧ nb k_ v553 ∧ nb k_ (s_.1) ∧ nb k_ (s_.2)) (.slice Ao28 t556.length co28) t556) ∧ (Kd.R (Kd.int .u64) 96 w' w.heap.size (fun k_ => nb k_ v541 ∧ nb k_ v545 ∧ nb k_ v549 ∧ nb k_ v553 ∧ nb k_ (.slice Ao28 t556.length co28) ∧ nb k_ (s_.2)) s_.1 t561) ∧ (Kd.R (Kd.int .u64) 96 w' w.heap.size (fun k_ => nb k_ v541 ∧ nb k_ v545 ∧ nb k_ v549 ∧ nb k_ v553 ∧ nb k_ (.slice Ao28 t556.length co28) ∧ nb k_ (s_.1)) s_.2 t565) ∧ (w'.heap[gb536]? = some (.cells #[.bool a0_0, .slice A0_1 l0_1.length c0_1, .slice A0_2 l0_2.length c0_2] 34 (0, 0))) ∧ (w'.heap[gb537]? = some (.cells #[.bool a1_0, .slice A1_1 l1_1.length c1_1, .slice A1_2 l1_2.length c1_2] 34 (0, 0))) ∧ (w'.heap[gb538]? = some (.cells #[.bool false, .slice none 0 0, .slice none 0 0] 34 (0, 0))) ∧ (w'.heap[gb559]? = some (.cells #[.bool t555, .slice Ao28 t556.length co28] 32 (0, 0))) ∧ (Below w.heap.size w w')) ?_ ?_
      rotate_left
      ·
       intro hJ2_4
       refine join_ (σ := Value × Nat) 8 #[true, true, true, true, false, false, false, false, false, false, true, false, false] (fun s_ => [(22, .agg #[.bool t560, s_.1]), (6, .pointer (some ⟨s_.2, 0, none⟩))]) (fun s_ w' => (w'.cell? ⟨gb559, 0, none⟩ = some (.bool t555) ∧ w'.cell? ⟨gb559, 1, none⟩ = some (.slice Ao28 t556.length co28) ∧ w'.cell? ⟨gb536, 0, none⟩ = some (.bool a0_0) ∧ w'.cell? ⟨gb536, 1, none⟩ = some (.slice A0_1 l0_1.length c0_1) ∧ w'.cell? ⟨gb536, 2, none⟩ = some (.slice A0_2 l0_2.length c0_2) ∧ w'.cell? ⟨gb537, 0, none⟩ = some (.bool a1_0) ∧ w'.cell? ⟨gb537, 1, none⟩ = some (.slice A1_1 l1_1.length c1_1) ∧ w'.cell? ⟨gb537, 2, none⟩ = some (.slice A1_2 l1_2.length c1_2)) ∧ (Kd.R (Kd.int .u64) 96 w' w.heap.size (fun k_ => nb k_ v545 ∧ nb k_ v549 ∧ nb k_ v553 ∧ nb k_ (.slice Ao28 t556.length co28) ∧ nb k_ (s_.1)) v541 t540) ∧ (Kd.R (Kd.int .u64) 96 w' w.heap.size (fun k_ => nb k_ v541 ∧ nb k_ v549 ∧ nb k_ v553 ∧ nb k_ (.slice Ao28 t556.length co28) ∧ nb k_ (s_.1)) v545 t544) ∧ (Kd.R (Kd.int .u64) 96 w' w.heap.size (fun k_ => nb k_ v541 ∧ nb k_ v545 ∧ nb k_ v553 ∧ nb k_ (.slice Ao28 t556.length co28) ∧ nb k_ (s_.1)) v549 t548) ∧ (Kd.R (Kd.int .u64) 96 w' w.heap.size (fun k_ => nb k_ v541 ∧ nb k_ v545 ∧ nb k_ v549 ∧ nb k_ (.slice Ao28 t556.length co28) ∧ nb k_ (s_.1)) v553 t552) ∧ (Kd.R (Kd.int .u64) 96 w' w.heap.size (fun k_ => nb k_ v541 ∧ nb k_ v545 ∧ nb k_ v549 ∧ nb k_ v553 ∧ nb k_ (s_.1)) (.slice Ao28 t556.length co28) t556) ∧ (Kd.R (Kd.int .u64) 96 w' w.heap.size (fun k_ => nb k_ v541 ∧ nb k_ v545 ∧ nb k_ v549 ∧ nb k_ v553 ∧ nb k_ (.slice Ao28 t556.length co28)) s_.1 t561) ∧ (w'.heap[gb536]? = some (.cells #[.bool a0_0, .slice A0_1 l0_1.length c0_1, .slice A0_2 l0_2.length c0_2] 34 (0, 0))) ∧ (w'.heap[gb537]? = some (.cells #[.bool a1_0, .slice A1_1 l1_1.length c1_1, .slice A1_2 l1_2.length c1_2] 34 (0, 0))) ∧ (w'.heap[gb538]? = some (.cells #[.bool false, .slice none 0 0, .slice none 0 0] 34 (0, 0))) ∧ (w'.heap[gb559]? = some (.cells #[.bool t555, .slice Ao28 t556.length co28] 32 (0, 0))) ∧ (w'.heap[s_.2]? = some (.cells #[.bool false, .slice none 0 0, .slice none 0 0] 34 (0, 0))) ∧ (w.heap.size ≤ s_.2) ∧ (w.heap.size ≤ s_.2) ∧ (gb536 ≠ s_.2) ∧ (s_.2 ≠ gb536) ∧ (gb537 ≠ s_.2) ∧ (s_.2 ≠ gb537) ∧ (gb538 ≠ s_.2) ∧ (s_.2 ≠ gb538) ∧ (gb559 ≠ s_.2) ∧ (s_.2 ≠ gb559) ∧ (Below w.heap.size w w')) ?_ ?_
       rotate_left
       ·
        intro hJ2_10
        refine join_ (σ := Value) 9 #[true, true, true, true, false, false, false, false, false, false, false, false, false] (fun s_ => [(22, .agg #[.bool t560, s_])]) (fun s_ w' => (w'.cell? ⟨gb559, 0, none⟩ = some (.bool t555) ∧ w'.cell? ⟨gb559, 1, none⟩ = some (.slice Ao28 t556.length co28) ∧ w'.cell? ⟨gb536, 0, none⟩ = some (.bool a0_0) ∧ w'.cell? ⟨gb536, 1, none⟩ = some (.slice A0_1 l0_1.length c0_1) ∧ w'.cell? ⟨gb536, 2, none⟩ = some (.slice A0_2 l0_2.length c0_2) ∧ w'.cell? ⟨gb537, 0, none⟩ = some (.bool a1_0) ∧ w'.cell? ⟨gb537, 1, none⟩ = some (.slice A1_1 l1_1.length c1_1) ∧ w'.cell? ⟨gb537, 2, none⟩ = some (.slice A1_2 l1_2.length c1_2)) ∧ (Kd.R (Kd.int .u64) 96 w' w.heap.size (fun k_ => nb k_ v545 ∧ nb k_ v549 ∧ nb k_ v553 ∧ nb k_ (.slice Ao28 t556.length co28) ∧ nb k_ s_) v541 t540) ∧ (Kd.R (Kd.int .u64) 96 w' w.heap.size (fun k_ => nb k_ v541 ∧ nb k_ v549 ∧ nb k_ v553 ∧ nb k_ (.slice Ao28 t556.length co28) ∧ nb k_ s_) v545 t544) ∧ (Kd.R (Kd.int .u64) 96 w' w.heap.size (fun k_ => nb k_ v541 ∧ nb k_ v545 ∧ nb k_ v553 ∧ nb k_ (.slice Ao28 t556.length co28) ∧ nb k_ s_) v549 t548) ∧ (Kd.R (Kd.int .u64) 96 w' w.heap.size (fun k_ => nb k_ v541 ∧ nb k_ v545 ∧ nb k_ v549 ∧ nb k_ (.slice Ao28 t556.length co28) ∧ nb k_ s_) v553 t552) ∧ (Kd.R (Kd.int .u64) 96 w' w.heap.size (fun k_ => nb k_ v541 ∧ nb k_ v545 ∧ nb k_ v549 ∧ nb k_ v553 ∧ nb k_ s_) (.slice Ao28 t556.length co28) t556) ∧ (Kd.R (Kd.int .u64) 96 w' w.heap.size (fun k_ => nb k_ v541 ∧ nb k_ v545 ∧ nb k_ v549 ∧ nb k_ v553 ∧ nb k_ (.slice Ao28 t556.length co28)) s_ t561) ∧ (w'.heap[gb536]? = some (.cells #[.bool a0_0, .slice A0_1 l0_1.length c0_1, .slice A0_2 l0_2.length c0_2] 34 (0, 0))) ∧ (w'.heap[gb537]? = some (.cells #[.bool a1_0, .slice A1_1 l1_1.length c1_1, .slice A1_2 l1_2.length c1_2] 34 (0, 0))) ∧ (w'.heap[gb538]? = some (.cells #[.bool false, .slice none 0 0, .slice none 0 0] 34 (0, 0))) ∧ (w'.heap[gb559]? = some (.cells #[.bool t555, .slice Ao28 t556.length co28] 32 (0, 0))) ∧ (Below w.heap.size w w')) ?_ ?_
        rotate_left
        ·
         intro hJ2
         refine join_ (σ := Nat) 9 #[true, true, false, true, false, false, false, false, false, false, true, false, false] (fun s_ => [(6, .pointer (some ⟨s_, 0, none⟩))]) (fun s_ w' => (w'.cell? ⟨gb559, 0, none⟩ = some (.bool t555) ∧ w'.cell? ⟨gb559, 1, none⟩ = some (.slice Ao28 t556.length co28) ∧ w'.cell? ⟨gb536, 0, none⟩ = some (.bool a0_0) ∧ w'.cell? ⟨gb536, 1, none⟩ = some (.slice A0_1 l0_1.length c0_1) ∧ w'.cell? ⟨gb536, 2, none⟩ = some (.slice A0_2 l0_2.length c0_2) ∧ w'.cell? ⟨gb537, 0, none⟩ = some (.bool a1_0) ∧ w'.cell? ⟨gb537, 1, none⟩ = some (.slice A1_1 l1_1.length c1_1) ∧ w'.cell? ⟨gb537, 2, none⟩ = some (.slice A1_2 l1_2.length c1_2)) ∧ (Kd.R (Kd.int .u64) 96 w' w.heap.size (fun k_ => nb k_ v545 ∧ nb k_ v549 ∧ nb k_ v553 ∧ nb k_ (.slice Ao28 t556.length co28)) v541 t540) ∧ (Kd.R (Kd.int .u64) 96 w' w.heap.size (fun k_ => nb k_ v541 ∧ nb k_ v549 ∧ nb k_ v553 ∧ nb k_ (.slice Ao28 t556.length co28)) v545 t544) ∧ (Kd.R (Kd.int .u64) 96 w' w.heap.size (fun k_ => nb k_ v541 ∧ nb k_ v545 ∧ nb k_ v553 ∧ nb k_ (.slice Ao28 t556.length co28)) v549 t548) ∧ (Kd.R (Kd.int .u64) 96 w' w.heap.size (fun k_ => nb k_ v541 ∧ nb k_ v545 ∧ nb k_ v549 ∧ nb k_ (.slice Ao28 t556.length co28)) v553 t552) ∧ (Kd.R (Kd.int .u64) 96 w' w.heap.size (fun k_ => nb k_ v541 ∧ nb k_ v545 ∧ nb k_ v549 ∧ nb k_ v553) (.slice Ao28 t556.length co28) t556) ∧ (w'.heap[gb536]? = some (.cells #[.bool a0_0, .slice A0_1 l0_1.length c0_1, .slice A0_2 l0_2.length c0_2] 34 (0, 0))) ∧ (w'.heap[gb537]? = some (.cells #[.bool a1_0, .slice A1_1 l1_1.length c1_1, .slice A1_2 l1_2.length c1_2] 34 (0, 0))) ∧ (w'.heap[gb538]? = some (.cells #[.bool false, .slice none 0 0, .slice none 0 0] 34 (0, 0))) ∧ (w'.heap[gb559]? = some (.cells #[.bool t555, .slice Ao28 t556.length co28] 32 (0, 0))) ∧ (w'.heap[s_]? = some (.cells #[.bool false, .slice none 0 0, .slice none 0 0] 34 (0, 0))) ∧ (w.heap.size ≤ s_) ∧ (w.heap.size ≤ s_) ∧ (gb536 ≠ s_) ∧ (s_ ≠ gb536) ∧ (gb537 ≠ s_) ∧ (s_ ≠ gb537) ∧ (gb538 ≠ s_) ∧ (s_ ≠ gb538) ∧ (gb559 ≠ s_) ∧ (s_ ≠ gb559) ∧ (Below w.heap.size w w')) ?_ ?_
         rotate_left
         ·
          intro hJ10
          refine two_ (i := 2) (j := 10) (Ni := some 22) (Nj := some 6) #[true, true, true, true, false, false, false, false, false, false, false, false, false] #[true, true, false, true, false, false, false, false, false, false, true, false, false] rfl rfl rfl rfl (two_of HT_.out (by kernel_rfl)) (by decide) (by decide) (fun K hK => ?_) (fun K hK => ?_)
          ·
           skip
           refine goes_ Try.func66 (by kernel_rfl) rfl #[.agg #[.bool a0_0, .slice A0_1 l0_1.length c0_1, .slice A0_2 l0_2.length c0_2]] (by rfl) rfl rfl (by (try simp only [List.map_toArray, List.map_cons, List.map_nil]); first | done | rfl | (simp only [List.length_drop, List.length_take]; rfl)) ?_
           with_reducible refine (rat_up.calls k a0_0 _ _ l0_1 _ _ l0_2 t560 t561 _ ?side1 ?side2 ?side3 ?side4 A8.out).mono ?_
           (case side1 => exact Kd.Cx (Kd.C_below HR0_1.out HB.out))
           (case side2 => exact HC0_1.out)
           (case side3 => exact Kd.Cx (Kd.C_below HR0_2.out HB.out))
           (case side4 => exact HC0_2.out)
           rintro e w32 ⟨v562, rfl, ho0, hb⟩
           refine ⟨_, rfl, ?_⟩
           have HO563 := Aside0.mk (Kd.R_lower (Kd.R_new' (Kd.R_new' (Kd.R_new' (Kd.R_new' (Kd.R_new' ho0 (Kd.R_lt (Kd.Rx HO542.out))) (Kd.R_lt (Kd.Rx HO546.out))) (Kd.R_lt (Kd.Rx HO550.out))) (Kd.R_lt (Kd.Rx HO554.out))) (Kd.R_lt (Kd.Rx HO558.out))) (below_size (Bs)))
           replace HO542 := Aside0.mk (Kd.R_elder' (Kd.Rx HO542.out) (Kd.R_base ho0) hb)
           replace HO546 := Aside0.mk (Kd.R_elder' (Kd.Rx HO546.out) (Kd.R_base ho0) hb)
           replace HO550 := Aside0.mk (Kd.R_elder' (Kd.Rx HO550.out) (Kd.R_base ho0) hb)
           replace HO554 := Aside0.mk (Kd.R_elder' (Kd.Rx HO554.out) (Kd.R_base ho0) hb)
           replace HO558 := Aside0.mk (Kd.R_elder' (Kd.Rx HO558.out) (Kd.R_base ho0) hb)
           replace BK536 := Aside0.mk (blk_below (Kx BK536.out) hb)
           replace BK537 := Aside0.mk (blk_below (Kx BK537.out) hb)
           replace BK538 := Aside0.mk (blk_below (Kx BK538.out) hb)
           replace BK559 := Aside0.mk (blk_below (Kx BK559.out) hb)
           replace HB := Aside0.mk (below_step (Bs) hb)
           (try clear hb)
           (try clear hb2)
           (try clear hk)
           (try clear hi)
           (try clear ho0)
           refine hK.out _ _ ⟨(blk_cell BK559.out 0).trans rfl, (blk_cell BK559.out 1).trans rfl, (blk_cell BK536.out 0).trans rfl, (blk_cell BK536.out 1).trans rfl, (blk_cell BK536.out 2).trans rfl, (blk_cell BK537.out 0).trans rfl, (blk_cell BK537.out 1).trans rfl, (blk_cell BK537.out 2).trans rfl⟩ (fun hHeld => ?_)
           clear hK K
           refine norm_ (a' := ?_) ?_ ?_
           rotate_left
           ·
            show Act.put _ (some 22) _ = _
            simp only [Act.put, List.setIfInBounds_toArray, List.set_cons_zero, List.set_cons_succ, i64_w, i32_w]
            rfl
           exact norm_ (by first | (simp only [putAll, Act.put, List.setIfInBounds_toArray, List.set_cons_zero, List.set_cons_succ]; done) | (simp only [putAll, Act.put, List.setIfInBounds_toArray, List.set_cons_zero, List.set_cons_succ]; rfl)) (hJ2 (_) _ ⟨hHeld, (Kd.Rm HO542.out), (Kd.Rm HO546.out), (Kd.Rm HO550.out), (Kd.Rm HO554.out), (Kd.Rm HO558.out), (Kd.Rm HO563.out), (Kx BK536.out), (Kx BK537.out), (Kx BK538.out), (Kx BK559.out), (Bs)⟩)
          ·
           skip
           refine box_step ?hg (N := 6) ?hd (cs := #[.bool false, .slice none 0 0, .slice none 0 0]) (t := 34) ?hr ?_; (case hd => rfl); (case hg => rfl); (case hr => first | (go_simp; done) | (go_simp; rfl))
           intro gb580 hg w32 hbox hb
           have n0_ := Aside0.mk (Kd.R_below (Kd.Rx HO542.out) hb)
           have n1_ := Aside0.mk (Kd.R_below (Kd.Rx HO546.out) hb)
           have n2_ := Aside0.mk (Kd.R_below (Kd.Rx HO550.out) hb)
           have n3_ := Aside0.mk (Kd.R_below (Kd.Rx HO554.out) hb)
           have n4_ := Aside0.mk (Kd.R_below (Kd.Rx HO558.out) hb)
           have n5_ := Aside0.mk (blk_below (Kx BK536.out) hb)
           have n6_ := Aside0.mk (blk_below (Kx BK537.out) hb)
           have n7_ := Aside0.mk (blk_below (Kx BK538.out) hb)
           have n8_ := Aside0.mk (blk_below (Kx BK559.out) hb)
           have n9_ := Aside0.mk (below_step (Bs) hb)
           have n10_ := Aside0.mk (hbox)
           have n11_ := Aside0.mk ((by rw [hg]; exact (below_size (Bs)) : w.heap.size ≤ gb580))
           have n12_ := Aside0.mk ((by rw [hg]; exact (below_size (Bs)) : w.heap.size ≤ gb580))
           have n13_ := Aside0.mk ((by rw [hg]; exact Nat.ne_of_lt (blk_lt (Kx BK536.out)) : gb536 ≠ gb580))
           have n14_ := Aside0.mk ((by rw [hg]; exact Nat.ne_of_gt (blk_lt (Kx BK536.out)) : gb580 ≠ gb536))
           have n15_ := Aside0.mk ((by rw [hg]; exact Nat.ne_of_lt (blk_lt (Kx BK537.out)) : gb537 ≠ gb580))
           have n16_ := Aside0.mk ((by rw [hg]; exact Nat.ne_of_gt (blk_lt (Kx BK537.out)) : gb580 ≠ gb537))
           have n17_ := Aside0.mk ((by rw [hg]; exact Nat.ne_of_lt (blk_lt (Kx BK538.out)) : gb538 ≠ gb580))
           have n18_ := Aside0.mk ((by rw [hg]; exact Nat.ne_of_gt (blk_lt (Kx BK538.out)) : gb580 ≠ gb538))
           have n19_ := Aside0.mk ((by rw [hg]; exact Nat.ne_of_lt (blk_lt (Kx BK559.out)) : gb559 ≠ gb580))
           have n20_ := Aside0.mk ((by rw [hg]; exact Nat.ne_of_gt (blk_lt (Kx BK559.out)) : gb580 ≠ gb559))
           clear HO542
           clear HO546
           clear HO550
           clear HO554
           clear HO558
           clear BK536
           clear BK537
           clear BK538
           clear BK559
           clear HB
           have HO542 := n0_
           have HO546 := n1_
           have HO550 := n2_
           have HO554 := n3_
           have HO558 := n4_
           have BK536 := n5_
           have BK537 := n6_
           have BK538 := n7_
           have BK559 := n8_
           have HB := n9_
           have BK580 := n10_
           have GW580 := n11_
           have GE580 := n12_
           have NB536_580 := n13_
           have NB580_536 := n14_
           have NB537_580 := n15_
           have NB580_537 := n16_
           have NB538_580 := n17_
           have NB580_538 := n18_
           have NB559_580 := n19_
           have NB580_559 := n20_
           clear n0_ n1_ n2_ n3_ n4_ n5_ n6_ n7_ n8_ n9_ n10_ n11_ n12_ n13_ n14_ n15_ n16_ n17_ n18_ n19_ n20_
           clear hb hbox hg
           refine hK.out _ _ ⟨(blk_cell BK559.out 0).trans rfl, (blk_cell BK559.out 1).trans rfl, (blk_cell BK536.out 0).trans rfl, (blk_cell BK536.out 1).trans rfl, (blk_cell BK536.out 2).trans rfl, (blk_cell BK537.out 0).trans rfl, (blk_cell BK537.out 1).trans rfl, (blk_cell BK537.out 2).trans rfl⟩ (fun hHeld => ?_)
           clear hK K
           refine norm_ (a' := ?_) ?_ ?_
           rotate_left
           ·
            show Act.put _ (some 6) _ = _
            simp only [Act.put, List.setIfInBounds_toArray, List.set_cons_zero, List.set_cons_succ, i64_w, i32_w]
            rfl
           exact norm_ (by first | (simp only [putAll, Act.put, List.setIfInBounds_toArray, List.set_cons_zero, List.set_cons_succ]; done) | (simp only [putAll, Act.put, List.setIfInBounds_toArray, List.set_cons_zero, List.set_cons_succ]; rfl)) (hJ10 (gb580) _ ⟨hHeld, (Kd.Rx HO542.out), (Kd.Rx HO546.out), (Kd.Rx HO550.out), (Kd.Rx HO554.out), (Kd.Rx HO558.out), (Kx BK536.out), (Kx BK537.out), (Kx BK538.out), (Kx BK559.out), (Kx BK580.out), GW580.out, GE580.out, NB536_580.out, NB580_536.out, NB537_580.out, NB580_537.out, NB538_580.out, NB580_538.out, NB559_580.out, NB580_559.out, (Bs)⟩)
         ·
          skip
          rintro gb580 w33 ⟨hS_, h0_, h1_, h2_, h3_, h4_, h5_, h6_, h7_, h8_, h9_, h10_, h11_, h12_, h13_, h14_, h15_, h16_, h17_, h18_, h19_, h20_⟩
          replace HO542 : Aside0 (Kd.R (Kd.int .u64) 96 w33 w.heap.size (fun k_ => nb k_ v545 ∧ nb k_ v549 ∧ nb k_ v553 ∧ nb k_ (.slice Ao28 t556.length co28)) v541 t540) := ⟨h0_⟩
          replace HO546 : Aside0 (Kd.R (Kd.int .u64) 96 w33 w.heap.size (fun k_ => nb k_ v541 ∧ nb k_ v549 ∧ nb k_ v553 ∧ nb k_ (.slice Ao28 t556.length co28)) v545 t544) := ⟨h1_⟩
          replace HO550 : Aside0 (Kd.R (Kd.int .u64) 96 w33 w.heap.size (fun k_ => nb k_ v541 ∧ nb k_ v545 ∧ nb k_ v553 ∧ nb k_ (.slice Ao28 t556.length co28)) v549 t548) := ⟨h2_⟩
          replace HO554 : Aside0 (Kd.R (Kd.int .u64) 96 w33 w.heap.size (fun k_ => nb k_ v541 ∧ nb k_ v545 ∧ nb k_ v549 ∧ nb k_ (.slice Ao28 t556.length co28)) v553 t552) := ⟨h3_⟩
          replace HO558 : Aside0 (Kd.R (Kd.int .u64) 96 w33 w.heap.size (fun k_ => nb k_ v541 ∧ nb k_ v545 ∧ nb k_ v549 ∧ nb k_ v553) (.slice Ao28 t556.length co28) t556) := ⟨h4_⟩
          replace BK536 : Aside0 (w33.heap[gb536]? = some (.cells #[.bool a0_0, .slice A0_1 l0_1.length c0_1, .slice A0_2 l0_2.length c0_2] 34 (0, 0))) := ⟨h5_⟩
          replace BK537 : Aside0 (w33.heap[gb537]? = some (.cells #[.bool a1_0, .slice A1_1 l1_1.length c1_1, .slice A1_2 l1_2.length c1_2] 34 (0, 0))) := ⟨h6_⟩
          replace BK538 : Aside0 (w33.heap[gb538]? = some (.cells #[.bool false, .slice none 0 0, .slice none 0 0] 34 (0, 0))) := ⟨h7_⟩
          replace BK559 : Aside0 (w33.heap[gb559]? = some (.cells #[.bool t555, .slice Ao28 t556.length co28] 32 (0, 0))) := ⟨h8_⟩
          have BK580 : Aside0 (w33.heap[gb580]? = some (.cells #[.bool false, .slice none 0 0, .slice none 0 0] 34 (0, 0))) := ⟨h9_⟩
          have GW580 : Aside0 (w.heap.size ≤ gb580) := ⟨h10_⟩
          have GE580 : Aside0 (w.heap.size ≤ gb580) := ⟨h11_⟩
          have NB536_580 : Aside0 (gb536 ≠ gb580) := ⟨h12_⟩
          have NB580_536 : Aside0 (gb580 ≠ gb536) := ⟨h13_⟩
          have NB537_580 : Aside0 (gb537 ≠ gb580) := ⟨h14_⟩
          have NB580_537 : Aside0 (gb580 ≠ gb537) := ⟨h15_⟩
          have NB538_580 : Aside0 (gb538 ≠ gb580) := ⟨h16_⟩
          have NB580_538 : Aside0 (gb580 ≠ gb538) := ⟨h17_⟩
          have NB559_580 : Aside0 (gb559 ≠ gb580) := ⟨h18_⟩
          have NB580_559 : Aside0 (gb580 ≠ gb559) := ⟨h19_⟩
          replace HB : Aside0 (Below w.heap.size w w33) := ⟨h20_⟩
          clear h0_ h1_ h2_ h3_ h4_ h5_ h6_ h7_ h8_ h9_ h10_ h11_ h12_ h13_ h14_ h15_ h16_ h17_ h18_ h19_ h20_
          have hHeld : w33.cell? ⟨gb559, 0, none⟩ = some (.bool t555) ∧ w33.cell? ⟨gb559, 1, none⟩ = some (.slice Ao28 t556.length co28) ∧ w33.cell? ⟨gb536, 0, none⟩ = some (.bool a0_0) ∧ w33.cell? ⟨gb536, 1, none⟩ = some (.slice A0_1 l0_1.length c0_1) ∧ w33.cell? ⟨gb536, 2, none⟩ = some (.slice A0_2 l0_2.length c0_2) ∧ w33.cell? ⟨gb537, 0, none⟩ = some (.bool a1_0) ∧ w33.cell? ⟨gb537, 1, none⟩ = some (.slice A1_1 l1_1.length c1_1) ∧ w33.cell? ⟨gb537, 2, none⟩ = some (.slice A1_2 l1_2.length c1_2) := hS_
          refine norm_ (a' := ?_) ?_ ?_
          rotate_left
          ·
           simp only [putAll, Act.put, List.setIfInBounds_toArray, List.set_cons_zero, List.set_cons_succ]
           rfl
          refine one_ (i := 2) (N := some 22) #[true, true, true, true, false, false, false, false, false, false, true, false, false] rfl rfl (one_of HT_.out (by kernel_rfl)) (by decide) (fun K hK => ?_)
          refine goes_ Try.func66 (by kernel_rfl) rfl #[.agg #[.bool a0_0, .slice A0_1 l0_1.length c0_1, .slice A0_2 l0_2.length c0_2]] (by rfl) rfl rfl (by (try simp only [List.map_toArray, List.map_cons, List.map_nil]); first | done | rfl | (simp only [List.length_drop, List.length_take]; rfl)) ?_
          with_reducible refine (rat_up.calls k a0_0 _ _ l0_1 _ _ l0_2 t560 t561 _ ?side1 ?side2 ?side3 ?side4 A8.out).mono ?_
          (case side1 => exact Kd.Cx (Kd.C_below HR0_1.out HB.out))
          (case side2 => exact HC0_1.out)
          (case side3 => exact Kd.Cx (Kd.C_below HR0_2.out HB.out))
          (case side4 => exact HC0_2.out)
          rintro e w34 ⟨v562, rfl, ho0, hb⟩
          refine ⟨_, rfl, ?_⟩
          have HO563 := Aside0.mk (Kd.R_lower (Kd.R_new' (Kd.R_new' (Kd.R_new' (Kd.R_new' (Kd.R_new' ho0 (Kd.R_lt (Kd.Rx HO542.out))) (Kd.R_lt (Kd.Rx HO546.out))) (Kd.R_lt (Kd.Rx HO550.out))) (Kd.R_lt (Kd.Rx HO554.out))) (Kd.R_lt (Kd.Rx HO558.out))) (below_size (Bs)))
          replace HO542 := Aside0.mk (Kd.R_elder' (Kd.Rx HO542.out) (Kd.R_base ho0) hb)
          replace HO546 := Aside0.mk (Kd.R_elder' (Kd.Rx HO546.out) (Kd.R_base ho0) hb)
          replace HO550 := Aside0.mk (Kd.R_elder' (Kd.Rx HO550.out) (Kd.R_base ho0) hb)
          replace HO554 := Aside0.mk (Kd.R_elder' (Kd.Rx HO554.out) (Kd.R_base ho0) hb)
          replace HO558 := Aside0.mk (Kd.R_elder' (Kd.Rx HO558.out) (Kd.R_base ho0) hb)
          replace BK536 := Aside0.mk (blk_below (Kx BK536.out) hb)
          replace BK537 := Aside0.mk (blk_below (Kx BK537.out) hb)
          replace BK538 := Aside0.mk (blk_below (Kx BK538.out) hb)
          replace BK559 := Aside0.mk (blk_below (Kx BK559.out) hb)
          replace BK580 := Aside0.mk (blk_below (Kx BK580.out) hb)
          replace HB := Aside0.mk (below_step (Bs) hb)
          (try clear hb)
          (try clear hb2)
          (try clear hk)
          (try clear hi)
          (try clear ho0)
          refine hK.out _ _ ⟨(blk_cell BK559.out 0).trans rfl, (blk_cell BK559.out 1).trans rfl, (blk_cell BK536.out 0).trans rfl, (blk_cell BK536.out 1).trans rfl, (blk_cell BK536.out 2).trans rfl, (blk_cell BK537.out 0).trans rfl, (blk_cell BK537.out 1).trans rfl, (blk_cell BK537.out 2).trans rfl⟩ (fun hHeld => ?_)
          clear hK K
          refine norm_ (a' := ?_) ?_ ?_
          rotate_left
          ·
           show Act.put _ (some 22) _ = _
           simp only [Act.put, List.setIfInBounds_toArray, List.set_cons_zero, List.set_cons_succ, i64_w, i32_w]
           rfl
          exact norm_ (by first | (simp only [putAll, Act.put, List.setIfInBounds_toArray, List.set_cons_zero, List.set_cons_succ]; done) | (simp only [putAll, Act.put, List.setIfInBounds_toArray, List.set_cons_zero, List.set_cons_succ]; rfl)) (hJ2_10 (_, gb580) _ ⟨hHeld, (Kd.Rm HO542.out), (Kd.Rm HO546.out), (Kd.Rm HO550.out), (Kd.Rm HO554.out), (Kd.Rm HO558.out), (Kd.Rm HO563.out), (Kx BK536.out), (Kx BK537.out), (Kx BK538.out), (Kx BK559.out), (Kx BK580.out), GW580.out, GE580.out, NB536_580.out, NB580_536.out, NB537_580.out, NB580_537.out, NB538_580.out, NB580_538.out, NB559_580.out, NB580_559.out, (Bs)⟩)
        ·
         skip
         rintro v562 w33 ⟨hS_, h0_, h1_, h2_, h3_, h4_, h5_, h6_, h7_, h8_, h9_, h10_⟩
         replace HO542 : Aside0 (Kd.R (Kd.int .u64) 96 w33 w.heap.size (fun k_ => nb k_ v545 ∧ nb k_ v549 ∧ nb k_ v553 ∧ nb k_ (.slice Ao28 t556.length co28) ∧ nb k_ v562) v541 t540) := ⟨h0_⟩
         replace HO546 : Aside0 (Kd.R (Kd.int .u64) 96 w33 w.heap.size (fun k_ => nb k_ v541 ∧ nb k_ v549 ∧ nb k_ v553 ∧ nb k_ (.slice Ao28 t556.length co28) ∧ nb k_ v562) v545 t544) := ⟨h1_⟩
         replace HO550 : Aside0 (Kd.R (Kd.int .u64) 96 w33 w.heap.size (fun k_ => nb k_ v541 ∧ nb k_ v545 ∧ nb k_ v553 ∧ nb k_ (.slice Ao28 t556.length co28) ∧ nb k_ v562) v549 t548) := ⟨h2_⟩
         replace HO554 : Aside0 (Kd.R (Kd.int .u64) 96 w33 w.heap.size (fun k_ => nb k_ v541 ∧ nb k_ v545 ∧ nb k_ v549 ∧ nb k_ (.slice Ao28 t556.length co28) ∧ nb k_ v562) v553 t552) := ⟨h3_⟩
         replace HO558 : Aside0 (Kd.R (Kd.int .u64) 96 w33 w.heap.size (fun k_ => nb k_ v541 ∧ nb k_ v545 ∧ nb k_ v549 ∧ nb k_ v553 ∧ nb k_ v562) (.slice Ao28 t556.length co28) t556) := ⟨h4_⟩
         have HO563 : Aside0 (Kd.R (Kd.int .u64) 96 w33 w.heap.size (fun k_ => nb k_ v541 ∧ nb k_ v545 ∧ nb k_ v549 ∧ nb k_ v553 ∧ nb k_ (.slice Ao28 t556.length co28)) v562 t561) := ⟨h5_⟩
         replace BK536 : Aside0 (w33.heap[gb536]? = some (.cells #[.bool a0_0, .slice A0_1 l0_1.length c0_1, .slice A0_2 l0_2.length c0_2] 34 (0, 0))) := ⟨h6_⟩
         replace BK537 : Aside0 (w33.heap[gb537]? = some (.cells #[.bool a1_0, .slice A1_1 l1_1.length c1_1, .slice A1_2 l1_2.length c1_2] 34 (0, 0))) := ⟨h7_⟩
         replace BK538 : Aside0 (w33.heap[gb538]? = some (.cells #[.bool false, .slice none 0 0, .slice none 0 0] 34 (0, 0))) := ⟨h8_⟩
         replace BK559 : Aside0 (w33.heap[gb559]? = some (.cells #[.bool t555, .slice Ao28 t556.length co28] 32 (0, 0))) := ⟨h9_⟩
         replace HB : Aside0 (Below w.heap.size w w33) := ⟨h10_⟩
         clear h0_ h1_ h2_ h3_ h4_ h5_ h6_ h7_ h8_ h9_ h10_
         have hHeld : w33.cell? ⟨gb559, 0, none⟩ = some (.bool t555) ∧ w33.cell? ⟨gb559, 1, none⟩ = some (.slice Ao28 t556.length co28) ∧ w33.cell? ⟨gb536, 0, none⟩ = some (.bool a0_0) ∧ w33.cell? ⟨gb536, 1, none⟩ = some (.slice A0_1 l0_1.length c0_1) ∧ w33.cell? ⟨gb536, 2, none⟩ = some (.slice A0_2 l0_2.length c0_2) ∧ w33.cell? ⟨gb537, 0, none⟩ = some (.bool a1_0) ∧ w33.cell? ⟨gb537, 1, none⟩ = some (.slice A1_1 l1_1.length c1_1) ∧ w33.cell? ⟨gb537, 2, none⟩ = some (.slice A1_2 l1_2.length c1_2) := hS_
         refine norm_ (a' := ?_) ?_ ?_
         rotate_left
         ·
          simp only [putAll, Act.put, List.setIfInBounds_toArray, List.set_cons_zero, List.set_cons_succ]
          rfl
         refine two_ (i := 4) (j := 10) (Ni := some 24) (Nj := some 6) #[true, true, true, true, true, false, false, false, false, false, false, false, false] #[true, true, true, true, false, false, false, false, false, false, true, false, false] rfl rfl rfl rfl (two_of HT_.out (by kernel_rfl)) (by decide) (by decide) (fun K hK => ?_) (fun K hK => ?_)
         ·
          skip
          refine goes_ Try.func66 (by kernel_rfl) rfl #[.agg #[.bool a1_0, .slice A1_1 l1_1.length c1_1, .slice A1_2 l1_2.length c1_2]] (by rfl) rfl rfl (by (try simp only [List.map_toArray, List.map_cons, List.map_nil]); first | done | rfl | (simp only [List.length_drop, List.length_take]; rfl)) ?_
          with_reducible refine (rat_up.calls k a1_0 _ _ l1_1 _ _ l1_2 t564 t565 _ ?side1 ?side2 ?side3 ?side4 A9.out).mono ?_
          (case side1 => exact Kd.Cx (Kd.C_below HR1_1.out HB.out))
          (case side2 => exact HC1_1.out)
          (case side3 => exact Kd.Cx (Kd.C_below HR1_2.out HB.out))
          (case side4 => exact HC1_2.out)
          rintro e w34 ⟨v566, rfl, ho0, hb⟩
          refine ⟨_, rfl, ?_⟩
          have HO567 := Aside0.mk (Kd.R_lower (Kd.R_new' (Kd.R_new' (Kd.R_new' (Kd.R_new' (Kd.R_new' (Kd.R_new' ho0 (Kd.R_lt (Kd.Rx HO542.out))) (Kd.R_lt (Kd.Rx HO546.out))) (Kd.R_lt (Kd.Rx HO550.out))) (Kd.R_lt (Kd.Rx HO554.out))) (Kd.R_lt (Kd.Rx HO558.out))) (Kd.R_lt (Kd.Rx HO563.out))) (below_size (Bs)))
          replace HO542 := Aside0.mk (Kd.R_elder' (Kd.Rx HO542.out) (Kd.R_base ho0) hb)
          replace HO546 := Aside0.mk (Kd.R_elder' (Kd.Rx HO546.out) (Kd.R_base ho0) hb)
          replace HO550 := Aside0.mk (Kd.R_elder' (Kd.Rx HO550.out) (Kd.R_base ho0) hb)
          replace HO554 := Aside0.mk (Kd.R_elder' (Kd.Rx HO554.out) (Kd.R_base ho0) hb)
          replace HO558 := Aside0.mk (Kd.R_elder' (Kd.Rx HO558.out) (Kd.R_base ho0) hb)
          replace HO563 := Aside0.mk (Kd.R_elder' (Kd.Rx HO563.out) (Kd.R_base ho0) hb)
          replace BK536 := Aside0.mk (blk_below (Kx BK536.out) hb)
          replace BK537 := Aside0.mk (blk_below (Kx BK537.out) hb)
          replace BK538 := Aside0.mk (blk_below (Kx BK538.out) hb)
          replace BK559 := Aside0.mk (blk_below (Kx BK559.out) hb)
          replace HB := Aside0.mk (below_step (Bs) hb)
          (try clear hb)
          (try clear hb2)
          (try clear hk)
          (try clear hi)
          (try clear ho0)
          refine hK.out _ _ ⟨(blk_cell BK559.out 0).trans rfl, (blk_cell BK559.out 1).trans rfl, (blk_cell BK536.out 0).trans rfl, (blk_cell BK536.out 1).trans rfl, (blk_cell BK536.out 2).trans rfl, (blk_cell BK537.out 0).trans rfl, (blk_cell BK537.out 1).trans rfl, (blk_cell BK537.out 2).trans rfl⟩ (fun hHeld => ?_)
          clear hK K
          refine norm_ (a' := ?_) ?_ ?_
          rotate_left
          ·
           show Act.put _ (some 24) _ = _
           simp only [Act.put, List.setIfInBounds_toArray, List.set_cons_zero, List.set_cons_succ, i64_w, i32_w]
           rfl
          exact norm_ (by first | (simp only [putAll, Act.put, List.setIfInBounds_toArray, List.set_cons_zero, List.set_cons_succ]; done) | (simp only [putAll, Act.put, List.setIfInBounds_toArray, List.set_cons_zero, List.set_cons_succ]; rfl)) (hJ2_4 (_, _) _ ⟨hHeld, (Kd.Rm HO542.out), (Kd.Rm HO546.out), (Kd.Rm HO550.out), (Kd.Rm HO554.out), (Kd.Rm HO558.out), (Kd.Rm HO563.out), (Kd.Rm HO567.out), (Kx BK536.out), (Kx BK537.out), (Kx BK538.out), (Kx BK559.out), (Bs)⟩)
         ·
          skip
          refine box_step ?hg (N := 6) ?hd (cs := #[.bool false, .slice none 0 0, .slice none 0 0]) (t := 34) ?hr ?_; (case hd => rfl); (case hg => rfl); (case hr => first | (go_simp; done) | (go_simp; rfl))
          intro gb580 hg w34 hbox hb
          have n0_ := Aside0.mk (Kd.R_below (Kd.Rx HO542.out) hb)
          have n1_ := Aside0.mk (Kd.R_below (Kd.Rx HO546.out) hb)
          have n2_ := Aside0.mk (Kd.R_below (Kd.Rx HO550.out) hb)
          have n3_ := Aside0.mk (Kd.R_below (Kd.Rx HO554.out) hb)
          have n4_ := Aside0.mk (Kd.R_below (Kd.Rx HO558.out) hb)
          have n5_ := Aside0.mk (Kd.R_below (Kd.Rx HO563.out) hb)
          have n6_ := Aside0.mk (blk_below (Kx BK536.out) hb)
          have n7_ := Aside0.mk (blk_below (Kx BK537.out) hb)
          have n8_ := Aside0.mk (blk_below (Kx BK538.out) hb)
          have n9_ := Aside0.mk (blk_below (Kx BK559.out) hb)
          have n10_ := Aside0.mk (below_step (Bs) hb)
          have n11_ := Aside0.mk (hbox)
          have n12_ := Aside0.mk ((by rw [hg]; exact (below_size (Bs)) : w.heap.size ≤ gb580))
          have n13_ := Aside0.mk ((by rw [hg]; exact (below_size (Bs)) : w.heap.size ≤ gb580))
          have n14_ := Aside0.mk ((by rw [hg]; exact Nat.ne_of_lt (blk_lt (Kx BK536.out)) : gb536 ≠ gb580))
          have n15_ := Aside0.mk ((by rw [hg]; exact Nat.ne_of_gt (blk_lt (Kx BK536.out)) : gb580 ≠ gb536))
          have n16_ := Aside0.mk ((by rw [hg]; exact Nat.ne_of_lt (blk_lt (Kx BK537.out)) : gb537 ≠ gb580))
          have n17_ := Aside0.mk ((by rw [hg]; exact Nat.ne_of_gt (blk_lt (Kx BK537.out)) : gb580 ≠ gb537))
          have n18_ := Aside0.mk ((by rw [hg]; exact Nat.ne_of_lt (blk_lt (Kx BK538.out)) : gb538 ≠ gb580))
          have n19_ := Aside0.mk ((by rw [hg]; exact Nat.ne_of_gt (blk_lt (Kx BK538.out)) : gb580 ≠ gb538))
          have n20_ := Aside0.mk ((by rw [hg]; exact Nat.ne_of_lt (blk_lt (Kx BK559.out)) : gb559 ≠ gb580))
          have n21_ := Aside0.mk ((by rw [hg]; exact Nat.ne_of_gt (blk_lt (Kx BK559.out)) : gb580 ≠ gb559))
          clear HO542
          clear HO546
          clear HO550
          clear HO554
          clear HO558
          clear HO563
          clear BK536
          clear BK537
          clear BK538
          clear BK559
          clear HB
          have HO542 := n0_
          have HO546 := n1_
          have HO550 := n2_
          have HO554 := n3_
          have HO558 := n4_
          have HO563 := n5_
          have BK536 := n6_
          have BK537 := n7_
          have BK538 := n8_
          have BK559 := n9_
          have HB := n10_
          have BK580 := n11_
          have GW580 := n12_
          have GE580 := n13_
          have NB536_580 := n14_
          have NB580_536 := n15_
          have NB537_580 := n16_
          have NB580_537 := n17_
          have NB538_580 := n18_
          have NB580_538 := n19_
          have NB559_580 := n20_
          have NB580_559 := n21_
          clear n0_ n1_ n2_ n3_ n4_ n5_ n6_ n7_ n8_ n9_ n10_ n11_ n12_ n13_ n14_ n15_ n16_ n17_ n18_ n19_ n20_ n21_
          clear hb hbox hg
          refine hK.out _ _ ⟨(blk_cell BK559.out 0).trans rfl, (blk_cell BK559.out 1).trans rfl, (blk_cell BK536.out 0).trans rfl, (blk_cell BK536.out 1).trans rfl, (blk_cell BK536.out 2).trans rfl, (blk_cell BK537.out 0).trans rfl, (blk_cell BK537.out 1).trans rfl, (blk_cell BK537.out 2).trans rfl⟩ (fun hHeld => ?_)
          clear hK K
          refine norm_ (a' := ?_) ?_ ?_
          rotate_left
          ·
           show Act.put _ (some 6) _ = _
           simp only [Act.put, List.setIfInBounds_toArray, List.set_cons_zero, List.set_cons_succ, i64_w, i32_w]
           rfl
          exact norm_ (by first | (simp only [putAll, Act.put, List.setIfInBounds_toArray, List.set_cons_zero, List.set_cons_succ]; done) | (simp only [putAll, Act.put, List.setIfInBounds_toArray, List.set_cons_zero, List.set_cons_succ]; rfl)) (hJ2_10 (_, gb580) _ ⟨hHeld, (Kd.Rx HO542.out), (Kd.Rx HO546.out), (Kd.Rx HO550.out), (Kd.Rx HO554.out), (Kd.Rx HO558.out), (Kd.Rx HO563.out), (Kx BK536.out), (Kx BK537.out), (Kx BK538.out), (Kx BK559.out), (Kx BK580.out), GW580.out, GE580.out, NB536_580.out, NB580_536.out, NB537_580.out, NB580_537.out, NB538_580.out, NB580_538.out, NB559_580.out, NB580_559.out, (Bs)⟩)
       ·
        skip
        rintro ⟨v562, gb580⟩ w34 ⟨hS_, h0_, h1_, h2_, h3_, h4_, h5_, h6_, h7_, h8_, h9_, h10_, h11_, h12_, h13_, h14_, h15_, h16_, h17_, h18_, h19_, h20_, h21_⟩
        replace HO542 : Aside0 (Kd.R (Kd.int .u64) 96 w34 w.heap.size (fun k_ => nb k_ v545 ∧ nb k_ v549 ∧ nb k_ v553 ∧ nb k_ (.slice Ao28 t556.length co28) ∧ nb k_ v562) v541 t540) := ⟨h0_⟩
        replace HO546 : Aside0 (Kd.R (Kd.int .u64) 96 w34 w.heap.size (fun k_ => nb k_ v541 ∧ nb k_ v549 ∧ nb k_ v553 ∧ nb k_ (.slice Ao28 t556.length co28) ∧ nb k_ v562) v545 t544) := ⟨h1_⟩
        replace HO550 : Aside0 (Kd.R (Kd.int .u64) 96 w34 w.heap.size (fun k_ => nb k_ v541 ∧ nb k_ v545 ∧ nb k_ v553 ∧ nb k_ (.slice Ao28 t556.length co28) ∧ nb k_ v562) v549 t548) := ⟨h2_⟩
        replace HO554 : Aside0 (Kd.R (Kd.int .u64) 96 w34 w.heap.size (fun k_ => nb k_ v541 ∧ nb k_ v545 ∧ nb k_ v549 ∧ nb k_ (.slice Ao28 t556.length co28) ∧ nb k_ v562) v553 t552) := ⟨h3_⟩
        replace HO558 : Aside0 (Kd.R (Kd.int .u64) 96 w34 w.heap.size (fun k_ => nb k_ v541 ∧ nb k_ v545 ∧ nb k_ v549 ∧ nb k_ v553 ∧ nb k_ v562) (.slice Ao28 t556.length co28) t556) := ⟨h4_⟩
        have HO563 : Aside0 (Kd.R (Kd.int .u64) 96 w34 w.heap.size (fun k_ => nb k_ v541 ∧ nb k_ v545 ∧ nb k_ v549 ∧ nb k_ v553 ∧ nb k_ (.slice Ao28 t556.length co28)) v562 t561) := ⟨h5_⟩
        replace BK536 : Aside0 (w34.heap[gb536]? = some (.cells #[.bool a0_0, .slice A0_1 l0_1.length c0_1, .slice A0_2 l0_2.length c0_2] 34 (0, 0))) := ⟨h6_⟩
        replace BK537 : Aside0 (w34.heap[gb537]? = some (.cells #[.bool a1_0, .slice A1_1 l1_1.length c1_1, .slice A1_2 l1_2.length c1_2] 34 (0, 0))) := ⟨h7_⟩
        replace BK538 : Aside0 (w34.heap[gb538]? = some (.cells #[.bool false, .slice none 0 0, .slice none 0 0] 34 (0, 0))) := ⟨h8_⟩
        replace BK559 : Aside0 (w34.heap[gb559]? = some (.cells #[.bool t555, .slice Ao28 t556.length co28] 32 (0, 0))) := ⟨h9_⟩
        have BK580 : Aside0 (w34.heap[gb580]? = some (.cells #[.bool false, .slice none 0 0, .slice none 0 0] 34 (0, 0))) := ⟨h10_⟩
        have GW580 : Aside0 (w.heap.size ≤ gb580) := ⟨h11_⟩
        have GE580 : Aside0 (w.heap.size ≤ gb580) := ⟨h12_⟩
        have NB536_580 : Aside0 (gb536 ≠ gb580) := ⟨h13_⟩
        have NB580_536 : Aside0 (gb580 ≠ gb536) := ⟨h14_⟩
        have NB537_580 : Aside0 (gb537 ≠ gb580) := ⟨h15_⟩
        have NB580_537 : Aside0 (gb580 ≠ gb537) := ⟨h16_⟩
        have NB538_580 : Aside0 (gb538 ≠ gb580) := ⟨h17_⟩
        have NB580_538 : Aside0 (gb580 ≠ gb538) := ⟨h18_⟩
        have NB559_580 : Aside0 (gb559 ≠ gb580) := ⟨h19_⟩
        have NB580_559 : Aside0 (gb580 ≠ gb559) := ⟨h20_⟩
        replace HB : Aside0 (Below w.heap.size w w34) := ⟨h21_⟩
        clear h0_ h1_ h2_ h3_ h4_ h5_ h6_ h7_ h8_ h9_ h10_ h11_ h12_ h13_ h14_ h15_ h16_ h17_ h18_ h19_ h20_ h21_
        have hHeld : w34.cell? ⟨gb559, 0, none⟩ = some (.bool t555) ∧ w34.cell? ⟨gb559, 1, none⟩ = some (.slice Ao28 t556.length co28) ∧ w34.cell? ⟨gb536, 0, none⟩ = some (.bool a0_0) ∧ w34.cell? ⟨gb536, 1, none⟩ = some (.slice A0_1 l0_1.length c0_1) ∧ w34.cell? ⟨gb536, 2, none⟩ = some (.slice A0_2 l0_2.length c0_2) ∧ w34.cell? ⟨gb537, 0, none⟩ = some (.bool a1_0) ∧ w34.cell? ⟨gb537, 1, none⟩ = some (.slice A1_1 l1_1.length c1_1) ∧ w34.cell? ⟨gb537, 2, none⟩ = some (.slice A1_2 l1_2.length c1_2) := hS_
        refine norm_ (a' := ?_) ?_ ?_
        rotate_left
        ·
         simp only [putAll, Act.put, List.setIfInBounds_toArray, List.set_cons_zero, List.set_cons_succ]
         rfl
        refine one_ (i := 4) (N := some 24) #[true, true, true, true, true, false, false, false, false, false, true, false, false] rfl rfl (one_of HT_.out (by kernel_rfl)) (by decide) (fun K hK => ?_)
        refine goes_ Try.func66 (by kernel_rfl) rfl #[.agg #[.bool a1_0, .slice A1_1 l1_1.length c1_1, .slice A1_2 l1_2.length c1_2]] (by rfl) rfl rfl (by (try simp only [List.map_toArray, List.map_cons, List.map_nil]); first | done | rfl | (simp only [List.length_drop, List.length_take]; rfl)) ?_
        with_reducible refine (rat_up.calls k a1_0 _ _ l1_1 _ _ l1_2 t564 t565 _ ?side1 ?side2 ?side3 ?side4 A9.out).mono ?_
        (case side1 => exact Kd.Cx (Kd.C_below HR1_1.out HB.out))
        (case side2 => exact HC1_1.out)
        (case side3 => exact Kd.Cx (Kd.C_below HR1_2.out HB.out))
        (case side4 => exact HC1_2.out)
        rintro e w35 ⟨v566, rfl, ho0, hb⟩
        refine ⟨_, rfl, ?_⟩
        have HO567 := Aside0.mk (Kd.R_lower (Kd.R_new' (Kd.R_new' (Kd.R_new' (Kd.R_new' (Kd.R_new' (Kd.R_new' ho0 (Kd.R_lt (Kd.Rx HO542.out))) (Kd.R_lt (Kd.Rx HO546.out))) (Kd.R_lt (Kd.Rx HO550.out))) (Kd.R_lt (Kd.Rx HO554.out))) (Kd.R_lt (Kd.Rx HO558.out))) (Kd.R_lt (Kd.Rx HO563.out))) (below_size (Bs)))
        replace HO542 := Aside0.mk (Kd.R_elder' (Kd.Rx HO542.out) (Kd.R_base ho0) hb)
        replace HO546 := Aside0.mk (Kd.R_elder' (Kd.Rx HO546.out) (Kd.R_base ho0) hb)
        replace HO550 := Aside0.mk (Kd.R_elder' (Kd.Rx HO550.out) (Kd.R_base ho0) hb)
        replace HO554 := Aside0.mk (Kd.R_elder' (Kd.Rx HO554.out) (Kd.R_base ho0) hb)
        replace HO558 := Aside0.mk (Kd.R_elder' (Kd.Rx HO558.out) (Kd.R_base ho0) hb)
        replace HO563 := Aside0.mk (Kd.R_elder' (Kd.Rx HO563.out) (Kd.R_base ho0) hb)
        replace BK536 := Aside0.mk (blk_below (Kx BK536.out) hb)
        replace BK537 := Aside0.mk (blk_below (Kx BK537.out) hb)
        replace BK538 := Aside0.mk (blk_below (Kx BK538.out) hb)
        replace BK559 := Aside0.mk (blk_below (Kx BK559.out) hb)
        replace BK580 := Aside0.mk (blk_below (Kx BK580.out) hb)
        replace HB := Aside0.mk (below_step (Bs) hb)
        (try clear hb)
        (try clear hb2)
        (try clear hk)
        (try clear hi)
        (try clear ho0)
        refine hK.out _ _ ⟨(blk_cell BK559.out 0).trans rfl, (blk_cell BK559.out 1).trans rfl, (blk_cell BK536.out 0).trans rfl, (blk_cell BK536.out 1).trans rfl, (blk_cell BK536.out 2).trans rfl, (blk_cell BK537.out 0).trans rfl, (blk_cell BK537.out 1).trans rfl, (blk_cell BK537.out 2).trans rfl⟩ (fun hHeld => ?_)
        clear hK K
        refine norm_ (a' := ?_) ?_ ?_
        rotate_left
        ·
         show Act.put _ (some 24) _ = _
         simp only [Act.put, List.setIfInBounds_toArray, List.set_cons_zero, List.set_cons_succ, i64_w, i32_w]
         rfl
        exact norm_ (by first | (simp only [putAll, Act.put, List.setIfInBounds_toArray, List.set_cons_zero, List.set_cons_succ]; done) | (simp only [putAll, Act.put, List.setIfInBounds_toArray, List.set_cons_zero, List.set_cons_succ]; rfl)) (hJ2_4_10 (_, _, gb580) _ ⟨hHeld, (Kd.Rm HO542.out), (Kd.Rm HO546.out), (Kd.Rm HO550.out), (Kd.Rm HO554.out), (Kd.Rm HO558.out), (Kd.Rm HO563.out), (Kd.Rm HO567.out), (Kx BK536.out), (Kx BK537.out), (Kx BK538.out), (Kx BK559.out), (Kx BK580.out), GW580.out, GE580.out, NB536_580.out, NB580_536.out, NB537_580.out, NB580_537.out, NB538_580.out, NB580_538.out, NB559_580.out, NB580_559.out, (Bs)⟩)
      ·
       skip
       rintro ⟨v562, v566⟩ w34 ⟨hS_, h0_, h1_, h2_, h3_, h4_, h5_, h6_, h7_, h8_, h9_, h10_, h11_⟩
       replace HO542 : Aside0 (Kd.R (Kd.int .u64) 96 w34 w.heap.size (fun k_ => nb k_ v545 ∧ nb k_ v549 ∧ nb k_ v553 ∧ nb k_ (.slice Ao28 t556.length co28) ∧ nb k_ v562 ∧ nb k_ v566) v541 t540) := ⟨h0_⟩
       replace HO546 : Aside0 (Kd.R (Kd.int .u64) 96 w34 w.heap.size (fun k_ => nb k_ v541 ∧ nb k_ v549 ∧ nb k_ v553 ∧ nb k_ (.slice Ao28 t556.length co28) ∧ nb k_ v562 ∧ nb k_ v566) v545 t544) := ⟨h1_⟩
       replace HO550 : Aside0 (Kd.R (Kd.int .u64) 96 w34 w.heap.size (fun k_ => nb k_ v541 ∧ nb k_ v545 ∧ nb k_ v553 ∧ nb k_ (.slice Ao28 t556.length co28) ∧ nb k_ v562 ∧ nb k_ v566) v549 t548) := ⟨h2_⟩
       replace HO554 : Aside0 (Kd.R (Kd.int .u64) 96 w34 w.heap.size (fun k_ => nb k_ v541 ∧ nb k_ v545 ∧ nb k_ v549 ∧ nb k_ (.slice Ao28 t556.length co28) ∧ nb k_ v562 ∧ nb k_ v566) v553 t552) := ⟨h3_⟩
       replace HO558 : Aside0 (Kd.R (Kd.int .u64) 96 w34 w.heap.size (fun k_ => nb k_ v541 ∧ nb k_ v545 ∧ nb k_ v549 ∧ nb k_ v553 ∧ nb k_ v562 ∧ nb k_ v566) (.slice Ao28 t556.length co28) t556) := ⟨h4_⟩
       have HO563 : Aside0 (Kd.R (Kd.int .u64) 96 w34 w.heap.size (fun k_ => nb k_ v541 ∧ nb k_ v545 ∧ nb k_ v549 ∧ nb k_ v553 ∧ nb k_ (.slice Ao28 t556.length co28) ∧ nb k_ v566) v562 t561) := ⟨h5_⟩
       have HO567 : Aside0 (Kd.R (Kd.int .u64) 96 w34 w.heap.size (fun k_ => nb k_ v541 ∧ nb k_ v545 ∧ nb k_ v549 ∧ nb k_ v553 ∧ nb k_ (.slice Ao28 t556.length co28) ∧ nb k_ v562) v566 t565) := ⟨h6_⟩
       replace BK536 : Aside0 (w34.heap[gb536]? = some (.cells #[.bool a0_0, .slice A0_1 l0_1.length c0_1, .slice A0_2 l0_2.length c0_2] 34 (0, 0))) := ⟨h7_⟩
       replace BK537 : Aside0 (w34.heap[gb537]? = some (.cells #[.bool a1_0, .slice A1_1 l1_1.length c1_1, .slice A1_2 l1_2.length c1_2] 34 (0, 0))) := ⟨h8_⟩
       replace BK538 : Aside0 (w34.heap[gb538]? = some (.cells #[.bool false, .slice none 0 0, .slice none 0 0] 34 (0, 0))) := ⟨h9_⟩
       replace BK559 : Aside0 (w34.heap[gb559]? = some (.cells #[.bool t555, .slice Ao28 t556.length co28] 32 (0, 0))) := ⟨h10_⟩
       replace HB : Aside0 (Below w.heap.size w w34) := ⟨h11_⟩
       clear h0_ h1_ h2_ h3_ h4_ h5_ h6_ h7_ h8_ h9_ h10_ h11_
       have hHeld : w34.cell? ⟨gb559, 0, none⟩ = some (.bool t555) ∧ w34.cell? ⟨gb559, 1, none⟩ = some (.slice Ao28 t556.length co28) ∧ w34.cell? ⟨gb536, 0, none⟩ = some (.bool a0_0) ∧ w34.cell? ⟨gb536, 1, none⟩ = some (.slice A0_1 l0_1.length c0_1) ∧ w34.cell? ⟨gb536, 2, none⟩ = some (.slice A0_2 l0_2.length c0_2) ∧ w34.cell? ⟨gb537, 0, none⟩ = some (.bool a1_0) ∧ w34.cell? ⟨gb537, 1, none⟩ = some (.slice A1_1 l1_1.length c1_1) ∧ w34.cell? ⟨gb537, 2, none⟩ = some (.slice A1_2 l1_2.length c1_2) := hS_
       obtain ⟨Ao35, co35, eo35⟩ := Kd.R_slice HO563.out
       (first | subst eo35 | (injection eo35 with f1_ f2_ f3_; have f4_ := f1_.symm; have f5_ := f3_.symm; clear f1_ f2_ f3_; subst f4_; subst f5_))
       obtain ⟨Ao36, co36, eo36⟩ := Kd.R_slice HO567.out
       (first | subst eo36 | (injection eo36 with f1_ f2_ f3_; have f4_ := f1_.symm; have f5_ := f3_.symm; clear f1_ f2_ f3_; subst f4_; subst f5_))
       refine norm_ (a' := ?_) ?_ ?_
       rotate_left
       ·
        simp only [putAll, Act.put, List.setIfInBounds_toArray, List.set_cons_zero, List.set_cons_succ]
        rfl
       refine two_ (i := 5) (j := 10) (Ni := some 25) (Nj := some 6) #[true, true, true, true, true, true, false, false, false, false, false, false, false] #[true, true, true, true, true, false, false, false, false, false, true, false, false] rfl rfl rfl rfl (two_of HT_.out (by kernel_rfl)) (by decide) (by decide) (fun K hK => ?_) (fun K hK => ?_)
       ·
        skip
        refine goes_ Try.func65 (by kernel_rfl) rfl #[.agg #[.bool t560, .slice Ao35 t561.length co35], .agg #[.bool t564, .slice Ao36 t565.length co36]] (by rfl) rfl rfl (by (try simp only [List.map_toArray, List.map_cons, List.map_nil]); first | done | rfl | (simp only [List.length_drop, List.length_take]; rfl)) ?_
        with_reducible refine (whole_Mul.calls k t560 _ _ t561 t564 _ _ t565 t568 t569 _ ?side1 ?side2 ?side3 ?side4 A10.out).mono ?_
        (case side1 => exact Kd.Cx (Kd.R_reads' HO563.out).2.2)
        (case side2 => exact (Kd.R_reads' HO563.out).2.1)
        (case side3 => exact Kd.Cx (Kd.R_reads' HO567.out).2.2)
        (case side4 => exact (Kd.R_reads' HO567.out).2.1)
        rintro e w37 ⟨v570, rfl, ho0, hb⟩
        refine ⟨_, rfl, ?_⟩
        have HO571 := Aside0.mk (Kd.R_lower (Kd.R_new' (Kd.R_new' (Kd.R_new' (Kd.R_new' (Kd.R_new' (Kd.R_new' (Kd.R_new' ho0 (Kd.R_lt (Kd.Rx HO542.out))) (Kd.R_lt (Kd.Rx HO546.out))) (Kd.R_lt (Kd.Rx HO550.out))) (Kd.R_lt (Kd.Rx HO554.out))) (Kd.R_lt (Kd.Rx HO558.out))) (Kd.R_lt (Kd.Rx HO563.out))) (Kd.R_lt (Kd.Rx HO567.out))) (below_size (Bs)))
        replace HO542 := Aside0.mk (Kd.R_elder' (Kd.Rx HO542.out) (Kd.R_base ho0) hb)
        replace HO546 := Aside0.mk (Kd.R_elder' (Kd.Rx HO546.out) (Kd.R_base ho0) hb)
        replace HO550 := Aside0.mk (Kd.R_elder' (Kd.Rx HO550.out) (Kd.R_base ho0) hb)
        replace HO554 := Aside0.mk (Kd.R_elder' (Kd.Rx HO554.out) (Kd.R_base ho0) hb)
        replace HO558 := Aside0.mk (Kd.R_elder' (Kd.Rx HO558.out) (Kd.R_base ho0) hb)
        replace HO563 := Aside0.mk (Kd.R_elder' (Kd.Rx HO563.out) (Kd.R_base ho0) hb)
        replace HO567 := Aside0.mk (Kd.R_elder' (Kd.Rx HO567.out) (Kd.R_base ho0) hb)
        replace BK536 := Aside0.mk (blk_below (Kx BK536.out) hb)
        replace BK537 := Aside0.mk (blk_below (Kx BK537.out) hb)
        replace BK538 := Aside0.mk (blk_below (Kx BK538.out) hb)
        replace BK559 := Aside0.mk (blk_below (Kx BK559.out) hb)
        replace HB := Aside0.mk (below_step (Bs) hb)
        (try clear hb)
        (try clear hb2)
        (try clear hk)
        (try clear hi)
        (try clear ho0)
        refine hK.out _ _ ⟨(blk_cell BK559.out 0).trans rfl, (blk_cell BK559.out 1).trans rfl, (blk_cell BK536.out 0).trans rfl, (blk_cell BK536.out 1).trans rfl, (blk_cell BK536.out 2).trans rfl, (blk_cell BK537.out 0).trans rfl, (blk_cell BK537.out 1).trans rfl, (blk_cell BK537.out 2).trans rfl⟩ (fun hHeld => ?_)
        clear hK K
        refine norm_ (a' := ?_) ?_ ?_
        rotate_left
        ·
         show Act.put _ (some 25) _ = _
         simp only [Act.put, List.setIfInBounds_toArray, List.set_cons_zero, List.set_cons_succ, i64_w, i32_w]
         rfl
        exact norm_ (by first | (simp only [putAll, Act.put, List.setIfInBounds_toArray, List.set_cons_zero, List.set_cons_succ]; done) | (simp only [putAll, Act.put, List.setIfInBounds_toArray, List.set_cons_zero, List.set_cons_succ]; rfl)) (hJ2_4_5 (.slice Ao35 t561.length co35, .slice Ao36 t565.length co36, _) _ ⟨hHeld, (Kd.Rm HO542.out), (Kd.Rm HO546.out), (Kd.Rm HO550.out), (Kd.Rm HO554.out), (Kd.Rm HO558.out), (Kd.Rm HO563.out), (Kd.Rm HO567.out), (Kd.Rm HO571.out), (Kx BK536.out), (Kx BK537.out), (Kx BK538.out), (Kx BK559.out), (Bs)⟩)
       ·
        skip
        refine box_step ?hg (N := 6) ?hd (cs := #[.bool false, .slice none 0 0, .slice none 0 0]) (t := 34) ?hr ?_; (case hd => rfl); (case hg => rfl); (case hr => first | (go_simp; done) | (go_simp; rfl))
        intro gb580 hg w35 hbox hb
        have n0_ := Aside0.mk (Kd.R_below (Kd.Rx HO542.out) hb)
        have n1_ := Aside0.mk (Kd.R_below (Kd.Rx HO546.out) hb)
        have n2_ := Aside0.mk (Kd.R_below (Kd.Rx HO550.out) hb)
        have n3_ := Aside0.mk (Kd.R_below (Kd.Rx HO554.out) hb)
        have n4_ := Aside0.mk (Kd.R_below (Kd.Rx HO558.out) hb)
        have n5_ := Aside0.mk (Kd.R_below (Kd.Rx HO563.out) hb)
        have n6_ := Aside0.mk (Kd.R_below (Kd.Rx HO567.out) hb)
        have n7_ := Aside0.mk (blk_below (Kx BK536.out) hb)
        have n8_ := Aside0.mk (blk_below (Kx BK537.out) hb)
        have n9_ := Aside0.mk (blk_below (Kx BK538.out) hb)
        have n10_ := Aside0.mk (blk_below (Kx BK559.out) hb)
        have n11_ := Aside0.mk (below_step (Bs) hb)
        have n12_ := Aside0.mk (hbox)
        have n13_ := Aside0.mk ((by rw [hg]; exact (below_size (Bs)) : w.heap.size ≤ gb580))
        have n14_ := Aside0.mk ((by rw [hg]; exact (below_size (Bs)) : w.heap.size ≤ gb580))
        have n15_ := Aside0.mk ((by rw [hg]; exact Nat.ne_of_lt (blk_lt (Kx BK536.out)) : gb536 ≠ gb580))
        have n16_ := Aside0.mk ((by rw [hg]; exact Nat.ne_of_gt (blk_lt (Kx BK536.out)) : gb580 ≠ gb536))
        have n17_ := Aside0.mk ((by rw [hg]; exact Nat.ne_of_lt (blk_lt (Kx BK537.out)) : gb537 ≠ gb580))
        have n18_ := Aside0.mk ((by rw [hg]; exact Nat.ne_of_gt (blk_lt (Kx BK537.out)) : gb580 ≠ gb537))
        have n19_ := Aside0.mk ((by rw [hg]; exact Nat.ne_of_lt (blk_lt (Kx BK538.out)) : gb538 ≠ gb580))
        have n20_ := Aside0.mk ((by rw [hg]; exact Nat.ne_of_gt (blk_lt (Kx BK538.out)) : gb580 ≠ gb538))
        have n21_ := Aside0.mk ((by rw [hg]; exact Nat.ne_of_lt (blk_lt (Kx BK559.out)) : gb559 ≠ gb580))
        have n22_ := Aside0.mk ((by rw [hg]; exact Nat.ne_of_gt (blk_lt (Kx BK559.out)) : gb580 ≠ gb559))
        clear HO542
        clear HO546
        clear HO550
        clear HO554
        clear HO558
        clear HO563
        clear HO567
        clear BK536
        clear BK537
        clear BK538
        clear BK559
        clear HB
        have HO542 := n0_
        have HO546 := n1_
        have HO550 := n2_
        have HO554 := n3_
        have HO558 := n4_
        have HO563 := n5_
        have HO567 := n6_
        have BK536 := n7_
        have BK537 := n8_
        have BK538 := n9_
        have BK559 := n10_
        have HB := n11_
        have BK580 := n12_
        have GW580 := n13_
        have GE580 := n14_
        have NB536_580 := n15_
        have NB580_536 := n16_
        have NB537_580 := n17_
        have NB580_537 := n18_
        have NB538_580 := n19_
        have NB580_538 := n20_
        have NB559_580 := n21_
        have NB580_559 := n22_
        clear n0_ n1_ n2_ n3_ n4_ n5_ n6_ n7_ n8_ n9_ n10_ n11_ n12_ n13_ n14_ n15_ n16_ n17_ n18_ n19_ n20_ n21_ n22_
        clear hb hbox hg
        refine hK.out _ _ ⟨(blk_cell BK559.out 0).trans rfl, (blk_cell BK559.out 1).trans rfl, (blk_cell BK536.out 0).trans rfl, (blk_cell BK536.out 1).trans rfl, (blk_cell BK536.out 2).trans rfl, (blk_cell BK537.out 0).trans rfl, (blk_cell BK537.out 1).trans rfl, (blk_cell BK537.out 2).trans rfl⟩ (fun hHeld => ?_)
        clear hK K
        refine norm_ (a' := ?_) ?_ ?_
        rotate_left
        ·
         show Act.put _ (some 6) _ = _
         simp only [Act.put, List.setIfInBounds_toArray, List.set_cons_zero, List.set_cons_succ, i64_w, i32_w]
         rfl
        exact norm_ (by first | (simp only [putAll, Act.put, List.setIfInBounds_toArray, List.set_cons_zero, List.set_cons_succ]; done) | (simp only [putAll, Act.put, List.setIfInBounds_toArray, List.set_cons_zero, List.set_cons_succ]; rfl)) (hJ2_4_10 (_, _, gb580) _ ⟨hHeld, (Kd.Rx HO542.out), (Kd.Rx HO546.out), (Kd.Rx HO550.out), (Kd.Rx HO554.out), (Kd.Rx HO558.out), (Kd.Rx HO563.out), (Kd.Rx HO567.out), (Kx BK536.out), (Kx BK537.out), (Kx BK538.out), (Kx BK559.out), (Kx BK580.out), GW580.out, GE580.out, NB536_580.out, NB580_536.out, NB537_580.out, NB580_537.out, NB538_580.out, NB580_538.out, NB559_580.out, NB580_559.out, (Bs)⟩)
     ·
      skip
      rintro ⟨v562, v566, gb580⟩ w35 ⟨hS_, h0_, h1_, h2_, h3_, h4_, h5_, h6_, h7_, h8_, h9_, h10_, h11_, h12_, h13_, h14_, h15_, h16_, h17_, h18_, h19_, h20_, h21_, h22_⟩
      replace HO542 : Aside0 (Kd.R (Kd.int .u64) 96 w35 w.heap.size (fun k_ => nb k_ v545 ∧ nb k_ v549 ∧ nb k_ v553 ∧ nb k_ (.slice Ao28 t556.length co28) ∧ nb k_ v562 ∧ nb k_ v566) v541 t540) := ⟨h0_⟩
      replace HO546 : Aside0 (Kd.R (Kd.int .u64) 96 w35 w.heap.size (fun k_ => nb k_ v541 ∧ nb k_ v549 ∧ nb k_ v553 ∧ nb k_ (.slice Ao28 t556.length co28) ∧ nb k_ v562 ∧ nb k_ v566) v545 t544) := ⟨h1_⟩
      replace HO550 : Aside0 (Kd.R (Kd.int .u64) 96 w35 w.heap.size (fun k_ => nb k_ v541 ∧ nb k_ v545 ∧ nb k_ v553 ∧ nb k_ (.slice Ao28 t556.length co28) ∧ nb k_ v562 ∧ nb k_ v566) v549 t548) := ⟨h2_⟩
      replace HO554 : Aside0 (Kd.R (Kd.int .u64) 96 w35 w.heap.size (fun k_ => nb k_ v541 ∧ nb k_ v545 ∧ nb k_ v549 ∧ nb k_ (.slice Ao28 t556.length co28) ∧ nb k_ v562 ∧ nb k_ v566) v553 t552) := ⟨h3_⟩
      replace HO558 : Aside0 (Kd.R (Kd.int .u64) 96 w35 w.heap.size (fun k_ => nb k_ v541 ∧ nb k_ v545 ∧ nb k_ v549 ∧ nb k_ v553 ∧ nb k_ v562 ∧ nb k_ v566) (.slice Ao28 t556.length co28) t556) := ⟨h4_⟩
      have HO563 : Aside0 (Kd.R (Kd.int .u64) 96 w35 w.heap.size (fun k_ => nb k_ v541 ∧ nb k_ v545 ∧ nb k_ v549 ∧ nb k_ v553 ∧ nb k_ (.slice Ao28 t556.length co28) ∧ nb k_ v566) v562 t561) := ⟨h5_⟩
      have HO567 : Aside0 (Kd.R (Kd.int .u64) 96 w35 w.heap.size (fun k_ => nb k_ v541 ∧ nb k_ v545 ∧ nb k_ v549 ∧ nb k_ v553 ∧ nb k_ (.slice Ao28 t556.length co28) ∧ nb k_ v562) v566 t565) := ⟨h6_⟩
      replace BK536 : Aside0 (w35.heap[gb536]? = some (.cells #[.bool a0_0, .slice A0_1 l0_1.length c0_1, .slice A0_2 l0_2.length c0_2] 34 (0, 0))) := ⟨h7_⟩
      replace BK537 : Aside0 (w35.heap[gb537]? = some (.cells #[.bool a1_0, .slice A1_1 l1_1.length c1_1, .slice A1_2 l1_2.length c1_2] 34 (0, 0))) := ⟨h8_⟩
      replace BK538 : Aside0 (w35.heap[gb538]? = some (.cells #[.bool false, .slice none 0 0, .slice none 0 0] 34 (0, 0))) := ⟨h9_⟩
      replace BK559 : Aside0 (w35.heap[gb559]? = some (.cells #[.bool t555, .slice Ao28 t556.length co28] 32 (0, 0))) := ⟨h10_⟩
      have BK580 : Aside0 (w35.heap[gb580]? = some (.cells #[.bool false, .slice none 0 0, .slice none 0 0] 34 (0, 0))) := ⟨h11_⟩
      have GW580 : Aside0 (w.heap.size ≤ gb580) := ⟨h12_⟩
      have GE580 : Aside0 (w.heap.size ≤ gb580) := ⟨h13_⟩
      have NB536_580 : Aside0 (gb536 ≠ gb580) := ⟨h14_⟩
      have NB580_536 : Aside0 (gb580 ≠ gb536) := ⟨h15_⟩
      have NB537_580 : Aside0 (gb537 ≠ gb580) := ⟨h16_⟩
      have NB580_537 : Aside0 (gb580 ≠ gb537) := ⟨h17_⟩
      have NB538_580 : Aside0 (gb538 ≠ gb580) := ⟨h18_⟩
      have NB580_538 : Aside0 (gb580 ≠ gb538) := ⟨h19_⟩
      have NB559_580 : Aside0 (gb559 ≠ gb580) := ⟨h20_⟩
      have NB580_559 : Aside0 (gb580 ≠ gb559) := ⟨h21_⟩
      replace HB : Aside0 (Below w.heap.size w w35) := ⟨h22_⟩
      clear h0_ h1_ h2_ h3_ h4_ h5_ h6_ h7_ h8_ h9_ h10_ h11_ h12_ h13_ h14_ h15_ h16_ h17_ h18_ h19_ h20_ h21_ h22_
      have hHeld : w35.cell? ⟨gb559, 0, none⟩ = some (.bool t555) ∧ w35.cell? ⟨gb559, 1, none⟩ = some (.slice Ao28 t556.length co28) ∧ w35.cell? ⟨gb536, 0, none⟩ = some (.bool a0_0) ∧ w35.cell? ⟨gb536, 1, none⟩ = some (.slice A0_1 l0_1.length c0_1) ∧ w35.cell? ⟨gb536, 2, none⟩ = some (.slice A0_2 l0_2.length c0_2) ∧ w35.cell? ⟨gb537, 0, none⟩ = some (.bool a1_0) ∧ w35.cell? ⟨gb537, 1, none⟩ = some (.slice A1_1 l1_1.length c1_1) ∧ w35.cell? ⟨gb537, 2, none⟩ = some (.slice A1_2 l1_2.length c1_2) := hS_
      obtain ⟨Ao36, co36, eo36⟩ := Kd.R_slice HO563.out
      (first | subst eo36 | (injection eo36 with f1_ f2_ f3_; have f4_ := f1_.symm; have f5_ := f3_.symm; clear f1_ f2_ f3_; subst f4_; subst f5_))
      obtain ⟨Ao37, co37, eo37⟩ := Kd.R_slice HO567.out
      (first | subst eo37 | (injection eo37 with f1_ f2_ f3_; have f4_ := f1_.symm; have f5_ := f3_.symm; clear f1_ f2_ f3_; subst f4_; subst f5_))
      refine norm_ (a' := ?_) ?_ ?_
      rotate_left
      ·
       simp only [putAll, Act.put, List.setIfInBounds_toArray, List.set_cons_zero, List.set_cons_succ]
       rfl
      refine one_ (i := 5) (N := some 25) #[true, true, true, true, true, true, false, false, false, false, true, false, false] rfl rfl (one_of HT_.out (by kernel_rfl)) (by decide) (fun K hK => ?_)
      refine goes_ Try.func65 (by kernel_rfl) rfl #[.agg #[.bool t560, .slice Ao36 t561.length co36], .agg #[.bool t564, .slice Ao37 t565.length co37]] (by rfl) rfl rfl (by (try simp only [List.map_toArray, List.map_cons, List.map_nil]); first | done | rfl | (simp only [List.length_drop, List.length_take]; rfl)) ?_
      with_reducible refine (whole_Mul.calls k t560 _ _ t561 t564 _ _ t565 t568 t569 _ ?side1 ?side2 ?side3 ?side4 A10.out).mono ?_
      (case side1 => exact Kd.Cx (Kd.R_reads' HO563.out).2.2)
      (case side2 => exact (Kd.R_reads' HO563.out).2.1)
      (case side3 => exact Kd.Cx (Kd.R_reads' HO567.out).2.2)
      (case side4 => exact (Kd.R_reads' HO567.out).2.1)
      rintro e w38 ⟨v570, rfl, ho0, hb⟩
      refine ⟨_, rfl, ?_⟩
      have HO571 := Aside0.mk (Kd.R_lower (Kd.R_new' (Kd.R_new' (Kd.R_new' (Kd.R_new' (Kd.R_new' (Kd.R_new' (Kd.R_new' ho0 (Kd.R_lt (Kd.Rx HO542.out))) (Kd.R_lt (Kd.Rx HO546.out))) (Kd.R_lt (Kd.Rx HO550.out))) (Kd.R_lt (Kd.Rx HO554.out))) (Kd.R_lt (Kd.Rx HO558.out))) (Kd.R_lt (Kd.Rx HO563.out))) (Kd.R_lt (Kd.Rx HO567.out))) (below_size (Bs)))
      replace HO542 := Aside0.mk (Kd.R_elder' (Kd.Rx HO542.out) (Kd.R_base ho0) hb)
      replace HO546 := Aside0.mk (Kd.R_elder' (Kd.Rx HO546.out) (Kd.R_base ho0) hb)
      replace HO550 := Aside0.mk (Kd.R_elder' (Kd.Rx HO550.out) (Kd.R_base ho0) hb)
      replace HO554 := Aside0.mk (Kd.R_elder' (Kd.Rx HO554.out) (Kd.R_base ho0) hb)
      replace HO558 := Aside0.mk (Kd.R_elder' (Kd.Rx HO558.out) (Kd.R_base ho0) hb)
      replace HO563 := Aside0.mk (Kd.R_elder' (Kd.Rx HO563.out) (Kd.R_base ho0) hb)
      replace HO567 := Aside0.mk (Kd.R_elder' (Kd.Rx HO567.out) (Kd.R_base ho0) hb)
      replace BK536 := Aside0.mk (blk_below (Kx BK536.out) hb)
      replace BK537 := Aside0.mk (blk_below (Kx BK537.out) hb)
      replace BK538 := Aside0.mk (blk_below (Kx BK538.out) hb)
      replace BK559 := Aside0.mk (blk_below (Kx BK559.out) hb)
      replace BK580 := Aside0.mk (blk_below (Kx BK580.out) hb)
      replace HB := Aside0.mk (below_step (Bs) hb)
      (try clear hb)
      (try clear hb2)
      (try clear hk)
      (try clear hi)
      (try clear ho0)
      refine hK.out _ _ ⟨(blk_cell BK559.out 0).trans rfl, (blk_cell BK559.out 1).trans rfl, (blk_cell BK536.out 0).trans rfl, (blk_cell BK536.out 1).trans rfl, (blk_cell BK536.out 2).trans rfl, (blk_cell BK537.out 0).trans rfl, (blk_cell BK537.out 1).trans rfl, (blk_cell BK537.out 2).trans rfl⟩ (fun hHeld => ?_)
      clear hK K
      refine norm_ (a' := ?_) ?_ ?_
      rotate_left
      ·
       show Act.put _ (some 25) _ = _
       simp only [Act.put, List.setIfInBounds_toArray, List.set_cons_zero, List.set_cons_succ, i64_w, i32_w]
       rfl
      exact norm_ (by first | (simp only [putAll, Act.put, List.setIfInBounds_toArray, List.set_cons_zero, List.set_cons_succ]; done) | (simp only [putAll, Act.put, List.setIfInBounds_toArray, List.set_cons_zero, List.set_cons_succ]; rfl)) (hJ2_4_5_10 (.slice Ao36 t561.length co36, .slice Ao37 t565.length co37, _, gb580) _ ⟨hHeld, (Kd.Rm HO542.out), (Kd.Rm HO546.out), (Kd.Rm HO550.out), (Kd.Rm HO554.out), (Kd.Rm HO558.out), (Kd.Rm HO563.out), (Kd.Rm HO567.out), (Kd.Rm HO571.out), (Kx BK536.out), (Kx BK537.out), (Kx BK538.out), (Kx BK559.out), (Kx BK580.out), GW580.out, GE580.out, NB536_580.out, NB580_536.out, NB537_580.out, NB580_537.out, NB538_580.out, NB580_538.out, NB559_580.out, NB580_559.out, (Bs)⟩)
    ·
     skip
     rintro ⟨v562, v566, v570⟩ w37 ⟨hS_, h0_, h1_, h2_, h3_, h4_, h5_, h6_, h7_, h8_, h9_, h10_, h11_, h12_⟩
     replace HO542 : Aside0 (Kd.R (Kd.int .u64) 96 w37 w.heap.size (fun k_ => nb k_ v545 ∧ nb k_ v549 ∧ nb k_ v553 ∧ nb k_ (.slice Ao28 t556.length co28) ∧ nb k_ v562 ∧ nb k_ v566 ∧ nb k_ v570) v541 t540) := ⟨h0_⟩
     replace HO546 : Aside0 (Kd.R (Kd.int .u64) 96 w37 w.heap.size (fun k_ => nb k_ v541 ∧ nb k_ v549 ∧ nb k_ v553 ∧ nb k_ (.slice Ao28 t556.length co28) ∧ nb k_ v562 ∧ nb k_ v566 ∧ nb k_ v570) v545 t544) := ⟨h1_⟩
     replace HO550 : Aside0 (Kd.R (Kd.int .u64) 96 w37 w.heap.size (fun k_ => nb k_ v541 ∧ nb k_ v545 ∧ nb k_ v553 ∧ nb k_ (.slice Ao28 t556.length co28) ∧ nb k_ v562 ∧ nb k_ v566 ∧ nb k_ v570) v549 t548) := ⟨h2_⟩
     replace HO554 : Aside0 (Kd.R (Kd.int .u64) 96 w37 w.heap.size (fun k_ => nb k_ v541 ∧ nb k_ v545 ∧ nb k_ v549 ∧ nb k_ (.slice Ao28 t556.length co28) ∧ nb k_ v562 ∧ nb k_ v566 ∧ nb k_ v570) v553 t552) := ⟨h3_⟩
     replace HO558 : Aside0 (Kd.R (Kd.int .u64) 96 w37 w.heap.size (fun k_ => nb k_ v541 ∧ nb k_ v545 ∧ nb k_ v549 ∧ nb k_ v553 ∧ nb k_ v562 ∧ nb k_ v566 ∧ nb k_ v570) (.slice Ao28 t556.length co28) t556) := ⟨h4_⟩
     have HO563 : Aside0 (Kd.R (Kd.int .u64) 96 w37 w.heap.size (fun k_ => nb k_ v541 ∧ nb k_ v545 ∧ nb k_ v549 ∧ nb k_ v553 ∧ nb k_ (.slice Ao28 t556.length co28) ∧ nb k_ v566 ∧ nb k_ v570) v562 t561) := ⟨h5_⟩
     have HO567 : Aside0 (Kd.R (Kd.int .u64) 96 w37 w.heap.size (fun k_ => nb k_ v541 ∧ nb k_ v545 ∧ nb k_ v549 ∧ nb k_ v553 ∧ nb k_ (.slice Ao28 t556.length co28) ∧ nb k_ v562 ∧ nb k_ v570) v566 t565) := ⟨h6_⟩
     have HO571 : Aside0 (Kd.R (Kd.int .u64) 96 w37 w.heap.size (fun k_ => nb k_ v541 ∧ nb k_ v545 ∧ nb k_ v549 ∧ nb k_ v553 ∧ nb k_ (.slice Ao28 t556.length co28) ∧ nb k_ v562 ∧ nb k_ v566) v570 t569) := ⟨h7_⟩
     replace BK536 : Aside0 (w37.heap[gb536]? = some (.cells #[.bool a0_0, .slice A0_1 l0_1.length c0_1, .slice A0_2 l0_2.length c0_2] 34 (0, 0))) := ⟨h8_⟩
     replace BK537 : Aside0 (w37.heap[gb537]? = some (.cells #[.bool a1_0, .slice A1_1 l1_1.length c1_1, .slice A1_2 l1_2.length c1_2] 34 (0, 0))) := ⟨h9_⟩
     replace BK538 : Aside0 (w37.heap[gb538]? = some (.cells #[.bool false, .slice none 0 0, .slice none 0 0] 34 (0, 0))) := ⟨h10_⟩
     replace BK559 : Aside0 (w37.heap[gb559]? = some (.cells #[.bool t555, .slice Ao28 t556.length co28] 32 (0, 0))) := ⟨h11_⟩
     replace HB : Aside0 (Below w.heap.size w w37) := ⟨h12_⟩
     clear h0_ h1_ h2_ h3_ h4_ h5_ h6_ h7_ h8_ h9_ h10_ h11_ h12_
     have hHeld : w37.cell? ⟨gb559, 0, none⟩ = some (.bool t555) ∧ w37.cell? ⟨gb559, 1, none⟩ = some (.slice Ao28 t556.length co28) ∧ w37.cell? ⟨gb536, 0, none⟩ = some (.bool a0_0) ∧ w37.cell? ⟨gb536, 1, none⟩ = some (.slice A0_1 l0_1.length c0_1) ∧ w37.cell? ⟨gb536, 2, none⟩ = some (.slice A0_2 l0_2.length c0_2) ∧ w37.cell? ⟨gb537, 0, none⟩ = some (.bool a1_0) ∧ w37.cell? ⟨gb537, 1, none⟩ = some (.slice A1_1 l1_1.length c1_1) ∧ w37.cell? ⟨gb537, 2, none⟩ = some (.slice A1_2 l1_2.length c1_2) := hS_
     obtain ⟨Ao38, co38, eo38⟩ := Kd.R_slice HO571.out
     (first | subst eo38 | (injection eo38 with f1_ f2_ f3_; have f4_ := f1_.symm; have f5_ := f3_.symm; clear f1_ f2_ f3_; subst f4_; subst f5_))
     refine norm_ (a' := ?_) ?_ ?_
     rotate_left
     ·
      simp only [putAll, Act.put, List.setIfInBounds_toArray, List.set_cons_zero, List.set_cons_succ]
      rfl
     refine two_ (i := 6) (j := 10) (Ni := some 26) (Nj := some 6) #[true, true, true, true, true, true, true, false, false, false, false, false, false] #[true, true, true, true, true, true, false, false, false, false, true, false, false] rfl rfl rfl rfl (two_of HT_.out (by kernel_rfl)) (by decide) (by decide) (fun K hK => ?_) (fun K hK => ?_)
     ·
      skip
      refine goes_ Try.func67 (by kernel_rfl) rfl #[.agg #[.bool t555, .slice Ao28 t556.length co28], .agg #[.bool t568, .slice Ao38 t569.length co38]] (by rfl) rfl rfl (by (try simp only [List.map_toArray, List.map_cons, List.map_nil]); first | done | rfl | (simp only [List.length_drop, List.length_take]; rfl)) ?_
      with_reducible refine (rat_Make.calls k t555 _ _ t556 t568 _ _ t569 t572 t573 t576 t579 _ ?side1 ?side2 ?side3 ?side4 A11.out).mono ?_
      (case side1 => exact Kd.Cx (Kd.R_reads' HO558.out).2.2)
      (case side2 => exact (Kd.R_reads' HO558.out).2.1)
      (case side3 => exact Kd.Cx (Kd.R_reads' HO571.out).2.2)
      (case side4 => exact (Kd.R_reads' HO571.out).2.1)
      rintro e w39 ⟨v574, v577, rfl, ho0, ho1, hb⟩
      refine ⟨_, rfl, ?_⟩
      have HO575 := Aside0.mk (Kd.R_lower (Kd.R_new' (Kd.R_new' (Kd.R_new' (Kd.R_new' (Kd.R_new' (Kd.R_new' (Kd.R_new' (Kd.R_new' ho0 (Kd.R_lt (Kd.Rx HO542.out))) (Kd.R_lt (Kd.Rx HO546.out))) (Kd.R_lt (Kd.Rx HO550.out))) (Kd.R_lt (Kd.Rx HO554.out))) (Kd.R_lt (Kd.Rx HO558.out))) (Kd.R_lt (Kd.Rx HO563.out))) (Kd.R_lt (Kd.Rx HO567.out))) (Kd.R_lt (Kd.Rx HO571.out))) (below_size (Bs)))
      have HO578 := Aside0.mk (Kd.R_lower (Kd.R_new' (Kd.R_new' (Kd.R_new' (Kd.R_new' (Kd.R_new' (Kd.R_new' (Kd.R_new' (Kd.R_new' ho1 (Kd.R_lt (Kd.Rx HO542.out))) (Kd.R_lt (Kd.Rx HO546.out))) (Kd.R_lt (Kd.Rx HO550.out))) (Kd.R_lt (Kd.Rx HO554.out))) (Kd.R_lt (Kd.Rx HO558.out))) (Kd.R_lt (Kd.Rx HO563.out))) (Kd.R_lt (Kd.Rx HO567.out))) (Kd.R_lt (Kd.Rx HO571.out))) (below_size (Bs)))
      replace HO542 := Aside0.mk (Kd.R_mono (Kd.R_told (Kd.R_told (Kd.R_old (Kd.Rx HO542.out) hb) (Kd.R_base ho0)) (Kd.R_base ho1)) (fun _ h_ => h_.1))
      replace HO546 := Aside0.mk (Kd.R_mono (Kd.R_told (Kd.R_told (Kd.R_old (Kd.Rx HO546.out) hb) (Kd.R_base ho0)) (Kd.R_base ho1)) (fun _ h_ => h_.1))
      replace HO550 := Aside0.mk (Kd.R_mono (Kd.R_told (Kd.R_told (Kd.R_old (Kd.Rx HO550.out) hb) (Kd.R_base ho0)) (Kd.R_base ho1)) (fun _ h_ => h_.1))
      replace HO554 := Aside0.mk (Kd.R_mono (Kd.R_told (Kd.R_told (Kd.R_old (Kd.Rx HO554.out) hb) (Kd.R_base ho0)) (Kd.R_base ho1)) (fun _ h_ => h_.1))
      replace HO558 := Aside0.mk (Kd.R_mono (Kd.R_told (Kd.R_told (Kd.R_old (Kd.Rx HO558.out) hb) (Kd.R_base ho0)) (Kd.R_base ho1)) (fun _ h_ => h_.1))
      replace HO563 := Aside0.mk (Kd.R_mono (Kd.R_told (Kd.R_told (Kd.R_old (Kd.Rx HO563.out) hb) (Kd.R_base ho0)) (Kd.R_base ho1)) (fun _ h_ => h_.1))
      replace HO567 := Aside0.mk (Kd.R_mono (Kd.R_told (Kd.R_told (Kd.R_old (Kd.Rx HO567.out) hb) (Kd.R_base ho0)) (Kd.R_base ho1)) (fun _ h_ => h_.1))
      replace HO571 := Aside0.mk (Kd.R_mono (Kd.R_told (Kd.R_told (Kd.R_old (Kd.Rx HO571.out) hb) (Kd.R_base ho0)) (Kd.R_base ho1)) (fun _ h_ => h_.1))
      replace BK536 := Aside0.mk (blk_below (Kx BK536.out) hb)
      replace BK537 := Aside0.mk (blk_below (Kx BK537.out) hb)
      replace BK538 := Aside0.mk (blk_below (Kx BK538.out) hb)
      replace BK559 := Aside0.mk (blk_below (Kx BK559.out) hb)
      replace HB := Aside0.mk (below_step (Bs) hb)
      (try clear hb)
      (try clear hb2)
      (try clear hk)
      (try clear hi)
      (try clear ho0)
      (try clear ho1)
      refine hK.out _ _ ⟨(blk_cell BK559.out 0).trans rfl, (blk_cell BK559.out 1).trans rfl, (blk_cell BK536.out 0).trans rfl, (blk_cell BK536.out 1).trans rfl, (blk_cell BK536.out 2).trans rfl, (blk_cell BK537.out 0).trans rfl, (blk_cell BK537.out 1).trans rfl, (blk_cell BK537.out 2).trans rfl⟩ (fun hHeld => ?_)
      clear hK K
      refine norm_ (a' := ?_) ?_ ?_
      rotate_left
      ·
       show Act.put _ (some 26) _ = _
       simp only [Act.put, List.setIfInBounds_toArray, List.set_cons_zero, List.set_cons_succ, i64_w, i32_w]
       rfl
      refine pure_ (i := 7) (N := some 19) (v := ?_) (a' := ?_) #[true, true, true, true, true, true, true, true, false, false, false, false, false] rfl rfl (any_of HT_.out (by kernel_rfl)) (fun _ _ _ h => h) (Or.inl ⟨by rfl, ?_⟩) ?_ ?_
      rotate_left
      ·
       intro w'
       go_simp
       with_reducible rfl
      rotate_left
      ·
       simp only [Act.put, List.setIfInBounds_toArray, List.set_cons_zero, List.set_cons_succ, i64_w, i32_w]
       rfl
      refine pure_ (i := 8) (N := some 27) (v := ?_) (a' := ?_) #[true, true, true, true, true, true, true, true, true, false, false, false, false] rfl rfl (any_of HT_.out (by kernel_rfl)) (fun _ _ _ h => h) (Or.inl ⟨by rfl, ?_⟩) ?_ ?_
      rotate_left
      ·
       intro w'
       go_simp
       with_reducible rfl
      rotate_left
      ·
       simp only [Act.put, List.setIfInBounds_toArray, List.set_cons_zero, List.set_cons_succ, i64_w, i32_w]
       rfl
      refine pure_ (i := 9) (N := some 28) (v := ?_) (a' := ?_) #[true, true, true, true, true, true, true, true, true, true, false, false, false] rfl rfl (any_of HT_.out (by kernel_rfl)) (fun _ _ _ h => h) (Or.inl ⟨by rfl, ?_⟩) ?_ ?_
      rotate_left
      ·
       intro w'
       go_simp
       with_reducible rfl
      rotate_left
      ·
       simp only [Act.put, List.setIfInBounds_toArray, List.set_cons_zero, List.set_cons_succ, i64_w, i32_w]
       rfl
      exact norm_ (by first | (simp only [putAll, Act.put, List.setIfInBounds_toArray, List.set_cons_zero, List.set_cons_succ]; done) | (simp only [putAll, Act.put, List.setIfInBounds_toArray, List.set_cons_zero, List.set_cons_succ]; rfl)) (hJ2_4_5_6 (_, _, .slice Ao38 t569.length co38, _, _) _ ⟨hHeld, (Kd.Rm HO542.out), (Kd.Rm HO546.out), (Kd.Rm HO550.out), (Kd.Rm HO554.out), (Kd.Rm HO558.out), (Kd.Rm HO563.out), (Kd.Rm HO567.out), (Kd.Rm HO571.out), (Kd.Rm HO575.out), (Kd.Rm HO578.out), (Kx BK536.out), (Kx BK537.out), (Kx BK538.out), (Kx BK559.out), (Bs)⟩)
     ·
      skip
      refine box_step ?hg (N := 6) ?hd (cs := #[.bool false, .slice none 0 0, .slice none 0 0]) (t := 34) ?hr ?_; (case hd => rfl); (case hg => rfl); (case hr => first | (go_simp; done) | (go_simp; rfl))
      intro gb580 hg w38 hbox hb
      have n0_ := Aside0.mk (Kd.R_below (Kd.Rx HO542.out) hb)
      have n1_ := Aside0.mk (Kd.R_below (Kd.Rx HO546.out) hb)
      have n2_ := Aside0.mk (Kd.R_below (Kd.Rx HO550.out) hb)
      have n3_ := Aside0.mk (Kd.R_below (Kd.Rx HO554.out) hb)
      have n4_ := Aside0.mk (Kd.R_below (Kd.Rx HO558.out) hb)
      have n5_ := Aside0.mk (Kd.R_below (Kd.Rx HO563.out) hb)
      have n6_ := Aside0.mk (Kd.R_below (Kd.Rx HO567.out) hb)
      have n7_ := Aside0.mk (Kd.R_below (Kd.Rx HO571.out) hb)
      have n8_ := Aside0.mk (blk_below (Kx BK536.out) hb)
      have n9_ := Aside0.mk (blk_below (Kx BK537.out) hb)
      have n10_ := Aside0.mk (blk_below (Kx BK538.out) hb)
      have n11_ := Aside0.mk (blk_below (Kx BK559.out) hb)
      have n12_ := Aside0.mk (below_step (Bs) hb)
      have n13_ := Aside0.mk (hbox)
      have n14_ := Aside0.mk ((by rw [hg]; exact (below_size (Bs)) : w.heap.size ≤ gb580))
      have n15_ := Aside0.mk ((by rw [hg]; exact (below_size (Bs)) : w.heap.size ≤ gb580))
      have n16_ := Aside0.mk ((by rw [hg]; exact Nat.ne_of_lt (blk_lt (Kx BK536.out)) : gb536 ≠ gb580))
      have n17_ := Aside0.mk ((by rw [hg]; exact Nat.ne_of_gt (blk_lt (Kx BK536.out)) : gb580 ≠ gb536))
      have n18_ := Aside0.mk ((by rw [hg]; exact Nat.ne_of_lt (blk_lt (Kx BK537.out)) : gb537 ≠ gb580))
      have n19_ := Aside0.mk ((by rw [hg]; exact Nat.ne_of_gt (blk_lt (Kx BK537.out)) : gb580 ≠ gb537))
      have n20_ := Aside0.mk ((by rw [hg]; exact Nat.ne_of_lt (blk_lt (Kx BK538.out)) : gb538 ≠ gb580))
      have n21_ := Aside0.mk ((by rw [hg]; exact Nat.ne_of_gt (blk_lt (Kx BK538.out)) : gb580 ≠ gb538))
      have n22_ := Aside0.mk ((by rw [hg]; exact Nat.ne_of_lt (blk_lt (Kx BK559.out)) : gb559 ≠ gb580))
      have n23_ := Aside0.mk ((by rw [hg]; exact Nat.ne_of_gt (blk_lt (Kx BK559.out)) : gb580 ≠ gb559))
      clear HO542
      clear HO546
      clear HO550
      clear HO554
      clear HO558
      clear HO563
      clear HO567
      clear HO571
      clear BK536
      clear BK537
      clear BK538
      clear BK559
      clear HB
      have HO542 := n0_
      have HO546 := n1_
      have HO550 := n2_
      have HO554 := n3_
      have HO558 := n4_
      have HO563 := n5_
      have HO567 := n6_
      have HO571 := n7_
      have BK536 := n8_
      have BK537 := n9_
      have BK538 := n10_
      have BK559 := n11_
      have HB := n12_
      have BK580 := n13_
      have GW580 := n14_
      have GE580 := n15_
      have NB536_580 := n16_
      have NB580_536 := n17_
      have NB537_580 := n18_
      have NB580_537 := n19_
      have NB538_580 := n20_
      have NB580_538 := n21_
      have NB559_580 := n22_
      have NB580_559 := n23_
      clear n0_ n1_ n2_ n3_ n4_ n5_ n6_ n7_ n8_ n9_ n10_ n11_ n12_ n13_ n14_ n15_ n16_ n17_ n18_ n19_ n20_ n21_ n22_ n23_
      clear hb hbox hg
      refine hK.out _ _ ⟨(blk_cell BK559.out 0).trans rfl, (blk_cell BK559.out 1).trans rfl, (blk_cell BK536.out 0).trans rfl, (blk_cell BK536.out 1).trans rfl, (blk_cell BK536.out 2).trans rfl, (blk_cell BK537.out 0).trans rfl, (blk_cell BK537.out 1).trans rfl, (blk_cell BK537.out 2).trans rfl⟩ (fun hHeld => ?_)
      clear hK K
      refine norm_ (a' := ?_) ?_ ?_
      rotate_left
      ·
       show Act.put _ (some 6) _ = _
       simp only [Act.put, List.setIfInBounds_toArray, List.set_cons_zero, List.set_cons_succ, i64_w, i32_w]
       rfl
      exact norm_ (by first | (simp only [putAll, Act.put, List.setIfInBounds_toArray, List.set_cons_zero, List.set_cons_succ]; done) | (simp only [putAll, Act.put, List.setIfInBounds_toArray, List.set_cons_zero, List.set_cons_succ]; rfl)) (hJ2_4_5_10 (_, _, _, gb580) _ ⟨hHeld, (Kd.Rx HO542.out), (Kd.Rx HO546.out), (Kd.Rx HO550.out), (Kd.Rx HO554.out), (Kd.Rx HO558.out), (Kd.Rx HO563.out), (Kd.Rx HO567.out), (Kd.Rx HO571.out), (Kx BK536.out), (Kx BK537.out), (Kx BK538.out), (Kx BK559.out), (Kx BK580.out), GW580.out, GE580.out, NB536_580.out, NB580_536.out, NB537_580.out, NB580_537.out, NB538_580.out, NB580_538.out, NB559_580.out, NB580_559.out, (Bs)⟩)
   ·
    skip
    rintro ⟨v562, v566, v570, gb580⟩ w38 ⟨hS_, h0_, h1_, h2_, h3_, h4_, h5_, h6_, h7_, h8_, h9_, h10_, h11_, h12_, h13_, h14_, h15_, h16_, h17_, h18_, h19_, h20_, h21_, h22_, h23_⟩
    replace HO542 : Aside0 (Kd.R (Kd.int .u64) 96 w38 w.heap.size (fun k_ => nb k_ v545 ∧ nb k_ v549 ∧ nb k_ v553 ∧ nb k_ (.slice Ao28 t556.length co28) ∧ nb k_ v562 ∧ nb k_ v566 ∧ nb k_ v570) v541 t540) := ⟨h0_⟩
    replace HO546 : Aside0 (Kd.R (Kd.int .u64) 96 w38 w.heap.size (fun k_ => nb k_ v541 ∧ nb k_ v549 ∧ nb k_ v553 ∧ nb k_ (.slice Ao28 t556.length co28) ∧ nb k_ v562 ∧ nb k_ v566 ∧ nb k_ v570) v545 t544) := ⟨h1_⟩
    replace HO550 : Aside0 (Kd.R (Kd.int .u64) 96 w38 w.heap.size (fun k_ => nb k_ v541 ∧ nb k_ v545 ∧ nb k_ v553 ∧ nb k_ (.slice Ao28 t556.length co28) ∧ nb k_ v562 ∧ nb k_ v566 ∧ nb k_ v570) v549 t548) := ⟨h2_⟩
    replace HO554 : Aside0 (Kd.R (Kd.int .u64) 96 w38 w.heap.size (fun k_ => nb k_ v541 ∧ nb k_ v545 ∧ nb k_ v549 ∧ nb k_ (.slice Ao28 t556.length co28) ∧ nb k_ v562 ∧ nb k_ v566 ∧ nb k_ v570) v553 t552) := ⟨h3_⟩
    replace HO558 : Aside0 (Kd.R (Kd.int .u64) 96 w38 w.heap.size (fun k_ => nb k_ v541 ∧ nb k_ v545 ∧ nb k_ v549 ∧ nb k_ v553 ∧ nb k_ v562 ∧ nb k_ v566 ∧ nb k_ v570) (.slice Ao28 t556.length co28) t556) := ⟨h4_⟩
    have HO563 : Aside0 (Kd.R (Kd.int .u64) 96 w38 w.heap.size (fun k_ => nb k_ v541 ∧ nb k_ v545 ∧ nb k_ v549 ∧ nb k_ v553 ∧ nb k_ (.slice Ao28 t556.length co28) ∧ nb k_ v566 ∧ nb k_ v570) v562 t561) := ⟨h5_⟩
    have HO567 : Aside0 (Kd.R (Kd.int .u64) 96 w38 w.heap.size (fun k_ => nb k_ v541 ∧ nb k_ v545 ∧ nb k_ v549 ∧ nb k_ v553 ∧ nb k_ (.slice Ao28 t556.length co28) ∧ nb k_ v562 ∧ nb k_ v570) v566 t565) := ⟨h6_⟩
    have HO571 : Aside0 (Kd.R (Kd.int .u64) 96 w38 w.heap.size (fun k_ => nb k_ v541 ∧ nb k_ v545 ∧ nb k_ v549 ∧ nb k_ v553 ∧ nb k_ (.slice Ao28 t556.length co28) ∧ nb k_ v562 ∧ nb k_ v566) v570 t569) := ⟨h7_⟩
    replace BK536 : Aside0 (w38.heap[gb536]? = some (.cells #[.bool a0_0, .slice A0_1 l0_1.length c0_1, .slice A0_2 l0_2.length c0_2] 34 (0, 0))) := ⟨h8_⟩
    replace BK537 : Aside0 (w38.heap[gb537]? = some (.cells #[.bool a1_0, .slice A1_1 l1_1.length c1_1, .slice A1_2 l1_2.length c1_2] 34 (0, 0))) := ⟨h9_⟩
    replace BK538 : Aside0 (w38.heap[gb538]? = some (.cells #[.bool false, .slice none 0 0, .slice none 0 0] 34 (0, 0))) := ⟨h10_⟩
    replace BK559 : Aside0 (w38.heap[gb559]? = some (.cells #[.bool t555, .slice Ao28 t556.length co28] 32 (0, 0))) := ⟨h11_⟩
    have BK580 : Aside0 (w38.heap[gb580]? = some (.cells #[.bool false, .slice none 0 0, .slice none 0 0] 34 (0, 0))) := ⟨h12_⟩
    have GW580 : Aside0 (w.heap.size ≤ gb580) := ⟨h13_⟩
    have GE580 : Aside0 (w.heap.size ≤ gb580) := ⟨h14_⟩
    have NB536_580 : Aside0 (gb536 ≠ gb580) := ⟨h15_⟩
    have NB580_536 : Aside0 (gb580 ≠ gb536) := ⟨h16_⟩
    have NB537_580 : Aside0 (gb537 ≠ gb580) := ⟨h17_⟩
    have NB580_537 : Aside0 (gb580 ≠ gb537) := ⟨h18_⟩
    have NB538_580 : Aside0 (gb538 ≠ gb580) := ⟨h19_⟩
    have NB580_538 : Aside0 (gb580 ≠ gb538) := ⟨h20_⟩
    have NB559_580 : Aside0 (gb559 ≠ gb580) := ⟨h21_⟩
    have NB580_559 : Aside0 (gb580 ≠ gb559) := ⟨h22_⟩
    replace HB : Aside0 (Below w.heap.size w w38) := ⟨h23_⟩
    clear h0_ h1_ h2_ h3_ h4_ h5_ h6_ h7_ h8_ h9_ h10_ h11_ h12_ h13_ h14_ h15_ h16_ h17_ h18_ h19_ h20_ h21_ h22_ h23_
    have hHeld : w38.cell? ⟨gb559, 0, none⟩ = some (.bool t555) ∧ w38.cell? ⟨gb559, 1, none⟩ = some (.slice Ao28 t556.length co28) ∧ w38.cell? ⟨gb536, 0, none⟩ = some (.bool a0_0) ∧ w38.cell? ⟨gb536, 1, none⟩ = some (.slice A0_1 l0_1.length c0_1) ∧ w38.cell? ⟨gb536, 2, none⟩ = some (.slice A0_2 l0_2.length c0_2) ∧ w38.cell? ⟨gb537, 0, none⟩ = some (.bool a1_0) ∧ w38.cell? ⟨gb537, 1, none⟩ = some (.slice A1_1 l1_1.length c1_1) ∧ w38.cell? ⟨gb537, 2, none⟩ = some (.slice A1_2 l1_2.length c1_2) := hS_
    obtain ⟨Ao39, co39, eo39⟩ := Kd.R_slice HO571.out
    (first | subst eo39 | (injection eo39 with f1_ f2_ f3_; have f4_ := f1_.symm; have f5_ := f3_.symm; clear f1_ f2_ f3_; subst f4_; subst f5_))
    refine norm_ (a' := ?_) ?_ ?_
    rotate_left
    ·
     simp only [putAll, Act.put, List.setIfInBounds_toArray, List.set_cons_zero, List.set_cons_succ]
     rfl
    refine one_ (i := 6) (N := some 26) #[true, true, true, true, true, true, true, false, false, false, true, false, false] rfl rfl (one_of HT_.out (by kernel_rfl)) (by decide) (fun K hK => ?_)
    refine goes_ Try.func67 (by kernel_rfl) rfl #[.agg #[.bool t555, .slice Ao28 t556.length co28], .agg #[.bool t568, .slice Ao39 t569.length co39]] (by rfl) rfl rfl (by (try simp only [List.map_toArray, List.map_cons, List.map_nil]); first | done | rfl | (simp only [List.length_drop, List.length_take]; rfl)) ?_
    with_reducible refine (rat_Make.calls k t555 _ _ t556 t568 _ _ t569 t572 t573 t576 t579 _ ?side1 ?side2 ?side3 ?side4 A11.out).mono ?_
    (case side1 => exact Kd.Cx (Kd.R_reads' HO558.out).2.2)
    (case side2 => exact (Kd.R_reads' HO558.out).2.1)
    (case side3 => exact Kd.Cx (Kd.R_reads' HO571.out).2.2)
    (case side4 => exact (Kd.R_reads' HO571.out).2.1)
    rintro e w40 ⟨v574, v577, rfl, ho0, ho1, hb⟩
    refine ⟨_, rfl, ?_⟩
    have HO575 := Aside0.mk (Kd.R_lower (Kd.R_new' (Kd.R_new' (Kd.R_new' (Kd.R_new' (Kd.R_new' (Kd.R_new' (Kd.R_new' (Kd.R_new' ho0 (Kd.R_lt (Kd.Rx HO542.out))) (Kd.R_lt (Kd.Rx HO546.out))) (Kd.R_lt (Kd.Rx HO550.out))) (Kd.R_lt (Kd.Rx HO554.out))) (Kd.R_lt (Kd.Rx HO558.out))) (Kd.R_lt (Kd.Rx HO563.out))) (Kd.R_lt (Kd.Rx HO567.out))) (Kd.R_lt (Kd.Rx HO571.out))) (below_size (Bs)))
    have HO578 := Aside0.mk (Kd.R_lower (Kd.R_new' (Kd.R_new' (Kd.R_new' (Kd.R_new' (Kd.R_new' (Kd.R_new' (Kd.R_new' (Kd.R_new' ho1 (Kd.R_lt (Kd.Rx HO542.out))) (Kd.R_lt (Kd.Rx HO546.out))) (Kd.R_lt (Kd.Rx HO550.out))) (Kd.R_lt (Kd.Rx HO554.out))) (Kd.R_lt (Kd.Rx HO558.out))) (Kd.R_lt (Kd.Rx HO563.out))) (Kd.R_lt (Kd.Rx HO567.out))) (Kd.R_lt (Kd.Rx HO571.out))) (below_size (Bs)))
    replace HO542 := Aside0.mk (Kd.R_mono (Kd.R_told (Kd.R_told (Kd.R_old (Kd.Rx HO542.out) hb) (Kd.R_base ho0)) (Kd.R_base ho1)) (fun _ h_ => h_.1))
    replace HO546 := Aside0.mk (Kd.R_mono (Kd.R_told (Kd.R_told (Kd.R_old (Kd.Rx HO546.out) hb) (Kd.R_base ho0)) (Kd.R_base ho1)) (fun _ h_ => h_.1))
    replace HO550 := Aside0.mk (Kd.R_mono (Kd.R_told (Kd.R_told (Kd.R_old (Kd.Rx HO550.out) hb) (Kd.R_base ho0)) (Kd.R_base ho1)) (fun _ h_ => h_.1))
    replace HO554 := Aside0.mk (Kd.R_mono (Kd.R_told (Kd.R_told (Kd.R_old (Kd.Rx HO554.out) hb) (Kd.R_base ho0)) (Kd.R_base ho1)) (fun _ h_ => h_.1))
    replace HO558 := Aside0.mk (Kd.R_mono (Kd.R_told (Kd.R_told (Kd.R_old (Kd.Rx HO558.out) hb) (Kd.R_base ho0)) (Kd.R_base ho1)) (fun _ h_ => h_.1))
    replace HO563 := Aside0.mk (Kd.R_mono (Kd.R_told (Kd.R_told (Kd.R_old (Kd.Rx HO563.out) hb) (Kd.R_base ho0)) (Kd.R_base ho1)) (fun _ h_ => h_.1))
    replace HO567 := Aside0.mk (Kd.R_mono (Kd.R_told (Kd.R_told (Kd.R_old (Kd.Rx HO567.out) hb) (Kd.R_base ho0)) (Kd.R_base ho1)) (fun _ h_ => h_.1))
    replace HO571 := Aside0.mk (Kd.R_mono (Kd.R_told (Kd.R_told (Kd.R_old (Kd.Rx HO571.out) hb) (Kd.R_base ho0)) (Kd.R_base ho1)) (fun _ h_ => h_.1))
    replace BK536 := Aside0.mk (blk_below (Kx BK536.out) hb)
    replace BK537 := Aside0.mk (blk_below (Kx BK537.out) hb)
    replace BK538 := Aside0.mk (blk_below (Kx BK538.out) hb)
    replace BK559 := Aside0.mk (blk_below (Kx BK559.out) hb)
    replace BK580 := Aside0.mk (blk_below (Kx BK580.out) hb)
    replace HB := Aside0.mk (below_step (Bs) hb)
    (try clear hb)
    (try clear hb2)
    (try clear hk)
    (try clear hi)
    (try clear ho0)
    (try clear ho1)
    refine hK.out _ _ ⟨(blk_cell BK559.out 0).trans rfl, (blk_cell BK559.out 1).trans rfl, (blk_cell BK536.out 0).trans rfl, (blk_cell BK536.out 1).trans rfl, (blk_cell BK536.out 2).trans rfl, (blk_cell BK537.out 0).trans rfl, (blk_cell BK537.out 1).trans rfl, (blk_cell BK537.out 2).trans rfl⟩ (fun hHeld => ?_)
    clear hK K
    refine norm_ (a' := ?_) ?_ ?_
    rotate_left
    ·
     show Act.put _ (some 26) _ = _
     simp only [Act.put, List.setIfInBounds_toArray, List.set_cons_zero, List.set_cons_succ, i64_w, i32_w]
     rfl
    refine pure_ (i := 7) (N := some 19) (v := ?_) (a' := ?_) #[true, true, true, true, true, true, true, true, false, false, true, false, false] rfl rfl (any_of HT_.out (by kernel_rfl)) (fun _ _ _ h => h) (Or.inl ⟨by rfl, ?_⟩) ?_ ?_
    rotate_left
    ·
     intro w'
     go_simp
     with_reducible rfl
    rotate_left
    ·
     simp only [Act.put, List.setIfInBounds_toArray, List.set_cons_zero, List.set_cons_succ, i64_w, i32_w]
     rfl
    refine pure_ (i := 8) (N := some 27) (v := ?_) (a' := ?_) #[true, true, true, true, true, true, true, true, true, false, true, false, false] rfl rfl (any_of HT_.out (by kernel_rfl)) (fun _ _ _ h => h) (Or.inl ⟨by rfl, ?_⟩) ?_ ?_
    rotate_left
    ·
     intro w'
     go_simp
     with_reducible rfl
    rotate_left
    ·
     simp only [Act.put, List.setIfInBounds_toArray, List.set_cons_zero, List.set_cons_succ, i64_w, i32_w]
     rfl
    refine pure_ (i := 9) (N := some 28) (v := ?_) (a' := ?_) #[true, true, true, true, true, true, true, true, true, true, true, false, false] rfl rfl (any_of HT_.out (by kernel_rfl)) (fun _ _ _ h => h) (Or.inl ⟨by rfl, ?_⟩) ?_ ?_
    rotate_left
    ·
     intro w'
     go_simp
     with_reducible rfl
    rotate_left
    ·
     simp only [Act.put, List.setIfInBounds_toArray, List.set_cons_zero, List.set_cons_succ, i64_w, i32_w]
     rfl
    exact norm_ (by first | (simp only [putAll, Act.put, List.setIfInBounds_toArray, List.set_cons_zero, List.set_cons_succ]; done) | (simp only [putAll, Act.put, List.setIfInBounds_toArray, List.set_cons_zero, List.set_cons_succ]; rfl)) (hJ2_4_5_6_10 (_, _, .slice Ao39 t569.length co39, _, _, gb580) _ ⟨hHeld, (Kd.Rm HO542.out), (Kd.Rm HO546.out), (Kd.Rm HO550.out), (Kd.Rm HO554.out), (Kd.Rm HO558.out), (Kd.Rm HO563.out), (Kd.Rm HO567.out), (Kd.Rm HO571.out), (Kd.Rm HO575.out), (Kd.Rm HO578.out), (Kx BK536.out), (Kx BK537.out), (Kx BK538.out), (Kx BK559.out), (Kx BK580.out), GW580.out, GE580.out, NB536_580.out, NB580_536.out, NB537_580.out, NB580_537.out, NB538_580.out, NB580_538.out, NB559_580.out, NB580_559.out, (Bs)⟩)
  ·
   skip
   rintro ⟨v562, v566, v570, v574, v577⟩ w39 ⟨hS_, h0_, h1_, h2_, h3_, h4_, h5_, h6_, h7_, h8_, h9_, h10_, h11_, h12_, h13_, h14_⟩
   replace HO542 : Aside0 (Kd.R (Kd.int .u64) 96 w39 w.heap.size (fun k_ => nb k_ v545 ∧ nb k_ v549 ∧ nb k_ v553 ∧ nb k_ (.slice Ao28 t556.length co28) ∧ nb k_ v562 ∧ nb k_ v566 ∧ nb k_ v570 ∧ nb k_ v574 ∧ nb k_ v577) v541 t540) := ⟨h0_⟩
   replace HO546 : Aside0 (Kd.R (Kd.int .u64) 96 w39 w.heap.size (fun k_ => nb k_ v541 ∧ nb k_ v549 ∧ nb k_ v553 ∧ nb k_ (.slice Ao28 t556.length co28) ∧ nb k_ v562 ∧ nb k_ v566 ∧ nb k_ v570 ∧ nb k_ v574 ∧ nb k_ v577) v545 t544) := ⟨h1_⟩
   replace HO550 : Aside0 (Kd.R (Kd.int .u64) 96 w39 w.heap.size (fun k_ => nb k_ v541 ∧ nb k_ v545 ∧ nb k_ v553 ∧ nb k_ (.slice Ao28 t556.length co28) ∧ nb k_ v562 ∧ nb k_ v566 ∧ nb k_ v570 ∧ nb k_ v574 ∧ nb k_ v577) v549 t548) := ⟨h2_⟩
   replace HO554 : Aside0 (Kd.R (Kd.int .u64) 96 w39 w.heap.size (fun k_ => nb k_ v541 ∧ nb k_ v545 ∧ nb k_ v549 ∧ nb k_ (.slice Ao28 t556.length co28) ∧ nb k_ v562 ∧ nb k_ v566 ∧ nb k_ v570 ∧ nb k_ v574 ∧ nb k_ v577) v553 t552) := ⟨h3_⟩
   replace HO558 : Aside0 (Kd.R (Kd.int .u64) 96 w39 w.heap.size (fun k_ => nb k_ v541 ∧ nb k_ v545 ∧ nb k_ v549 ∧ nb k_ v553 ∧ nb k_ v562 ∧ nb k_ v566 ∧ nb k_ v570 ∧ nb k_ v574 ∧ nb k_ v577) (.slice Ao28 t556.length co28) t556) := ⟨h4_⟩
   have HO563 : Aside0 (Kd.R (Kd.int .u64) 96 w39 w.heap.size (fun k_ => nb k_ v541 ∧ nb k_ v545 ∧ nb k_ v549 ∧ nb k_ v553 ∧ nb k_ (.slice Ao28 t556.length co28) ∧ nb k_ v566 ∧ nb k_ v570 ∧ nb k_ v574 ∧ nb k_ v577) v562 t561) := ⟨h5_⟩
   have HO567 : Aside0 (Kd.R (Kd.int .u64) 96 w39 w.heap.size (fun k_ => nb k_ v541 ∧ nb k_ v545 ∧ nb k_ v549 ∧ nb k_ v553 ∧ nb k_ (.slice Ao28 t556.length co28) ∧ nb k_ v562 ∧ nb k_ v570 ∧ nb k_ v574 ∧ nb k_ v577) v566 t565) := ⟨h6_⟩
   have HO571 : Aside0 (Kd.R (Kd.int .u64) 96 w39 w.heap.size (fun k_ => nb k_ v541 ∧ nb k_ v545 ∧ nb k_ v549 ∧ nb k_ v553 ∧ nb k_ (.slice Ao28 t556.length co28) ∧ nb k_ v562 ∧ nb k_ v566 ∧ nb k_ v574 ∧ nb k_ v577) v570 t569) := ⟨h7_⟩
   have HO575 : Aside0 (Kd.R (Kd.int .u64) 96 w39 w.heap.size (fun k_ => nb k_ v541 ∧ nb k_ v545 ∧ nb k_ v549 ∧ nb k_ v553 ∧ nb k_ (.slice Ao28 t556.length co28) ∧ nb k_ v562 ∧ nb k_ v566 ∧ nb k_ v570 ∧ nb k_ v577) v574 t573) := ⟨h8_⟩
   have HO578 : Aside0 (Kd.R (Kd.int .u64) 96 w39 w.heap.size (fun k_ => nb k_ v541 ∧ nb k_ v545 ∧ nb k_ v549 ∧ nb k_ v553 ∧ nb k_ (.slice Ao28 t556.length co28) ∧ nb k_ v562 ∧ nb k_ v566 ∧ nb k_ v570 ∧ nb k_ v574) v577 t576) := ⟨h9_⟩
   replace BK536 : Aside0 (w39.heap[gb536]? = some (.cells #[.bool a0_0, .slice A0_1 l0_1.length c0_1, .slice A0_2 l0_2.length c0_2] 34 (0, 0))) := ⟨h10_⟩
   replace BK537 : Aside0 (w39.heap[gb537]? = some (.cells #[.bool a1_0, .slice A1_1 l1_1.length c1_1, .slice A1_2 l1_2.length c1_2] 34 (0, 0))) := ⟨h11_⟩
   replace BK538 : Aside0 (w39.heap[gb538]? = some (.cells #[.bool false, .slice none 0 0, .slice none 0 0] 34 (0, 0))) := ⟨h12_⟩
   replace BK559 : Aside0 (w39.heap[gb559]? = some (.cells #[.bool t555, .slice Ao28 t556.length co28] 32 (0, 0))) := ⟨h13_⟩
   replace HB : Aside0 (Below w.heap.size w w39) := ⟨h14_⟩
   clear h0_ h1_ h2_ h3_ h4_ h5_ h6_ h7_ h8_ h9_ h10_ h11_ h12_ h13_ h14_
   have hHeld : w39.cell? ⟨gb559, 0, none⟩ = some (.bool t555) ∧ w39.cell? ⟨gb559, 1, none⟩ = some (.slice Ao28 t556.length co28) ∧ w39.cell? ⟨gb536, 0, none⟩ = some (.bool a0_0) ∧ w39.cell? ⟨gb536, 1, none⟩ = some (.slice A0_1 l0_1.length c0_1) ∧ w39.cell? ⟨gb536, 2, none⟩ = some (.slice A0_2 l0_2.length c0_2) ∧ w39.cell? ⟨gb537, 0, none⟩ = some (.bool a1_0) ∧ w39.cell? ⟨gb537, 1, none⟩ = some (.slice A1_1 l1_1.length c1_1) ∧ w39.cell? ⟨gb537, 2, none⟩ = some (.slice A1_2 l1_2.length c1_2) := hS_
   refine norm_ (a' := ?_) ?_ ?_
   rotate_left
   ·
    simp only [putAll, Act.put, List.setIfInBounds_toArray, List.set_cons_zero, List.set_cons_succ]
    rfl
   refine one_ (i := 10) (N := some 6) #[true, true, true, true, true, true, true, true, true, true, true, false, false] rfl rfl (one_of HT_.out (by kernel_rfl)) (by decide) (fun K hK => ?_)
   refine box_step ?hg (N := 6) ?hd (cs := #[.bool false, .slice none 0 0, .slice none 0 0]) (t := 34) ?hr ?_; (case hd => rfl); (case hg => rfl); (case hr => first | (go_simp; done) | (go_simp; rfl))
   intro gb580 hg w40 hbox hb
   have n0_ := Aside0.mk (Kd.R_below (Kd.Rx HO542.out) hb)
   have n1_ := Aside0.mk (Kd.R_below (Kd.Rx HO546.out) hb)
   have n2_ := Aside0.mk (Kd.R_below (Kd.Rx HO550.out) hb)
   have n3_ := Aside0.mk (Kd.R_below (Kd.Rx HO554.out) hb)
   have n4_ := Aside0.mk (Kd.R_below (Kd.Rx HO558.out) hb)
   have n5_ := Aside0.mk (Kd.R_below (Kd.Rx HO563.out) hb)
   have n6_ := Aside0.mk (Kd.R_below (Kd.Rx HO567.out) hb)
   have n7_ := Aside0.mk (Kd.R_below (Kd.Rx HO571.out) hb)
   have n8_ := Aside0.mk (Kd.R_below (Kd.Rx HO575.out) hb)
   have n9_ := Aside0.mk (Kd.R_below (Kd.Rx HO578.out) hb)
   have n10_ := Aside0.mk (blk_below (Kx BK536.out) hb)
   have n11_ := Aside0.mk (blk_below (Kx BK537.out) hb)
   have n12_ := Aside0.mk (blk_below (Kx BK538.out) hb)
   have n13_ := Aside0.mk (blk_below (Kx BK559.out) hb)
   have n14_ := Aside0.mk (below_step (Bs) hb)
   have n15_ := Aside0.mk (hbox)
   have n16_ := Aside0.mk ((by rw [hg]; exact (below_size (Bs)) : w.heap.size ≤ gb580))
   have n17_ := Aside0.mk ((by rw [hg]; exact (below_size (Bs)) : w.heap.size ≤ gb580))
   have n18_ := Aside0.mk ((by rw [hg]; exact Nat.ne_of_lt (blk_lt (Kx BK536.out)) : gb536 ≠ gb580))
   have n19_ := Aside0.mk ((by rw [hg]; exact Nat.ne_of_gt (blk_lt (Kx BK536.out)) : gb580 ≠ gb536))
   have n20_ := Aside0.mk ((by rw [hg]; exact Nat.ne_of_lt (blk_lt (Kx BK537.out)) : gb537 ≠ gb580))
   have n21_ := Aside0.mk ((by rw [hg]; exact Nat.ne_of_gt (blk_lt (Kx BK537.out)) : gb580 ≠ gb537))
   have n22_ := Aside0.mk ((by rw [hg]; exact Nat.ne_of_lt (blk_lt (Kx BK538.out)) : gb538 ≠ gb580))
   have n23_ := Aside0.mk ((by rw [hg]; exact Nat.ne_of_gt (blk_lt (Kx BK538.out)) : gb580 ≠ gb538))
   have n24_ := Aside0.mk ((by rw [hg]; exact Nat.ne_of_lt (blk_lt (Kx BK559.out)) : gb559 ≠ gb580))
   have n25_ := Aside0.mk ((by rw [hg]; exact Nat.ne_of_gt (blk_lt (Kx BK559.out)) : gb580 ≠ gb559))
   clear HO542
   clear HO546
   clear HO550
   clear HO554
   clear HO558
   clear HO563
   clear HO567
   clear HO571
   clear HO575
   clear HO578
   clear BK536
   clear BK537
   clear BK538
   clear BK559
   clear HB
   have HO542 := n0_
   have HO546 := n1_
   have HO550 := n2_
   have HO554 := n3_
   have HO558 := n4_
   have HO563 := n5_
   have HO567 := n6_
   have HO571 := n7_
   have HO575 := n8_
   have HO578 := n9_
   have BK536 := n10_
   have BK537 := n11_
   have BK538 := n12_
   have BK559 := n13_
   have HB := n14_
   have BK580 := n15_
   have GW580 := n16_
   have GE580 := n17_
   have NB536_580 := n18_
   have NB580_536 := n19_
   have NB537_580 := n20_
   have NB580_537 := n21_
   have NB538_580 := n22_
   have NB580_538 := n23_
   have NB559_580 := n24_
   have NB580_559 := n25_
   clear n0_ n1_ n2_ n3_ n4_ n5_ n6_ n7_ n8_ n9_ n10_ n11_ n12_ n13_ n14_ n15_ n16_ n17_ n18_ n19_ n20_ n21_ n22_ n23_ n24_ n25_
   clear hb hbox hg
   refine hK.out _ _ ⟨(blk_cell BK559.out 0).trans rfl, (blk_cell BK559.out 1).trans rfl, (blk_cell BK536.out 0).trans rfl, (blk_cell BK536.out 1).trans rfl, (blk_cell BK536.out 2).trans rfl, (blk_cell BK537.out 0).trans rfl, (blk_cell BK537.out 1).trans rfl, (blk_cell BK537.out 2).trans rfl⟩ (fun hHeld => ?_)
   clear hK K
   refine norm_ (a' := ?_) ?_ ?_
   rotate_left
   ·
    show Act.put _ (some 6) _ = _
    simp only [Act.put, List.setIfInBounds_toArray, List.set_cons_zero, List.set_cons_succ, i64_w, i32_w]
    rfl
   exact norm_ (by first | (simp only [putAll, Act.put, List.setIfInBounds_toArray, List.set_cons_zero, List.set_cons_succ]; done) | (simp only [putAll, Act.put, List.setIfInBounds_toArray, List.set_cons_zero, List.set_cons_succ]; rfl)) (hJ2_4_5_6_10 (_, _, _, _, _, gb580) _ ⟨hHeld, (Kd.Rx HO542.out), (Kd.Rx HO546.out), (Kd.Rx HO550.out), (Kd.Rx HO554.out), (Kd.Rx HO558.out), (Kd.Rx HO563.out), (Kd.Rx HO567.out), (Kd.Rx HO571.out), (Kd.Rx HO575.out), (Kd.Rx HO578.out), (Kx BK536.out), (Kx BK537.out), (Kx BK538.out), (Kx BK559.out), (Kx BK580.out), GW580.out, GE580.out, NB536_580.out, NB580_536.out, NB537_580.out, NB580_537.out, NB538_580.out, NB580_538.out, NB559_580.out, NB580_559.out, (Bs)⟩)
 rintro ⟨v562, v566, v570, v574, v577, gb580⟩ w40 ⟨hS_, h0_, h1_, h2_, h3_, h4_, h5_, h6_, h7_, h8_, h9_, h10_, h11_, h12_, h13_, h14_, h15_, h16_, h17_, h18_, h19_, h20_, h21_, h22_, h23_, h24_, h25_⟩
 replace HO542 : Aside0 (Kd.R (Kd.int .u64) 96 w40 w.heap.size (fun k_ => nb k_ v545 ∧ nb k_ v549 ∧ nb k_ v553 ∧ nb k_ (.slice Ao28 t556.length co28) ∧ nb k_ v562 ∧ nb k_ v566 ∧ nb k_ v570 ∧ nb k_ v574 ∧ nb k_ v577) v541 t540) := ⟨h0_⟩
 replace HO546 : Aside0 (Kd.R (Kd.int .u64) 96 w40 w.heap.size (fun k_ => nb k_ v541 ∧ nb k_ v549 ∧ nb k_ v553 ∧ nb k_ (.slice Ao28 t556.length co28) ∧ nb k_ v562 ∧ nb k_ v566 ∧ nb k_ v570 ∧ nb k_ v574 ∧ nb k_ v577) v545 t544) := ⟨h1_⟩
 replace HO550 : Aside0 (Kd.R (Kd.int .u64) 96 w40 w.heap.size (fun k_ => nb k_ v541 ∧ nb k_ v545 ∧ nb k_ v553 ∧ nb k_ (.slice Ao28 t556.length co28) ∧ nb k_ v562 ∧ nb k_ v566 ∧ nb k_ v570 ∧ nb k_ v574 ∧ nb k_ v577) v549 t548) := ⟨h2_⟩
 replace HO554 : Aside0 (Kd.R (Kd.int .u64) 96 w40 w.heap.size (fun k_ => nb k_ v541 ∧ nb k_ v545 ∧ nb k_ v549 ∧ nb k_ (.slice Ao28 t556.length co28) ∧ nb k_ v562 ∧ nb k_ v566 ∧ nb k_ v570 ∧ nb k_ v574 ∧ nb k_ v577) v553 t552) := ⟨h3_⟩
 replace HO558 : Aside0 (Kd.R (Kd.int .u64) 96 w40 w.heap.size (fun k_ => nb k_ v541 ∧ nb k_ v545 ∧ nb k_ v549 ∧ nb k_ v553 ∧ nb k_ v562 ∧ nb k_ v566 ∧ nb k_ v570 ∧ nb k_ v574 ∧ nb k_ v577) (.slice Ao28 t556.length co28) t556) := ⟨h4_⟩
 have HO563 : Aside0 (Kd.R (Kd.int .u64) 96 w40 w.heap.size (fun k_ => nb k_ v541 ∧ nb k_ v545 ∧ nb k_ v549 ∧ nb k_ v553 ∧ nb k_ (.slice Ao28 t556.length co28) ∧ nb k_ v566 ∧ nb k_ v570 ∧ nb k_ v574 ∧ nb k_ v577) v562 t561) := ⟨h5_⟩
 have HO567 : Aside0 (Kd.R (Kd.int .u64) 96 w40 w.heap.size (fun k_ => nb k_ v541 ∧ nb k_ v545 ∧ nb k_ v549 ∧ nb k_ v553 ∧ nb k_ (.slice Ao28 t556.length co28) ∧ nb k_ v562 ∧ nb k_ v570 ∧ nb k_ v574 ∧ nb k_ v577) v566 t565) := ⟨h6_⟩
 have HO571 : Aside0 (Kd.R (Kd.int .u64) 96 w40 w.heap.size (fun k_ => nb k_ v541 ∧ nb k_ v545 ∧ nb k_ v549 ∧ nb k_ v553 ∧ nb k_ (.slice Ao28 t556.length co28) ∧ nb k_ v562 ∧ nb k_ v566 ∧ nb k_ v574 ∧ nb k_ v577) v570 t569) := ⟨h7_⟩
 have HO575 : Aside0 (Kd.R (Kd.int .u64) 96 w40 w.heap.size (fun k_ => nb k_ v541 ∧ nb k_ v545 ∧ nb k_ v549 ∧ nb k_ v553 ∧ nb k_ (.slice Ao28 t556.length co28) ∧ nb k_ v562 ∧ nb k_ v566 ∧ nb k_ v570 ∧ nb k_ v577) v574 t573) := ⟨h8_⟩
 have HO578 : Aside0 (Kd.R (Kd.int .u64) 96 w40 w.heap.size (fun k_ => nb k_ v541 ∧ nb k_ v545 ∧ nb k_ v549 ∧ nb k_ v553 ∧ nb k_ (.slice Ao28 t556.length co28) ∧ nb k_ v562 ∧ nb k_ v566 ∧ nb k_ v570 ∧ nb k_ v574) v577 t576) := ⟨h9_⟩
 replace BK536 : Aside0 (w40.heap[gb536]? = some (.cells #[.bool a0_0, .slice A0_1 l0_1.length c0_1, .slice A0_2 l0_2.length c0_2] 34 (0, 0))) := ⟨h10_⟩
 replace BK537 : Aside0 (w40.heap[gb537]? = some (.cells #[.bool a1_0, .slice A1_1 l1_1.length c1_1, .slice A1_2 l1_2.length c1_2] 34 (0, 0))) := ⟨h11_⟩
 replace BK538 : Aside0 (w40.heap[gb538]? = some (.cells #[.bool false, .slice none 0 0, .slice none 0 0] 34 (0, 0))) := ⟨h12_⟩
 replace BK559 : Aside0 (w40.heap[gb559]? = some (.cells #[.bool t555, .slice Ao28 t556.length co28] 32 (0, 0))) := ⟨h13_⟩
 have BK580 : Aside0 (w40.heap[gb580]? = some (.cells #[.bool false, .slice none 0 0, .slice none 0 0] 34 (0, 0))) := ⟨h14_⟩
 have GW580 : Aside0 (w.heap.size ≤ gb580) := ⟨h15_⟩
 have GE580 : Aside0 (w.heap.size ≤ gb580) := ⟨h16_⟩
 have NB536_580 : Aside0 (gb536 ≠ gb580) := ⟨h17_⟩
 have NB580_536 : Aside0 (gb580 ≠ gb536) := ⟨h18_⟩
 have NB537_580 : Aside0 (gb537 ≠ gb580) := ⟨h19_⟩
 have NB580_537 : Aside0 (gb580 ≠ gb537) := ⟨h20_⟩
 have NB538_580 : Aside0 (gb538 ≠ gb580) := ⟨h21_⟩
 have NB580_538 : Aside0 (gb580 ≠ gb538) := ⟨h22_⟩
 have NB559_580 : Aside0 (gb559 ≠ gb580) := ⟨h23_⟩
 have NB580_559 : Aside0 (gb580 ≠ gb559) := ⟨h24_⟩
 replace HB : Aside0 (Below w.heap.size w w40) := ⟨h25_⟩
 clear h0_ h1_ h2_ h3_ h4_ h5_ h6_ h7_ h8_ h9_ h10_ h11_ h12_ h13_ h14_ h15_ h16_ h17_ h18_ h19_ h20_ h21_ h22_ h23_ h24_ h25_
 have hHeld : w40.cell? ⟨gb559, 0, none⟩ = some (.bool t555) ∧ w40.cell? ⟨gb559, 1, none⟩ = some (.slice Ao28 t556.length co28) ∧ w40.cell? ⟨gb536, 0, none⟩ = some (.bool a0_0) ∧ w40.cell? ⟨gb536, 1, none⟩ = some (.slice A0_1 l0_1.length c0_1) ∧ w40.cell? ⟨gb536, 2, none⟩ = some (.slice A0_2 l0_2.length c0_2) ∧ w40.cell? ⟨gb537, 0, none⟩ = some (.bool a1_0) ∧ w40.cell? ⟨gb537, 1, none⟩ = some (.slice A1_1 l1_1.length c1_1) ∧ w40.cell? ⟨gb537, 2, none⟩ = some (.slice A1_2 l1_2.length c1_2) := hS_
 obtain ⟨Ao42, co42, eo42⟩ := Kd.R_slice HO575.out
 (first | subst eo42 | (injection eo42 with f1_ f2_ f3_; have f4_ := f1_.symm; have f5_ := f3_.symm; clear f1_ f2_ f3_; subst f4_; subst f5_))
 obtain ⟨Ao44, co44, eo44⟩ := Kd.R_slice HO578.out
 (first | subst eo44 | (injection eo44 with f1_ f2_ f3_; have f4_ := f1_.symm; have f5_ := f3_.symm; clear f1_ f2_ f3_; subst f4_; subst f5_))
 refine norm_ (a' := ?_) ?_ ?_
 rotate_left
 ·
  simp only [putAll, Act.put, List.setIfInBounds_toArray, List.set_cons_zero, List.set_cons_succ]
  rfl
 refine one_ (i := 11) (N := none) #[true, true, true, true, true, true, true, true, true, true, true, true, false] rfl rfl (one_of HT_.out (by kernel_rfl)) (by decide) (fun K hK => ?_)
 have hs41 : w40.cell? ⟨gb580, 0, none⟩ = some (.bool false) := (blk_cell BK580.out 0).trans rfl
 have hfs41 := blk_frozen BK580.out 0
 have hns41_0 := NB536_580.out
 have hns41_1 := NB537_580.out
 have hns41_2 := NB538_580.out
 have hns41_3 := NB559_580.out
 have hms41_0 := NB580_536.out
 have hms41_1 := NB580_537.out
 have hms41_2 := NB580_538.out
 have hms41_3 := NB580_559.out
 have hs43 : w40.cell? ⟨gb580, 1, none⟩ = some (.slice none 0 0) := (blk_cell BK580.out 1).trans rfl
 have hfs43 := blk_frozen BK580.out 1
 have hns43_0 := NB536_580.out
 have hns43_1 := NB537_580.out
 have hns43_2 := NB538_580.out
 have hns43_3 := NB559_580.out
 have hms43_0 := NB580_536.out
 have hms43_1 := NB580_537.out
 have hms43_2 := NB580_538.out
 have hms43_3 := NB580_559.out
 have hs45 : w40.cell? ⟨gb580, 2, none⟩ = some (.slice none 0 0) := (blk_cell BK580.out 2).trans rfl
 have hfs45 := blk_frozen BK580.out 2
 have hns45_0 := NB536_580.out
 have hns45_1 := NB537_580.out
 have hns45_2 := NB538_580.out
 have hns45_3 := NB559_580.out
 have hms45_0 := NB580_536.out
 have hms45_1 := NB580_537.out
 have hms45_2 := NB580_538.out
 have hms45_3 := NB580_559.out
 refine skip_ (w1 := ?_) (by rfl) rfl ?_ ?_
 rotate_left
 ·
  go_simp
  rfl
 refine hK.out _ _ ⟨((cell_far (p := ⟨gb580, _, none⟩) NB559_580.out _).trans (((cell_far (p := ⟨gb580, _, none⟩) NB559_580.out _).trans (((cell_far (p := ⟨gb580, _, none⟩) NB559_580.out _).trans (hHeld.1)))))), ((cell_far (p := ⟨gb580, _, none⟩) NB559_580.out _).trans (((cell_far (p := ⟨gb580, _, none⟩) NB559_580.out _).trans (((cell_far (p := ⟨gb580, _, none⟩) NB559_580.out _).trans (hHeld.2.1)))))), ((cell_far (p := ⟨gb580, _, none⟩) NB536_580.out _).trans (((cell_far (p := ⟨gb580, _, none⟩) NB536_580.out _).trans (((cell_far (p := ⟨gb580, _, none⟩) NB536_580.out _).trans (hHeld.2.2.1)))))), ((cell_far (p := ⟨gb580, _, none⟩) NB536_580.out _).trans (((cell_far (p := ⟨gb580, _, none⟩) NB536_580.out _).trans (((cell_far (p := ⟨gb580, _, none⟩) NB536_580.out _).trans (hHeld.2.2.2.1)))))), ((cell_far (p := ⟨gb580, _, none⟩) NB536_580.out _).trans (((cell_far (p := ⟨gb580, _, none⟩) NB536_580.out _).trans (((cell_far (p := ⟨gb580, _, none⟩) NB536_580.out _).trans (hHeld.2.2.2.2.1)))))), ((cell_far (p := ⟨gb580, _, none⟩) NB537_580.out _).trans (((cell_far (p := ⟨gb580, _, none⟩) NB537_580.out _).trans (((cell_far (p := ⟨gb580, _, none⟩) NB537_580.out _).trans (hHeld.2.2.2.2.2.1)))))), ((cell_far (p := ⟨gb580, _, none⟩) NB537_580.out _).trans (((cell_far (p := ⟨gb580, _, none⟩) NB537_580.out _).trans (((cell_far (p := ⟨gb580, _, none⟩) NB537_580.out _).trans (hHeld.2.2.2.2.2.2.1)))))), ((cell_far (p := ⟨gb580, _, none⟩) NB537_580.out _).trans (((cell_far (p := ⟨gb580, _, none⟩) NB537_580.out _).trans (((cell_far (p := ⟨gb580, _, none⟩) NB537_580.out _).trans (hHeld.2.2.2.2.2.2.2))))))⟩ (fun hHeld => ?_)
 clear hK K
 refine pure_ (i := 12) (N := some 7) (v := ?_) (a' := ?_) #[true, true, true, true, true, true, true, true, true, true, true, true, true] rfl rfl (any_of HT_.out (by kernel_rfl)) (fun _ _ _ h => h) (Or.inl ⟨by rfl, ?_⟩) ?_ ?_
 rotate_left
 ·
  intro w'
  go_simp
  with_reducible rfl
 rotate_left
 ·
  simp only [Act.put, List.setIfInBounds_toArray, List.set_cons_zero, List.set_cons_succ, i64_w, i32_w]
  rfl
 refine done_ (done_of HT_.out (by kernel_rfl)) ?_
 have hnb46 := NB580_536.out
 have hnc46 := NB536_580.out
 have hnb47 := NB580_537.out
 have hnc47 := NB537_580.out
 have hnb48 := NB580_538.out
 have hnc48 := NB538_580.out
 have hnb49 := NB580_559.out
 have hnc49 := NB559_580.out
 have hcz50_0 : w40.cell? ⟨gb580, 0, none⟩ = some (.bool false) := (blk_cell BK580.out 0).trans rfl
 have hcz50_1 : w40.cell? ⟨gb580, 1, none⟩ = some (.slice none 0 0) := (blk_cell BK580.out 1).trans rfl
 have hcz50_2 : w40.cell? ⟨gb580, 2, none⟩ = some (.slice none 0 0) := (blk_cell BK580.out 2).trans rfl
 have hfz50_0 := blk_frozen BK580.out 0
 have hfz50_1 := blk_frozen BK580.out 1
 have hfz50_2 := blk_frozen BK580.out 2
 have hnb51 := NB538_536.out
 have hnc51 := NB536_538.out
 have hnb52 := NB538_537.out
 have hnc52 := NB537_538.out
 have hnb53 := NB538_559.out
 have hnc53 := NB559_538.out
 have hcz54_0 : w40.cell? ⟨gb538, 0, none⟩ = some (.bool false) := (blk_cell BK538.out 0).trans rfl
 have hcz54_1 : w40.cell? ⟨gb538, 1, none⟩ = some (.slice none 0 0) := (blk_cell BK538.out 1).trans rfl
 have hcz54_2 : w40.cell? ⟨gb538, 2, none⟩ = some (.slice none 0 0) := (blk_cell BK538.out 2).trans rfl
 have hfz54_0 := blk_frozen BK538.out 0
 have hfz54_1 := blk_frozen BK538.out 1
 have hfz54_2 := blk_frozen BK538.out 2
 try go_wp2
 refine bodyPost_ret (results_cell_row rfl _ _ gb538 34 #[.bool t572, .slice Ao42 t573.length co42, .slice Ao44 t576.length co44] (0, 0) _ rfl (by (with_reducible repeat (first | refine blk_drewN ?_ _ | refine blk_drew ?_ | refine blk_alloc ?_ _)); refine blk_put (cs := #[.bool t572, .slice Ao42 t573.length co42, .slice none 0 0]) ?_ 2 _ rfl; (with_reducible repeat (first | refine blk_drewN ?_ _ | refine blk_drew ?_ | refine blk_alloc ?_ _)); refine blk_put (cs := #[.bool t572, .slice none 0 0, .slice none 0 0]) ?_ 1 _ rfl; (with_reducible repeat (first | refine blk_drewN ?_ _ | refine blk_drew ?_ | refine blk_alloc ?_ _)); refine blk_put (cs := #[.bool false, .slice none 0 0, .slice none 0 0]) ?_ 0 _ rfl; (with_reducible repeat (first | refine blk_drewN ?_ _ | refine blk_drew ?_ | refine blk_alloc ?_ _)); refine blk_far ?_ NB538_580.out _; (with_reducible repeat (first | refine blk_drewN ?_ _ | refine blk_drew ?_ | refine blk_alloc ?_ _)); refine blk_far ?_ NB538_580.out _; (with_reducible repeat (first | refine blk_drewN ?_ _ | refine blk_drew ?_ | refine blk_alloc ?_ _)); refine blk_far ?_ NB538_580.out _; (with_reducible repeat (first | refine blk_drewN ?_ _ | refine blk_drew ?_ | refine blk_alloc ?_ _)); exact BK538.out) Try.underlying34 rfl (by kernel_rfl)) rfl ?_
 exact ⟨_, _, by first | rfl | (simp [errW_none, errW_some] <;> rfl) | (simp [*, errW_none, errW_some] <;> rfl), by exact Kd.Rx (Kd.R_mono (Kd.R_far (p := ⟨gb538, 2, none⟩) (Kd.R_far (p := ⟨gb538, 1, none⟩) (Kd.R_far (p := ⟨gb538, 0, none⟩) (Kd.R_far (p := ⟨gb580, 2, none⟩) (Kd.R_far (p := ⟨gb580, 1, none⟩) (Kd.R_far (p := ⟨gb580, 0, none⟩) (Kd.R_types (Kd.R_types HO575.out BK580.out (by decide)) BK538.out (by decide)) (fun _ hk => hk.1.2) (.bool t572)) (fun _ hk => hk.1.2) (.slice Ao42 t573.length co42)) (fun _ hk => hk.1.2) (.slice Ao44 t576.length co44)) (fun _ hk => hk.2) (.bool t572)) (fun _ hk => hk.2) (.slice Ao42 t573.length co42)) (fun _ hk => hk.2) (.slice Ao44 t576.length co44)) (fun _ hk => hk.1.1.2.2.2.2.2.2.2.2)), by exact Kd.Rx (Kd.R_mono (Kd.R_far (p := ⟨gb538, 2, none⟩) (Kd.R_far (p := ⟨gb538, 1, none⟩) (Kd.R_far (p := ⟨gb538, 0, none⟩) (Kd.R_far (p := ⟨gb580, 2, none⟩) (Kd.R_far (p := ⟨gb580, 1, none⟩) (Kd.R_far (p := ⟨gb580, 0, none⟩) (Kd.R_types (Kd.R_types HO578.out BK580.out (by decide)) BK538.out (by decide)) (fun _ hk => hk.1.2) (.bool t572)) (fun _ hk => hk.1.2) (.slice Ao42 t573.length co42)) (fun _ hk => hk.1.2) (.slice Ao44 t576.length co44)) (fun _ hk => hk.2) (.bool t572)) (fun _ hk => hk.2) (.slice Ao42 t573.length co42)) (fun _ hk => hk.2) (.slice Ao44 t576.length co44)) (fun _ hk => hk.1.1.2.2.2.2.2.2.2.2)), Bs⟩
end Go.Proofs.Ytpmbcdakpmceiaa.F

end
section
namespace Go.Proofs.Ytpmbcdakpmceiaa.F
open Go.RowKit Go.Proofs.YtpmbcdakpmceiaaW.PrintWords Go.Proofs.YtpmbcdakpmceiaaW.PrintLast Go.Proofs.YtpmbcdakpmceiaaW.PrintMore
attribute [local go_sem] max2_int min2_int max_two min_two max_three min_three max_four min_four
set_option linter.unusedVariables false
set_option linter.unusedSimpArgs false
def rat_Mul.f (k : Nat) (a0_0 : Bool) (l0_1 : List Int) (l0_2 : List Int) (a1_0 : Bool) (l1_1 : List Int) (l1_2 : List Int) : Option (Bool × List Int × List Int) := (whole_Mul.f k a0_0 l0_1 a1_0 l1_1).bind fun bt584 => ((rat_up.f k a0_0 l0_1 l0_2).bind fun bt588 => ((rat_up.f k a1_0 l1_1 l1_2).bind fun bt592 => ((whole_Mul.f k bt588.1 bt588.2 bt592.1 bt592.2).bind fun bt596 => ((rat_Make.f k bt584.1 bt584.2 bt596.1 bt596.2).bind fun bt600 => (some (bt600.1, bt600.2.1, bt600.2.2.1))))))
theorem rat_Mul.mono : ∀ a0 a1 a2 a3 a4 a5 k, LeO (rat_Mul.f k a0 a1 a2 a3 a4 a5) (rat_Mul.f (k + 1) a0 a1 a2 a3 a4 a5) := by
 intro a0 a1 a2 a3 a4 a5 k
 unfold rat_Mul.f
 repeat' first
   | (with_reducible exact rat_Make.mono _ _ _ _ _)
   | (with_reducible exact rat_up.mono _ _ _ _)
   | (with_reducible exact whole_Mul.mono _ _ _ _ _)
   | (with_reducible exact LeO.refl _)
   | (with_reducible exact LeO.none _)
   | (with_reducible refine LeO.ite ?_ ?_)
   | (with_reducible refine LeO.bind ?_ (fun _ => ?_))
   | exact rat_Make.mono _ _ _ _ _
   | exact rat_up.mono _ _ _ _
   | exact whole_Mul.mono _ _ _ _ _
   | exact LeO.none _
   | refine LeO.ite ?_ ?_
   | refine LeO.bind ?_ (fun _ => ?_)
end Go.Proofs.Ytpmbcdakpmceiaa.F

end
