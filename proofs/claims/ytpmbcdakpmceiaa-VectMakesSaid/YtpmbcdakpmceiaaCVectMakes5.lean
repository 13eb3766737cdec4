/- A part of the proof of the law VectMakes: words, what the Go code does function by function, lemmas (assembled by wip/assemble.py). -/
import Derived.Test.YtpmbcdakpmceiaaCVectMakes4
set_option linter.unusedVariables false
set_option linter.unusedSimpArgs false
set_option linter.unusedSectionVars false
section
namespace Go.Proofs.Ytpmbcdakpmceiaa.F
open Go.RowKit Go.Proofs.YtpmbcdakpmceiaaW.PrintWords Go.Proofs.YtpmbcdakpmceiaaW.PrintLast Go.Proofs.YtpmbcdakpmceiaaW.PrintMore
attribute [local go_sem] max2_int min2_int max_two min_two max_three min_three max_four min_four
set_option linter.unusedVariables false
set_option linter.unusedSimpArgs false
def rat_Mul.T1 : Bool × List (List Nat × List Nat) := (true, [([], []), ([0], [0]), ([], []), ([2], [2]), ([1, 3], [1, 3]), ([], []), ([5, 4], [5]), ([], []), ([7, 6], [7]), ([6, 8, 8], [6, 8]), ([4, 9, 9], [4, 9]), ([10], [10]), ([11], [11]), ([11], [11]), ([], []), ([14, 12, 10, 0, 1, 2, 3, 4, 5, 6, 7, 8, 9, 10, 11, 12, 14], [12, 14]), ([13, 15, 0, 1, 2, 3, 4, 5, 6, 7, 8, 9, 10, 11, 12, 13, 14, 15], [13])])
def rat_Mul.B1 : List Nat := [0, 1, 0, 4, 15, 0, 63, 0, 255, 511, 1023, 2047, 4095, 4095, 0, 24575, 65535]
theorem rat_Mul.tab1 : rtab .any (opsOf Try.f22 1) = rat_Mul.T1 := by kernel_rfl
theorem rat_Mul.bits1 : waitsOk rat_Mul.T1.2 rat_Mul.B1 = true := by kernel_rfl
set_option maxHeartbeats 8000000 in
set_option maxRecDepth 100000 in
theorem rat_Mul.calls (k : Nat) (a0_0 : Bool) (A0_1 : Option Addr) (c0_1 : Nat) (l0_1 : List Int) (A0_2 : Option Addr) (c0_2 : Nat) (l0_2 : List Int) (a1_0 : Bool) (A1_1 : Option Addr) (c1_1 : Nat) (l1_1 : List Int) (A1_2 : Option Addr) (c1_2 : Nat) (l1_2 : List Int) (r1 : Bool) (r2 : List Int) (r3 : List Int) (w : World) (hr0_1 : Kd.C (Kd.int .u64) w A0_1 l0_1.length l0_1) (hc0_1 : l0_1.length ≤ c0_1) (hr0_2 : Kd.C (Kd.int .u64) w A0_2 l0_2.length l0_2) (hc0_2 : l0_2.length ≤ c0_2) (hr1_1 : Kd.C (Kd.int .u64) w A1_1 l1_1.length l1_1) (hc1_1 : l1_1.length ≤ c1_1) (hr1_2 : Kd.C (Kd.int .u64) w A1_2 l1_2.length l1_2) (hc1_2 : l1_2.length ≤ c1_2) (h : rat_Mul.f k a0_0 l0_1 l0_2 a1_0 l1_1 l1_2 = some (r1, r2, r3)) :
  Calls Try.prog 22 #[.agg #[.bool a0_0, .slice A0_1 l0_1.length c0_1, .slice A0_2 l0_2.length c0_2], .agg #[.bool a1_0, .slice A1_1 l1_1.length c1_1, .slice A1_2 l1_2.length c1_2]] w fun e w' => ∃ v1_ v2_ : Value, e = .returned (.agg #[.bool r1, v1_, v2_]) ∧ Kd.R (Kd.int .u64) 96 w' w.heap.size (fun k_ => nb k_ v2_) v1_ r2 ∧ Kd.R (Kd.int .u64) 96 w' w.heap.size (fun k_ => nb k_ v1_) v2_ r3 ∧ Below w.heap.size w w' := by
 have hu34 := Try.underlying34
 have hu32 := Try.underlying32
 have HR0_1 := Aside0.mk hr0_1
 have HC0_1 := Aside0.mk hc0_1
 clear hr0_1 hc0_1
 have HR0_2 := Aside0.mk hr0_2
 have HC0_2 := Aside0.mk hc0_2
 clear hr0_2 hc0_2
 have HR1_1 := Aside0.mk hr1_1
 have HC1_1 := Aside0.mk hc1_1
 clear hr1_1 hc1_1
 have HR1_2 := Aside0.mk hr1_2
 have HC1_2 := Aside0.mk hc1_2
 clear hr1_2 hc1_2
 have HB := Aside0.mk (Below.refl w.heap.size w)
 have H : ((whole_Mul.f k a0_0 l0_1 a1_0 l1_1).bind fun bt584 => ((rat_up.f k a0_0 l0_1 l0_2).bind fun bt588 => ((rat_up.f k a1_0 l1_1 l1_2).bind fun bt592 => ((whole_Mul.f k bt588.1 bt588.2 bt592.1 bt592.2).bind fun bt596 => ((rat_Make.f k bt584.1 bt584.2 bt596.1 bt596.2).bind fun bt600 => (some (bt600.1, bt600.2.1, bt600.2.2.1))))))) = some (r1, r2, r3) := h
 clear h
 replace H := Option.bind_eq_some_iff.mp H
 obtain ⟨⟨t584, t585⟩, A30, H⟩ := H
 replace H : ((rat_up.f k a0_0 l0_1 l0_2).bind fun bt588 => ((rat_up.f k a1_0 l1_1 l1_2).bind fun bt592 => ((whole_Mul.f k bt588.1 bt588.2 bt592.1 bt592.2).bind fun bt596 => ((rat_Make.f k t584 t585 bt596.1 bt596.2).bind fun bt600 => (some (bt600.1, bt600.2.1, bt600.2.2.1)))))) = some (r1, r2, r3) := H
 have A3 := Aside0.mk A30
 clear A30
 replace H := Option.bind_eq_some_iff.mp H
 obtain ⟨⟨t588, t589⟩, A40, H⟩ := H
 replace H : ((rat_up.f k a1_0 l1_1 l1_2).bind fun bt592 => ((whole_Mul.f k t588 t589 bt592.1 bt592.2).bind fun bt596 => ((rat_Make.f k t584 t585 bt596.1 bt596.2).bind fun bt600 => (some (bt600.1, bt600.2.1, bt600.2.2.1))))) = some (r1, r2, r3) := H
 have A4 := Aside0.mk A40
 clear A40
 replace H := Option.bind_eq_some_iff.mp H
 obtain ⟨⟨t592, t593⟩, A50, H⟩ := H
 replace H : ((whole_Mul.f k t588 t589 t592 t593).bind fun bt596 => ((rat_Make.f k t584 t585 bt596.1 bt596.2).bind fun bt600 => (some (bt600.1, bt600.2.1, bt600.2.2.1)))) = some (r1, r2, r3) := H
 have A5 := Aside0.mk A50
 clear A50
 replace H := Option.bind_eq_some_iff.mp H
 obtain ⟨⟨t596, t597⟩, A60, H⟩ := H
 replace H : ((rat_Make.f k t584 t585 t596 t597).bind fun bt600 => (some (bt600.1, bt600.2.1, bt600.2.2.1))) = some (r1, r2, r3) := H
 have A6 := Aside0.mk A60
 clear A60
 replace H := Option.bind_eq_some_iff.mp H
 obtain ⟨⟨t600, t601, t604, t607⟩, A70, H⟩ := H
 replace H : (some (t600, t601, t604)) = some (r1, r2, r3) := H
 have A7 := Aside0.mk A70
 clear A70
 simp only [Option.some.injEq, Prod.mk.injEq] at H
 obtain ⟨rfl, rfl, rfl⟩ := H
 go_enter Try.func22, Try.ntmps22
 try go_wp2_with (first | ((with_reducible refine gate_dst (N := 2) rfl ?_); refine box_event ?hg (N := 2) ?hd (cs := #[.bool a0_0, .slice A0_1 l0_1.length c0_1, .slice A0_2 l0_2.length c0_2]) (t := 34) ?hr ?_; (case hd => rfl); (case hg => rfl); (case hr => first | (go_simp; done) | (go_simp; rfl)); intro gb581 hg w8 hbox hb; have BK581 := Aside0.mk (hbox); have GW581 := Aside0.mk ((by rw [hg]; exact (below_size (Bx HB.out)) : w.heap.size ≤ gb581)); have GE581 := Aside0.mk ((by rw [hg]; exact (below_size (Bx HB.out)) : w.heap.size ≤ gb581)); replace HB := Aside0.mk (below_step (Bx HB.out) hb); clear hb hbox hg) | ((with_reducible refine gate_dst (N := 3) rfl ?_); refine box_event ?hg (N := 3) ?hd (cs := #[.bool a1_0, .slice A1_1 l1_1.length c1_1, .slice A1_2 l1_2.length c1_2]) (t := 34) ?hr ?_; (case hd => rfl); (case hg => rfl); (case hr => first | (go_simp; done) | (go_simp; rfl)); intro gb582 hg w9 hbox hb; have n0_ := Aside0.mk (blk_below (Kx BK581.out) hb); have n1_ := Aside0.mk (below_step (Bs) hb); have n2_ := Aside0.mk (hbox); have n3_ := Aside0.mk ((by rw [hg]; exact (below_size (Bs)) : w.heap.size ≤ gb582)); have n4_ := Aside0.mk ((by rw [hg]; exact (below_size (Bs)) : w.heap.size ≤ gb582)); have n5_ := Aside0.mk ((by rw [hg]; exact Nat.ne_of_lt (blk_lt (Kx BK581.out)) : gb581 ≠ gb582)); have n6_ := Aside0.mk ((by rw [hg]; exact Nat.ne_of_gt (blk_lt (Kx BK581.out)) : gb582 ≠ gb581)); clear BK581; clear HB; have BK581 := n0_; have HB := n1_; have BK582 := n2_; have GW582 := n3_; have GE582 := n4_; have NB581_582 := n5_; have NB582_581 := n6_; clear n0_ n1_ n2_ n3_ n4_ n5_ n6_; clear hb hbox hg) | ((with_reducible refine gate_dst (N := 4) rfl ?_); refine box_event ?hg (N := 4) ?hd (cs := #[.bool false, .slice none 0 0, .slice none 0 0]) (t := 34) ?hr ?_; (case hd => rfl); (case hg => rfl); (case hr => first | (go_simp; done) | (go_simp; rfl)); intro gb583 hg w10 hbox hb; have n0_ := Aside0.mk (blk_below (Kx BK581.out) hb); have n1_ := Aside0.mk (blk_below (Kx BK582.out) hb); have n2_ := Aside0.mk (below_step (Bs) hb); have n3_ := Aside0.mk (hbox); have n4_ := Aside0.mk ((by rw [hg]; exact (below_size (Bs)) : w.heap.size ≤ gb583)); have n5_ := Aside0.mk ((by rw [hg]; exact (below_size (Bs)) : w.heap.size ≤ gb583)); have n6_ := Aside0.mk ((by rw [hg]; exact Nat.ne_of_lt (blk_lt (Kx BK581.out)) : gb581 ≠ gb583)); have n7_ := Aside0.mk ((by rw [hg]; exact Nat.ne_of_gt (blk_lt (Kx BK581.out)) : gb583 ≠ gb581)); have n8_ := Aside0.mk ((by rw [hg]; exact Nat.ne_of_lt (blk_lt (Kx BK582.out)) : gb582 ≠ gb583)); have n9_ := Aside0.mk ((by rw [hg]; exact Nat.ne_of_gt (blk_lt (Kx BK582.out)) : gb583 ≠ gb582)); clear BK581; clear BK582; clear HB; have BK581 := n0_; have BK582 := n1_; have HB := n2_; have BK583 := n3_; have GW583 := n4_; have GE583 := n5_; have NB581_583 := n6_; have NB583_581 := n7_; have NB582_583 := n8_; have NB583_582 := n9_; clear n0_ n1_ n2_ n3_ n4_ n5_ n6_ n7_ n8_ n9_; clear hb hbox hg))
 replace BK581 := Aside0.mk (blk_drew BK581.out)
 replace BK582 := Aside0.mk (blk_drew BK582.out)
 replace BK583 := Aside0.mk (blk_drew BK583.out)
 replace HB := Aside0.mk (below_drew1 HB.out)
 refine start_ (n := 17) (S := fun w' => w'.cell? ⟨gb581, 0, none⟩ = some (.bool a0_0) ∧ w'.cell? ⟨gb581, 1, none⟩ = some (.slice A0_1 l0_1.length c0_1) ∧ w'.cell? ⟨gb581, 2, none⟩ = some (.slice A0_2 l0_2.length c0_2) ∧ w'.cell? ⟨gb582, 0, none⟩ = some (.bool a1_0) ∧ w'.cell? ⟨gb582, 1, none⟩ = some (.slice A1_1 l1_1.length c1_1) ∧ w'.cell? ⟨gb582, 2, none⟩ = some (.slice A1_2 l1_2.length c1_2)) (ds := []) #[false, false, false, false, false, false, false, false, false, false, false, false, false, false, false, false, false] (by kernel_rfl) rfl rfl ⟨(blk_cell BK581.out 0).trans rfl, (blk_cell BK581.out 1).trans rfl, (blk_cell BK581.out 2).trans rfl, (blk_cell BK582.out 0).trans rfl, (blk_cell BK582.out 1).trans rfl, (blk_cell BK582.out 2).trans rfl⟩ (fun hHeld => ?_); refine with_tabW rat_Mul.tab1 rat_Mul.bits1 (fun HT_ HW_ => ?_)
 generalize w10.drew = w11 at BK581 BK582 BK583 HB hHeld ⊢
 refine pure_ (i := 0) (N := some 8) (v := ?_) (a' := ?_) #[true, false, false, false, false, false, false, false, false, false, false, false, false, false, false, false, false] rfl rfl (any_of HT_.out (by kernel_rfl)) (fun _ _ _ h => h) (Or.inl ⟨by rfl, ?_⟩) ?_ ?_
 rotate_left
 ·
  intro w'
  go_simp
  with_reducible rfl
 rotate_left
 ·
  simp only [Act.put, List.setIfInBounds_toArray, List.set_cons_zero, List.set_cons_succ, i64_w, i32_w]
  rfl
 refine pure_ (i := 2) (N := some 10) (v := ?_) (a' := ?_) #[true, false, true, false, false, false, false, false, false, false, false, false, false, false, false, false, false] rfl rfl (any_of HT_.out (by kernel_rfl)) (fun _ _ _ h => h) (Or.inl ⟨by rfl, ?_⟩) ?_ ?_
 rotate_left
 ·
  intro w'
  go_simp
  with_reducible rfl
 rotate_left
 ·
  simp only [Act.put, List.setIfInBounds_toArray, List.set_cons_zero, List.set_cons_succ, i64_w, i32_w]
  rfl
 refine take_ (i := 1) (N := some 9) (v := ?_) (a' := ?_) #[true, true, true, false, false, false, false, false, false, false, false, false, false, false, false, false, false] rfl rfl (take_ofW HT_.out HW_.out (by kernel_rfl)) (fun _ _ _ h => h) (Or.inl ⟨by rfl, ?_⟩) hHeld ?_ ?_
 rotate_left
 ·
  rintro w' ⟨s0, s1, s2, s3, s4, s5⟩
  go_simp
  with_reducible rfl
 rotate_left
 ·
  simp only [Act.put, List.setIfInBounds_toArray, List.set_cons_zero, List.set_cons_succ, i64_w, i32_w]
  rfl
 refine take_ (i := 3) (N := some 11) (v := ?_) (a' := ?_) #[true, true, true, true, false, false, false, false, false, false, false, false, false, false, false, false, false] rfl rfl (take_ofW HT_.out HW_.out (by kernel_rfl)) (fun _ _ _ h => h) (Or.inl ⟨by rfl, ?_⟩) hHeld ?_ ?_
 rotate_left
 ·
  rintro w' ⟨s0, s1, s2, s3, s4, s5⟩
  go_simp
  with_reducible rfl
 rotate_left
 ·
  simp only [Act.put, List.setIfInBounds_toArray, List.set_cons_zero, List.set_cons_succ, i64_w, i32_w]
  rfl
 refine take_ (i := 5) (N := some 13) (v := ?_) (a' := ?_) #[true, true, true, true, false, true, false, false, false, false, false, false, false, false, false, false, false] rfl rfl (take_ofW HT_.out HW_.out (by kernel_rfl)) (fun _ _ _ h => h) (Or.inl ⟨by rfl, ?_⟩) hHeld ?_ ?_
 rotate_left
 ·
  rintro w' ⟨s0, s1, s2, s3, s4, s5⟩
  go_simp
  with_reducible rfl
 rotate_left
 ·
  simp only [Act.put, List.setIfInBounds_toArray, List.set_cons_zero, List.set_cons_succ, i64_w, i32_w]
  rfl
 refine take_ (i := 7) (N := some 15) (v := ?_) (a' := ?_) #[true, true, true, true, false, true, false, true, false, false, false, false, false, false, false, false, false] rfl rfl (take_ofW HT_.out HW_.out (by kernel_rfl)) (fun _ _ _ h => h) (Or.inl ⟨by rfl, ?_⟩) hHeld ?_ ?_
 rotate_left
 ·
  rintro w' ⟨s0, s1, s2, s3, s4, s5⟩
  go_simp
  with_reducible rfl
 rotate_left
 ·
  simp only [Act.put, List.setIfInBounds_toArray, List.set_cons_zero, List.set_cons_succ, i64_w, i32_w]
  rfl
 refine join_ (σ := Value × Value × Value × Value × Value × Value × Nat) 2 #[true, true, true, true, true, true, true, true, true, true, true, true, true, true, true, false, false] (fun s_ => [(12, .agg #[.bool t584, s_.1]), (14, .agg #[.bool t588, s_.2.1]), (16, .agg #[.bool t592, s_.2.2.1]), (17, .agg #[.bool t596, s_.2.2.2.1]), (18, .tuple #[.agg #[.bool t600, s_.2.2.2.2.1, s_.2.2.2.2.2.1], .int .i64 t607]), (5, .pointer (some ⟨s_.2.2.2.2.2.2, 0, none⟩)), (7, .tuple #[.agg #[.bool t600, s_.2.2.2.2.1, s_.2.2.2.2.2.1], .int .i64 t607]), (19, .agg #[.bool t600, s_.2.2.2.2.1, s_.2.2.2.2.2.1]), (20, .int .i64 t607)]) (fun s_ w' => (w'.cell? ⟨gb581, 0, none⟩ = some (.bool a0_0) ∧ w'.cell? ⟨gb581, 1, none⟩ = some (.slice A0_1 l0_1.length c0_1) ∧ w'.cell? ⟨gb581, 2, none⟩ = some (.slice A0_2 l0_2.length c0_2) ∧ w'.cell? ⟨gb582, 0, none⟩ = some (.bool a1_0) ∧ w'.cell? ⟨gb582, 1, none⟩ = some (.slice A1_1 l1_1.length c1_1) ∧ w'.cell? ⟨gb582, 2, none⟩ = some (.slice A1_2 l1_2.length c1_2)) ∧ (Kd.R (Kd.int .u64) 96 w' w.heap.size (fun k_ => nb k_ (s_.2.1) ∧ nb k_ (s_.2.2.1) ∧ nb k_ (s_.2.2.2.1) ∧ nb k_ (s_.2.2.2.2.1) ∧ nb k_ (s_.2.2.2.2.2.1)) s_.1 t585) ∧ (Kd.R (Kd.int .u64) 96 w' w.heap.size (fun k_ => nb k_ (s_.1) ∧ nb k_ (s_.2.2.1) ∧ nb k_ (s_.2.2.2.1) ∧ nb k_ (s_.2.2.2.2.1) ∧ nb k_ (s_.2.2.2.2.2.1)) s_.2.1 t589) ∧ (Kd.R (Kd.int .u64) 96 w' w.heap.size (fun k_ => nb k_ (s_.1) ∧ nb k_ (s_.2.1) ∧ nb k_ (s_.2.2.2.1) ∧ nb k_ (s_.2.2.2.2.1) ∧ nb k_ (s_.2.2.2.2.2.1)) s_.2.2.1 t593) ∧ (Kd.R (Kd.int .u64) 96 w' w.heap.size (fun k_ => nb k_ (s_.1) ∧ nb k_ (s_.2.1) ∧ nb k_ (s_.2.2.1) ∧ nb k_ (s_.2.2.2.2.1) ∧ nb k_ (s_.2.2.2.2.2.1)) s_.2.2.2.1 t597) ∧ (Kd.R (Kd.int .u64) 96 w' w.heap.size (fun k_ => nb k_ (s_.1) ∧ nb k_ (s_.2.1) ∧ nb k_ (s_.2.2.1) ∧ nb k_ (s_.2.2.2.1) ∧ nb k_ (s_.2.2.2.2.2.1)) s_.2.2.2.2.1 t601) ∧ (Kd.R (Kd.int .u64) 96 w' w.heap.size (fun k_ => nb k_ (s_.1) ∧ nb k_ (s_.2.1) ∧ nb k_ (s_.2.2.1) ∧ nb k_ (s_.2.2.2.1) ∧ nb k_ (s_.2.2.2.2.1)) s_.2.2.2.2.2.1 t604) ∧ (w'.heap[gb581]? = some (.cells #[.bool a0_0, .slice A0_1 l0_1.length c0_1, .slice A0_2 l0_2.length c0_2] 34 (0, 0))) ∧ (w'.heap[gb582]? = some (.cells #[.bool a1_0, .slice A1_1 l1_1.length c1_1, .slice A1_2 l1_2.length c1_2] 34 (0, 0))) ∧ (w'.heap[gb583]? = some (.cells #[.bool false, .slice none 0 0, .slice none 0 0] 34 (0, 0))) ∧ (w'.heap[s_.2.2.2.2.2.2]? = some (.cells #[.bool false, .slice none 0 0, .slice none 0 0] 34 (0, 0))) ∧ (w.heap.size ≤ s_.2.2.2.2.2.2) ∧ (w.heap.size ≤ s_.2.2.2.2.2.2) ∧ (gb581 ≠ s_.2.2.2.2.2.2) ∧ (s_.2.2.2.2.2.2 ≠ gb581) ∧ (gb582 ≠ s_.2.2.2.2.2.2) ∧ (s_.2.2.2.2.2.2 ≠ gb582) ∧ (gb583 ≠ s_.2.2.2.2.2.2) ∧ (s_.2.2.2.2.2.2 ≠ gb583) ∧ (Below w.heap.size w w')) ?_ ?_
 rotate_left
 ·
  intro hJ4_6_8_9_10_14
  refine join_ (σ := Value × Value × Value × Value × Value × Value) 3 #[true, true, true, true, true, true, true, true, true, true, true, true, true, true, false, false, false] (fun s_ => [(12, .agg #[.bool t584, s_.1]), (14, .agg #[.bool t588, s_.2.1]), (16, .agg #[.bool t592, s_.2.2.1]), (17, .agg #[.bool t596, s_.2.2.2.1]), (18, .tuple #[.agg #[.bool t600, s_.2.2.2.2.1, s_.2.2.2.2.2], .int .i64 t607]), (7, .tuple #[.agg #[.bool t600, s_.2.2.2.2.1, s_.2.2.2.2.2], .int .i64 t607]), (19, .agg #[.bool t600, s_.2.2.2.2.1, s_.2.2.2.2.2]), (20, .int .i64 t607)]) (fun s_ w' => (w'.cell? ⟨gb581, 0, none⟩ = some (.bool a0_0) ∧ w'.cell? ⟨gb581, 1, none⟩ = some (.slice A0_1 l0_1.length c0_1) ∧ w'.cell? ⟨gb581, 2, none⟩ = some (.slice A0_2 l0_2.length c0_2) ∧ w'.cell? ⟨gb582, 0, none⟩ = some (.bool a1_0) ∧ w'.cell? ⟨gb582, 1, none⟩ = some (.slice A1_1 l1_1.length c1_1) ∧ w'.cell? ⟨gb582, 2, none⟩ = some (.slice A1_2 l1_2.length c1_2)) ∧ (Kd.R (Kd.int .u64) 96 w' w.heap.size (fun k_ => nb k_ (s_.2.1) ∧ nb k_ (s_.2.2.1) ∧ nb k_ (s_.2.2.2.1) ∧ nb k_ (s_.2.2.2.2.1) ∧ nb k_ (s_.2.2.2.2.2)) s_.1 t585) ∧ (Kd.R (Kd.int .u64) 96 w' w.heap.size (fun k_ => nb k_ (s_.1) ∧ nb k_ (s_.2.2.1) ∧ nb k_ (s_.2.2.2.1) ∧ nb k_ (s_.2.2.2.2.1) ∧ nb k_ (s_.2.2.2.2.2)) s_.2.1 t589) ∧ (Kd.R (Kd.int .u64) 96 w' w.heap.size (fun k_ => nb k_ (s_.1) ∧ nb k_ (s_.2.1) ∧ nb k_ (s_.2.2.2.1) ∧ nb k_ (s_.2.2.2.2.1) ∧ nb k_ (s_.2.2.2.2.2)) s_.2.2.1 t593) ∧ (Kd.R (Kd.int .u64) 96 w' w.heap.size (fun k_ => nb k_ (s_.1) ∧ nb k_ (s_.2.1) ∧ nb k_ (s_.2.2.1) ∧ nb k_ (s_.2.2.2.2.1) ∧ nb k_ (s_.2.2.2.2.2)) s_.2.2.2.1 t597) ∧ (Kd.R (Kd.int .u64) 96 w' w.heap.size (fun k_ => nb k_ (s_.1) ∧ nb k_ (s_.2.1) ∧ nb k_ (s_.2.2.1) ∧ nb k_ (s_.2.2.2.1) ∧ nb k_ (s_.2.2.2.2.2)) s_.2.2.2.2.1 t601) ∧ (Kd.R (Kd.int .u64) 96 w' w.heap.size (fun k_ => nb k_ (s_.1) ∧ nb k_ (s_.2.1) ∧ nb k_ (s_.2.2.1) ∧ nb k_ (s_.2.2.2.1) ∧ nb k_ (s_.2.2.2.2.1)) s_.2.2.2.2.2 t604) ∧ (w'.heap[gb581]? = some (.cells #[.bool a0_0, .slice A0_1 l0_1.length c0_1, .slice A0_2 l0_2.length c0_2] 34 (0, 0))) ∧ (w'.heap[gb582]? = some (.cells #[.bool a1_0, .slice A1_1 l1_1.length c1_1, .slice A1_2 l1_2.length c1_2] 34 (0, 0))) ∧ (w'.heap[gb583]? = some (.cells #[.bool false, .slice none 0 0, .slice none 0 0] 34 (0, 0))) ∧ (Below w.heap.size w w')) ?_ ?_
  rotate_left
  ·
   intro hJ4_6_8_9_10
   refine join_ (σ := Value × Value × Value × Value × Nat) 6 #[true, true, true, true, true, true, true, true, true, true, false, false, false, false, true, false, false] (fun s_ => [(12, .agg #[.bool t584, s_.1]), (14, .agg #[.bool t588, s_.2.1]), (16, .agg #[.bool t592, s_.2.2.1]), (17, .agg #[.bool t596, s_.2.2.2.1]), (5, .pointer (some ⟨s_.2.2.2.2, 0, none⟩))]) (fun s_ w' => (w'.cell? ⟨gb581, 0, none⟩ = some (.bool a0_0) ∧ w'.cell? ⟨gb581, 1, none⟩ = some (.slice A0_1 l0_1.length c0_1) ∧ w'.cell? ⟨gb581, 2, none⟩ = some (.slice A0_2 l0_2.length c0_2) ∧ w'.cell? ⟨gb582, 0, none⟩ = some (.bool a1_0) ∧ w'.cell? ⟨gb582, 1, none⟩ = some (.slice A1_1 l1_1.length c1_1) ∧ w'.cell? ⟨gb582, 2, none⟩ = some (.slice A1_2 l1_2.length c1_2)) ∧ (Kd.R (Kd.int .u64) 96 w' w.heap.size (fun k_ => nb k_ (s_.2.1) ∧ nb k_ (s_.2.2.1) ∧ nb k_ (s_.2.2.2.1)) s_.1 t585) ∧ (Kd.R (Kd.int .u64) 96 w' w.heap.size (fun k_ => nb k_ (s_.1) ∧ nb k_ (s_.2.2.1) ∧ nb k_ (s_.2.2.2.1)) s_.2.1 t589) ∧ (Kd.R (Kd.int .u64) 96 w' w.heap.size (fun k_ => nb k_ (s_.1) ∧ nb k_ (s_.2.1) ∧ nb k_ (s_.2.2.2.1)) s_.2.2.1 t593) ∧ (Kd.R (Kd.int .u64) 96 w' w.heap.size (fun k_ => nb k_ (s_.1) ∧ nb k_ (s_.2.1) ∧ nb k_ (s_.2.2.1)) s_.2.2.2.1 t597) ∧ (w'.heap[gb581]? = some (.cells #[.bool a0_0, .slice A0_1 l0_1.length c0_1, .slice A0_2 l0_2.length c0_2] 34 (0, 0))) ∧ (w'.heap[gb582]? = some (.cells #[.bool a1_0, .slice A1_1 l1_1.length c1_1, .slice A1_2 l1_2.length c1_2] 34 (0, 0))) ∧ (w'.heap[gb583]? = some (.cells #[.bool false, .slice none 0 0, .slice none 0 0] 34 (0, 0))) ∧ (w'.heap[s_.2.2.2.2]? = some (.cells #[.bool false, .slice none 0 0, .slice none 0 0] 34 (0, 0))) ∧ (w.heap.size ≤ s_.2.2.2.2) ∧ (w.heap.size ≤ s_.2.2.2.2) ∧ (gb581 ≠ s_.2.2.2.2) ∧ (s_.2.2.2.2 ≠ gb581) ∧ (gb582 ≠ s_.2.2.2.2) ∧ (s_.2.2.2.2 ≠ gb582) ∧ (gb583 ≠ s_.2.2.2.2) ∧ (s_.2.2.2.2 ≠ gb583) ∧ (Below w.heap.size w w')) ?_ ?_
   rotate_left
   ·
    intro hJ4_6_8_9_14
    refine join_ (σ := Value × Value × Value × Value) 7 #[true, true, true, true, true, true, true, true, true, true, false, false, false, false, false, false, false] (fun s_ => [(12, .agg #[.bool t584, s_.1]), (14, .agg #[.bool t588, s_.2.1]), (16, .agg #[.bool t592, s_.2.2.1]), (17, .agg #[.bool t596, s_.2.2.2])]) (fun s_ w' => (w'.cell? ⟨gb581, 0, none⟩ = some (.bool a0_0) ∧ w'.cell? ⟨gb581, 1, none⟩ = some (.slice A0_1 l0_1.length c0_1) ∧ w'.cell? ⟨gb581, 2, none⟩ = some (.slice A0_2 l0_2.length c0_2) ∧ w'.cell? ⟨gb582, 0, none⟩ = some (.bool a1_0) ∧ w'.cell? ⟨gb582, 1, none⟩ = some (.slice A1_1 l1_1.length c1_1) ∧ w'.cell? ⟨gb582, 2, none⟩ = some (.slice A1_2 l1_2.length c1_2)) ∧ (Kd.R (Kd.int .u64) 96 w' w.heap.size (fun k_ => nb k_ (s_.2.1) ∧ nb k_ (s_.2.2.1) ∧ nb k_ (s_.2.2.2)) s_.1 t585) ∧ (Kd.R (Kd.int .u64) 96 w' w.heap.size (fun k_ => nb k_ (s_.1) ∧ nb k_ (s_.2.2.1) ∧ nb k_ (s_.2.2.2)) s_.2.1 t589) ∧ (Kd.R (Kd.int .u64) 96 w' w.heap.size (fun k_ => nb k_ (s_.1) ∧ nb k_ (s_.2.1) ∧ nb k_ (s_.2.2.2)) s_.2.2.1 t593) ∧ (Kd.R (Kd.int .u64) 96 w' w.heap.size (fun k_ => nb k_ (s_.1) ∧ nb k_ (s_.2.1) ∧ nb k_ (s_.2.2.1)) s_.2.2.2 t597) ∧ (w'.heap[gb581]? = some (.cells #[.bool a0_0, .slice A0_1 l0_1.length c0_1, .slice A0_2 l0_2.length c0_2] 34 (0, 0))) ∧ (w'.heap[gb582]? = some (.cells #[.bool a1_0, .slice A1_1 l1_1.length c1_1, .slice A1_2 l1_2.length c1_2] 34 (0, 0))) ∧ (w'.heap[gb583]? = some (.cells #[.bool false, .slice none 0 0, .slice none 0 0] 34 (0, 0))) ∧ (Below w.heap.size w w')) ?_ ?_
    rotate_left
    ·
     intro hJ4_6_8_9
     refine join_ (σ := Value × Value × Value × Nat) 7 #[true, true, true, true, true, true, true, true, true, false, false, false, false, false, true, false, false] (fun s_ => [(12, .agg #[.bool t584, s_.1]), (14, .agg #[.bool t588, s_.2.1]), (16, .agg #[.bool t592, s_.2.2.1]), (5, .pointer (some ⟨s_.2.2.2, 0, none⟩))]) (fun s_ w' => (w'.cell? ⟨gb581, 0, none⟩ = some (.bool a0_0) ∧ w'.cell? ⟨gb581, 1, none⟩ = some (.slice A0_1 l0_1.length c0_1) ∧ w'.cell? ⟨gb581, 2, none⟩ = some (.slice A0_2 l0_2.length c0_2) ∧ w'.cell? ⟨gb582, 0, none⟩ = some (.bool a1_0) ∧ w'.cell? ⟨gb582, 1, none⟩ = some (.slice A1_1 l1_1.length c1_1) ∧ w'.cell? ⟨gb582, 2, none⟩ = some (.slice A1_2 l1_2.length c1_2)) ∧ (Kd.R (Kd.int .u64) 96 w' w.heap.size (fun k_ => nb k_ (s_.2.1) ∧ nb k_ (s_.2.2.1)) s_.1 t585) ∧ (Kd.R (Kd.int .u64) 96 w' w.heap.size (fun k_ => nb k_ (s_.1) ∧ nb k_ (s_.2.2.1)) s_.2.1 t589) ∧ (Kd.R (Kd.int .u64) 96 w' w.heap.size (fun k_ => nb k_ (s_.1) ∧ nb k_ (s_.2.1)) s_.2.2.1 t593) ∧ (w'.heap[gb581]? = some (.cells #[.bool a0_0, .slice A0_1 l0_1.length c0_1, .slice A0_2 l0_2.length c0_2] 34 (0, 0))) ∧ (w'.heap[gb582]? = some (.cells #[.bool a1_0, .slice A1_1 l1_1.length c1_1, .slice A1_2 l1_2.length c1_2] 34 (0, 0))) ∧ (w'.heap[gb583]? = some (.cells #[.bool false, .slice none 0 0, .slice none 0 0] 34 (0, 0))) ∧ (w'.heap[s_.2.2.2]? = some (.cells #[.bool false, .slice none 0 0, .slice none 0 0] 34 (0, 0))) ∧ (w.heap.size ≤ s_.2.2.2) ∧ (w.heap.size ≤ s_.2.2.2) ∧ (gb581 ≠ s_.2.2.2) ∧ (s_.2.2.2 ≠ gb581) ∧ (gb582 ≠ s_.2.2.2) ∧ (s_.2.2.2 ≠ gb582) ∧ (gb583 ≠ s_.2.2.2) ∧ (s_.2.2.2 ≠ gb583) ∧ (Below w.heap.size w w')) ?_ ?_
     rotate_left
     ·
      intro hJ4_6_8_14
      refine join_ (σ := Value × Value × Value) 8 #[true, true, true, true, true, true, true, true, true, false, false, false, false, false, false, false, false] (fun s_ => [(12, .agg #[.bool t584, s_.1]), (14, .agg #[.bool t588, s_.2.1]), (16, .agg #[.bool t592, s_.2.2])]) (fun s_ w' => (w'.cell? ⟨gb581, 0, none⟩ = some (.bool a0_0) ∧ w'.cell? ⟨gb581, 1, none⟩ = some (.slice A0_1 l0_1.length c0_1) ∧ w'.cell? ⟨gb581, 2, none⟩ = some (.slice A0_2 l0_2.length c0_2) ∧ w'.cell? ⟨gb582, 0, none⟩ = some (.bool a1_0) ∧ w'.cell? ⟨gb582, 1, none⟩ = some (.slice A1_1 l1_1.length c1_1) ∧ w'.cell? ⟨gb582, 2, none⟩ = some (.slice A1_2 l1_2.length c1_2)) ∧ (Kd.R (Kd.int .u64) 96 w' w.heap.size (fun k_ => nb k_ (s_.2.1) ∧ nb k_ (s_.2.2)) s_.1 t585) ∧ (Kd.R (Kd.int .u64) 96 w' w.heap.size (fun k_ => nb k_ (s_.1) ∧ nb k_ (s_.2.2)) s_.2.1 t589) ∧ (Kd.R (Kd.int .u64) 96 w' w.heap.size (fun k_ => nb k_ (s_.1) ∧ nb k_ (s_.2.1)) s_.2.2 t593) ∧ (w'.heap[gb581]? = some (.cells #[.bool a0_0, .slice A0_1 l0_1.length c0_1, .slice A0_2 l0_2.length c0_2] 34 (0, 0))) ∧ (w'.heap[gb582]? = some (.cells #[.bool a1_0, .slice A1_1 l1_1.length c1_1, .slice A1_2 l1_2.length c1_2] 34 (0, 0))) ∧ (w'.heap[gb583]? = some (.cells #[.bool false, .slice none 0 0, .slice none 0 0] 34 (0, 0))) ∧ (Below w.heap.size w w')) ?_ ?_
      rotate_left
      ·
       intro hJ4_6_8
       refine join_ (σ := Value × Value × Nat) 8 #[true, true, true, true, true, true, true, true, false, false, false, false, false, false, true, false, false] (fun s_ => [(12, .agg #[.bool t584, s_.1]), (14, .agg #[.bool t588, s_.2.1]), (5, .pointer (some ⟨s_.2.2, 0, none⟩))]) (fun s_ w' => (w'.cell? ⟨gb581, 0, none⟩ = some (.bool a0_0) ∧ w'.cell? ⟨gb581, 1, none⟩ = some (.slice A0_1 l0_1.length c0_1) ∧ w'.cell? ⟨gb581, 2, none⟩ = some (.slice A0_2 l0_2.length c0_2) ∧ w'.cell? ⟨gb582, 0, none⟩ = some (.bool a1_0) ∧ w'.cell? ⟨gb582, 1, none⟩ = some (.slice A1_1 l1_1.length c1_1) ∧ w'.cell? ⟨gb582, 2, none⟩ = some (.slice A1_2 l1_2.length c1_2)) ∧ (Kd.R (Kd.int .u64) 96 w' w.heap.size (fun k_ => nb k_ (s_.2.1)) s_.1 t585) ∧ (Kd.R (Kd.int .u64) 96 w' w.heap.size (fun k_ => nb k_ (s_.1)) s_.2.1 t589) ∧ (w'.heap[gb581]? = some (.cells #[.bool a0_0, .slice A0_1 l0_1.length c0_1, .slice A0_2 l0_2.length c0_2] 34 (0, 0))) ∧ (w'.heap[gb582]? = some (.cells #[.bool a1_0, .slice A1_1 l1_1.length c1_1, .slice A1_2 l1_2.length c1_2] 34 (0, 0))) ∧ (w'.heap[gb583]? = some (.cells #[.bool false, .slice none 0 0, .slice none 0 0] 34 (0, 0))) ∧ (w'.heap[s_.2.2]? = some (.cells #[.bool false, .slice none 0 0, .slice none 0 0] 34 (0, 0))) ∧ (w.heap.size ≤ s_.2.2) ∧ (w.heap.size ≤ s_.2.2) ∧ (gb581 ≠ s_.2.2) ∧ (s_.2.2 ≠ gb581) ∧ (gb582 ≠ s_.2.2) ∧ (s_.2.2 ≠ gb582) ∧ (gb583 ≠ s_.2.2) ∧ (s_.2.2 ≠ gb583) ∧ (Below w.heap.size w w')) ?_ ?_
       rotate_left
       ·
        intro hJ4_6_14
        refine join_ (σ := Value × Value) 9 #[true, true, true, true, true, true, true, true, false, false, false, false, false, false, false, false, false] (fun s_ => [(12, .agg #[.bool t584, s_.1]), (14, .agg #[.bool t588, s_.2])]) (fun s_ w' => (w'.cell? ⟨gb581, 0, none⟩ = some (.bool a0_0) ∧ w'.cell? ⟨gb581, 1, none⟩ = some (.slice A0_1 l0_1.length c0_1) ∧ w'.cell? ⟨gb581, 2, none⟩ = some (.slice A0_2 l0_2.length c0_2) ∧ w'.cell? ⟨gb582, 0, none⟩ = some (.bool a1_0) ∧ w'.cell? ⟨gb582, 1, none⟩ = some (.slice A1_1 l1_1.length c1_1) ∧ w'.cell? ⟨gb582, 2, none⟩ = some (.slice A1_2 l1_2.length c1_2)) ∧ (Kd.R (Kd.int .u64) 96 w' w.heap.size (fun k_ => nb k_ (s_.2)) s_.1 t585) ∧ (Kd.R (Kd.int .u64) 96 w' w.heap.size (fun k_ => nb k_ (s_.1)) s_.2 t589) ∧ (w'.heap[gb581]? = some (.cells #[.bool a0_0, .slice A0_1 l0_1.length c0_1, .slice A0_2 l0_2.length c0_2] 34 (0, 0))) ∧ (w'.heap[gb582]? = some (.cells #[.bool a1_0, .slice A1_1 l1_1.length c1_1, .slice A1_2 l1_2.length c1_2] 34 (0, 0))) ∧ (w'.heap[gb583]? = some (.cells #[.bool false, .slice none 0 0, .slice none 0 0] 34 (0, 0))) ∧ (Below w.heap.size w w')) ?_ ?_
        rotate_left
        ·
         intro hJ4_6
         refine join_ (σ := Value × Nat) 9 #[true, true, true, true, true, true, false, true, false, false, false, false, false, false, true, false, false] (fun s_ => [(12, .agg #[.bool t584, s_.1]), (5, .pointer (some ⟨s_.2, 0, none⟩))]) (fun s_ w' => (w'.cell? ⟨gb581, 0, none⟩ = some (.bool a0_0) ∧ w'.cell? ⟨gb581, 1, none⟩ = some (.slice A0_1 l0_1.length c0_1) ∧ w'.cell? ⟨gb581, 2, none⟩ = some (.slice A0_2 l0_2.length c0_2) ∧ w'.cell? ⟨gb582, 0, none⟩ = some (.bool a1_0) ∧ w'.cell? ⟨gb582, 1, none⟩ = some (.slice A1_1 l1_1.length c1_1) ∧ w'.cell? ⟨gb582, 2, none⟩ = some (.slice A1_2 l1_2.length c1_2)) ∧ (Kd.R (Kd.int .u64) 96 w' w.heap.size (fun _ => True) s_.1 t585) ∧ (w'.heap[gb581]? = some (.cells #[.bool a0_0, .slice A0_1 l0_1.length c0_1, .slice A0_2 l0_2.length c0_2] 34 (0, 0))) ∧ (w'.heap[gb582]? = some (.cells #[.bool a1_0, .slice A1_1 l1_1.length c1_1, .slice A1_2 l1_2.length c1_2] 34 (0, 0))) ∧ (w'.heap[gb583]? = some (.cells #[.bool false, .slice none 0 0, .slice none 0 0] 34 (0, 0))) ∧ (w'.heap[s_.2]? = some (.cells #[.bool false, .slice none 0 0, .slice none 0 0] 34 (0, 0))) ∧ (w.heap.size ≤ s_.2) ∧ (w.heap.size ≤ s_.2) ∧ (gb581 ≠ s_.2) ∧ (s_.2 ≠ gb581) ∧ (gb582 ≠ s_.2) ∧ (s_.2 ≠ gb582) ∧ (gb583 ≠ s_.2) ∧ (s_.2 ≠ gb583) ∧ (Below w.heap.size w w')) ?_ ?_
         rotate_left
         ·
          intro hJ4_14
          refine join_ (σ := Value) 10 #[true, true, true, true, true, true, false, true, false, false, false, false, false, false, false, false, false] (fun s_ => [(12, .agg #[.bool t584, s_])]) (fun s_ w' => (w'.cell? ⟨gb581, 0, none⟩ = some (.bool a0_0) ∧ w'.cell? ⟨gb581, 1, none⟩ = some (.slice A0_1 l0_1.length c0_1) ∧ w'.cell? ⟨gb581, 2, none⟩ = some (.slice A0_2 l0_2.length c0_2) ∧ w'.cell? ⟨gb582, 0, none⟩ = some (.bool a1_0) ∧ w'.cell? ⟨gb582, 1, none⟩ = some (.slice A1_1 l1_1.length c1_1) ∧ w'.cell? ⟨gb582, 2, none⟩ = some (.slice A1_2 l1_2.length c1_2)) ∧ (Kd.R (Kd.int .u64) 96 w' w.heap.size (fun _ => True) s_ t585) ∧ (w'.heap[gb581]? = some (.cells #[.bool a0_0, .slice A0_1 l0_1.length c0_1, .slice A0_2 l0_2.length c0_2] 34 (0, 0))) ∧ (w'.heap[gb582]? = some (.cells #[.bool a1_0, .slice A1_1 l1_1.length c1_1, .slice A1_2 l1_2.length c1_2] 34 (0, 0))) ∧ (w'.heap[gb583]? = some (.cells #[.bool false, .slice none 0 0, .slice none 0 0] 34 (0, 0))) ∧ (Below w.heap.size w w')) ?_ ?_
          rotate_left
          ·
           intro hJ4
           refine join_ (σ := Nat) 10 #[true, true, true, true, false, true, false, true, false, false, false, false, false, false, true, false, false] (fun s_ => [(5, .pointer (some ⟨s_, 0, none⟩))]) (fun s_ w' => (w'.cell? ⟨gb581, 0, none⟩ = some (.bool a0_0) ∧ w'.cell? ⟨gb581, 1, none⟩ = some (.slice A0_1 l0_1.length c0_1) ∧ w'.cell? ⟨gb581, 2, none⟩ = some (.slice A0_2 l0_2.length c0_2) ∧ w'.cell? ⟨gb582, 0, none⟩ = some (.bool a1_0) ∧ w'.cell? ⟨gb582, 1, none⟩ = some (.slice A1_1 l1_1.length c1_1) ∧ w'.cell? ⟨gb582, 2, none⟩ = some (.slice A1_2 l1_2.length c1_2)) ∧ (w'.heap[gb581]? = some (.cells #[.bool a0_0, .slice A0_1 l0_1.length c0_1, .slice A0_2 l0_2.length c0_2] 34 (0, 0))) ∧ (w'.heap[gb582]? = some (.cells #[.bool a1_0, .slice A1_1 l1_1.length c1_1, .slice A1_2 l1_2.length c1_2] 34 (0, 0))) ∧ (w'.heap[gb583]? = some (.cells #[.bool false, .slice none 0 0, .slice none 0 0] 34 (0, 0))) ∧ (w'.heap[s_]? = some (.cells #[.bool false, .slice none 0 0, .slice none 0 0] 34 (0, 0))) ∧ (w.heap.size ≤ s_) ∧ (w.heap.size ≤ s_) ∧ (gb581 ≠ s_) ∧ (s_ ≠ gb581) ∧ (gb582 ≠ s_) ∧ (s_ ≠ gb582) ∧ (gb583 ≠ s_) ∧ (s_ ≠ gb583) ∧ (Below w.heap.size w w')) ?_ ?_
           rotate_left
           ·
            intro hJ14
            refine two_ (i := 4) (j := 14) (Ni := some 12) (Nj := some 5) #[true, true, true, true, true, true, false, true, false, false, false, false, false, false, false, false, false] #[true, true, true, true, false, true, false, true, false, false, false, false, false, false, true, false, false] rfl rfl rfl rfl (two_of HT_.out (by kernel_rfl)) (by decide) (by decide) (fun K hK => ?_) (fun K hK => ?_)
            ·
             skip
             refine goes_ Try.func65 (by kernel_rfl) rfl #[.agg #[.bool a0_0, .slice A0_1 l0_1.length c0_1], .agg #[.bool a1_0, .slice A1_1 l1_1.length c1_1]] (by rfl) rfl rfl (by (try simp only [List.map_toArray, List.map_cons, List.map_nil]); first | done | rfl | (simp only [List.length_drop, List.length_take]; rfl)) ?_
             with_reducible refine (whole_Mul.calls k a0_0 _ _ l0_1 a1_0 _ _ l1_1 t584 t585 _ ?side1 ?side2 ?side3 ?side4 A3.out).mono ?_
             (case side1 => exact Kd.Cx (Kd.C_below HR0_1.out HB.out))
             (case side2 => exact HC0_1.out)
             (case side3 => exact Kd.Cx (Kd.C_below HR1_1.out HB.out))
             (case side4 => exact HC1_1.out)
             rintro e w12 ⟨v586, rfl, ho0, hb⟩
             refine ⟨_, rfl, ?_⟩
             have HO587 := Aside0.mk (Kd.R_lower ho0 (below_size (Bs)))
             replace BK581 := Aside0.mk (blk_below (Kx BK581.out) hb)
             replace BK582 := Aside0.mk (blk_below (Kx BK582.out) hb)
             replace BK583 := Aside0.mk (blk_below (Kx BK583.out) hb)
             replace HB := Aside0.mk (below_step (Bs) hb)
             (try clear hb)
             (try clear hb2)
             (try clear hk)
             (try clear hi)
             (try clear ho0)
             refine hK.out _ _ ⟨(blk_cell BK581.out 0).trans rfl, (blk_cell BK581.out 1).trans rfl, (blk_cell BK581.out 2).trans rfl, (blk_cell BK582.out 0).trans rfl, (blk_cell BK582.out 1).trans rfl, (blk_cell BK582.out 2).trans rfl⟩ (fun hHeld => ?_)
             clear hK K
             refine norm_ (a' := ?_) ?_ ?_
             rotate_left
             ·
              show Act.put _ (some 12) _ = _
              simp only [Act.put, List.setIfInBounds_toArray, List.set_cons_zero, List.set_cons_succ, i64_w, i32_w]
              rfl
             exact norm_ (by first | (simp only [putAll, Act.put, List.setIfInBounds_toArray, List.set_cons_zero, List.set_cons_succ]; done) | (simp only [putAll, Act.put, List.setIfInBounds_toArray, List.set_cons_zero, List.set_cons_succ]; rfl)) (hJ4 (_) _ ⟨hHeld, (Kd.Rx HO587.out), (Kx BK581.out), (Kx BK582.out), (Kx BK583.out), (Bs)⟩)
            ·
             skip
             refine box_step ?hg (N := 5) ?hd (cs := #[.bool false, .slice none 0 0, .slice none 0 0]) (t := 34) ?hr ?_; (case hd => rfl); (case hg => rfl); (case hr => first | (go_simp; done) | (go_simp; rfl))
             intro gb608 hg w12 hbox hb
             have n0_ := Aside0.mk (blk_below (Kx BK581.out) hb)
             have n1_ := Aside0.mk (blk_below (Kx BK582.out) hb)
             have n2_ := Aside0.mk (blk_below (Kx BK583.out) hb)
             have n3_ := Aside0.mk (below_step (Bs) hb)
             have n4_ := Aside0.mk (hbox)
             have n5_ := Aside0.mk ((by rw [hg]; exact (below_size (Bs)) : w.heap.size ≤ gb608))
             have n6_ := Aside0.mk ((by rw [hg]; exact (below_size (Bs)) : w.heap.size ≤ gb608))
             have n7_ := Aside0.mk ((by rw [hg]; exact Nat.ne_of_lt (blk_lt (Kx BK581.out)) : gb581 ≠ gb608))
             have n8_ := Aside0.mk ((by rw [hg]; exact Nat.ne_of_gt (blk_lt (Kx BK581.out)) : gb608 ≠ gb581))
             have n9_ := Aside0.mk ((by rw [hg]; exact Nat.ne_of_lt (blk_lt (Kx BK582.out)) : gb582 ≠ gb608))
             have n10_ := Aside0.mk ((by rw [hg]; exact Nat.ne_of_gt (blk_lt (Kx BK582.out)) : gb608 ≠ gb582))
             have n11_ := Aside0.mk ((by rw [hg]; exact Nat.ne_of_lt (blk_lt (Kx BK583.out)) : gb583 ≠ gb608))
             have n12_ := Aside0.mk ((by rw [hg]; exact Nat.ne_of_gt (blk_lt (Kx BK583.out)) : gb608 ≠ gb583))
             clear BK581
             clear BK582
             clear BK583
             clear HB
             have BK581 := n0_
             have BK582 := n1_
             have BK583 := n2_
             have HB := n3_
             have BK608 := n4_
             have GW608 := n5_
             have GE608 := n6_
             have NB581_608 := n7_
             have NB608_581 := n8_
             have NB582_608 := n9_
             have NB608_582 := n10_
             have NB583_608 := n11_
             have NB608_583 := n12_
             clear n0_ n1_ n2_ n3_ n4_ n5_ n6_ n7_ n8_ n9_ n10_ n11_ n12_
             clear hb hbox hg
             refine hK.out _ _ ⟨(blk_cell BK581.out 0).trans rfl, (blk_cell BK581.out 1).trans rfl, (blk_cell BK581.out 2).trans rfl, (blk_cell BK582.out 0).trans rfl, (blk_cell BK582.out 1).trans rfl, (blk_cell BK582.out 2).trans rfl⟩ (fun hHeld => ?_)
             clear hK K
             refine norm_ (a' := ?_) ?_ ?_
             rotate_left
             ·
              show Act.put _ (some 5) _ = _
              simp only [Act.put, List.setIfInBounds_toArray, List.set_cons_zero, List.set_cons_succ, i64_w, i32_w]
              rfl
             exact norm_ (by first | (simp only [putAll, Act.put, List.setIfInBounds_toArray, List.set_cons_zero, List.set_cons_succ]; done) | (simp only [putAll, Act.put, List.setIfInBounds_toArray, List.set_cons_zero, List.set_cons_succ]; rfl)) (hJ14 (gb608) _ ⟨hHeld, (Kx BK581.out), (Kx BK582.out), (Kx BK583.out), (Kx BK608.out), GW608.out, GE608.out, NB581_608.out, NB608_581.out, NB582_608.out, NB608_582.out, NB583_608.out, NB608_583.out, (Bs)⟩)
           ·
            skip
            rintro gb608 w13 ⟨hS_, h0_, h1_, h2_, h3_, h4_, h5_, h6_, h7_, h8_, h9_, h10_, h11_, h12_⟩
            replace BK581 : Aside0 (w13.heap[gb581]? = some (.cells #[.bool a0_0, .slice A0_1 l0_1.length c0_1, .slice A0_2 l0_2.length c0_2] 34 (0, 0))) := ⟨h0_⟩
            replace BK582 : Aside0 (w13.heap[gb582]? = some (.cells #[.bool a1_0, .slice A1_1 l1_1.length c1_1, .slice A1_2 l1_2.length c1_2] 34 (0, 0))) := ⟨h1_⟩
            replace BK583 : Aside0 (w13.heap[gb583]? = some (.cells #[.bool false, .slice none 0 0, .slice none 0 0] 34 (0, 0))) := ⟨h2_⟩
            have BK608 : Aside0 (w13.heap[gb608]? = some (.cells #[.bool false, .slice none 0 0, .slice none 0 0] 34 (0, 0))) := ⟨h3_⟩
            have GW608 : Aside0 (w.heap.size ≤ gb608) := ⟨h4_⟩
            have GE608 : Aside0 (w.heap.size ≤ gb608) := ⟨h5_⟩
            have NB581_608 : Aside0 (gb581 ≠ gb608) := ⟨h6_⟩
            have NB608_581 : Aside0 (gb608 ≠ gb581) := ⟨h7_⟩
            have NB582_608 : Aside0 (gb582 ≠ gb608) := ⟨h8_⟩
            have NB608_582 : Aside0 (gb608 ≠ gb582) := ⟨h9_⟩
            have NB583_608 : Aside0 (gb583 ≠ gb608) := ⟨h10_⟩
            have NB608_583 : Aside0 (gb608 ≠ gb583) := ⟨h11_⟩
            replace HB : Aside0 (Below w.heap.size w w13) := ⟨h12_⟩
            clear h0_ h1_ h2_ h3_ h4_ h5_ h6_ h7_ h8_ h9_ h10_ h11_ h12_
            have hHeld : w13.cell? ⟨gb581, 0, none⟩ = some (.bool a0_0) ∧ w13.cell? ⟨gb581, 1, none⟩ = some (.slice A0_1 l0_1.length c0_1) ∧ w13.cell? ⟨gb581, 2, none⟩ = some (.slice A0_2 l0_2.length c0_2) ∧ w13.cell? ⟨gb582, 0, none⟩ = some (.bool a1_0) ∧ w13.cell? ⟨gb582, 1, none⟩ = some (.slice A1_1 l1_1.length c1_1) ∧ w13.cell? ⟨gb582, 2, none⟩ = some (.slice A1_2 l1_2.length c1_2) := hS_
            refine norm_ (a' := ?_) ?_ ?_
            rotate_left
            ·
             simp only [putAll, Act.put, List.setIfInBounds_toArray, List.set_cons_zero, List.set_cons_succ]
             rfl
            refine one_ (i := 4) (N := some 12) #[true, true, true, true, true, true, false, true, false, false, false, false, false, false, true, false, false] rfl rfl (one_of HT_.out (by kernel_rfl)) (by decide) (fun K hK => ?_)
            refine goes_ Try.func65 (by kernel_rfl) rfl #[.agg #[.bool a0_0, .slice A0_1 l0_1.length c0_1], .agg #[.bool a1_0, .slice A1_1 l1_1.length c1_1]] (by rfl) rfl rfl (by (try simp only [List.map_toArray, List.map_cons, List.map_nil]); first | done | rfl | (simp only [List.length_drop, List.length_take]; rfl)) ?_
            with_reducible refine (whole_Mul.calls k a0_0 _ _ l0_1 a1_0 _ _ l1_1 t584 t585 _ ?side1 ?side2 ?side3 ?side4 A3.out).mono ?_
            (case side1 => exact Kd.Cx (Kd.C_below HR0_1.out HB.out))
            (case side2 => exact HC0_1.out)
            (case side3 => exact Kd.Cx (Kd.C_below HR1_1.out HB.out))
            (case side4 => exact HC1_1.out)
            rintro e w14 ⟨v586, rfl, ho0, hb⟩
            refine ⟨_, rfl, ?_⟩
            have HO587 := Aside0.mk (Kd.R_lower ho0 (below_size (Bs)))
            replace BK581 := Aside0.mk (blk_below (Kx BK581.out) hb)
            replace BK582 := Aside0.mk (blk_below (Kx BK582.out) hb)
            replace BK583 := Aside0.mk (blk_below (Kx BK583.out) hb)
            replace BK608 := Aside0.mk (blk_below (Kx BK608.out) hb)
            replace HB := Aside0.mk (below_step (Bs) hb)
            (try clear hb)
            (try clear hb2)
            (try clear hk)
            (try clear hi)
            (try clear ho0)
            refine hK.out _ _ ⟨(blk_cell BK581.out 0).trans rfl, (blk_cell BK581.out 1).trans rfl, (blk_cell BK581.out 2).trans rfl, (blk_cell BK582.out 0).trans rfl, (blk_cell BK582.out 1).trans rfl, (blk_cell BK582.out 2).trans rfl⟩ (fun hHeld => ?_)
            clear hK K
            refine norm_ (a' := ?_) ?_ ?_
            rotate_left
            ·
             show Act.put _ (some 12) _ = _
             simp only [Act.put, List.setIfInBounds_toArray, List.set_cons_zero, List.set_cons_succ, i64_w, i32_w]
             rfl
            exact norm_ (by first | (simp only [putAll, Act.put, List.setIfInBounds_toArray, List.set_cons_zero, List.set_cons_succ]; done) | (simp only [putAll, Act.put, List.setIfInBounds_toArray, List.set_cons_zero, List.set_cons_succ]; rfl)) (hJ4_14 (_, gb608) _ ⟨hHeld, (Kd.Rx HO587.out), (Kx BK581.out), (Kx BK582.out), (Kx BK583.out), (Kx BK608.out), GW608.out, GE608.out, NB581_608.out, NB608_581.out, NB582_608.out, NB608_582.out, NB583_608.out, NB608_583.out, (Bs)⟩)
          ·
           skip
           rintro v586 w13 ⟨hS_, h0_, h1_, h2_, h3_, h4_⟩
           have HO587 : Aside0 (Kd.R (Kd.int .u64) 96 w13 w.heap.size (fun _ => True) v586 t585) := ⟨h0_⟩
           replace BK581 : Aside0 (w13.heap[gb581]? = some (.cells #[.bool a0_0, .slice A0_1 l0_1.length c0_1, .slice A0_2 l0_2.length c0_2] 34 (0, 0))) := ⟨h1_⟩
           replace BK582 : Aside0 (w13.heap[gb582]? = some (.cells #[.bool a1_0, .slice A1_1 l1_1.length c1_1, .slice A1_2 l1_2.length c1_2] 34 (0, 0))) := ⟨h2_⟩
           replace BK583 : Aside0 (w13.heap[gb583]? = some (.cells #[.bool false, .slice none 0 0, .slice none 0 0] 34 (0, 0))) := ⟨h3_⟩
           replace HB : Aside0 (Below w.heap.size w w13) := ⟨h4_⟩
           clear h0_ h1_ h2_ h3_ h4_
           have hHeld : w13.cell? ⟨gb581, 0, none⟩ = some (.bool a0_0) ∧ w13.cell? ⟨gb581, 1, none⟩ = some (.slice A0_1 l0_1.length c0_1) ∧ w13.cell? ⟨gb581, 2, none⟩ = some (.slice A0_2 l0_2.length c0_2) ∧ w13.cell? ⟨gb582, 0, none⟩ = some (.bool a1_0) ∧ w13.cell? ⟨gb582, 1, none⟩ = some (.slice A1_1 l1_1.length c1_1) ∧ w13.cell? ⟨gb582, 2, none⟩ = some (.slice A1_2 l1_2.length c1_2) := hS_
           refine norm_ (a' := ?_) ?_ ?_
           rotate_left
           ·
            simp only [putAll, Act.put, List.setIfInBounds_toArray, List.set_cons_zero, List.set_cons_succ]
            rfl
           refine two_ (i := 6) (j := 14) (Ni := some 14) (Nj := some 5) #[true, true, true, true, true, true, true, true, false, false, false, false, false, false, false, false, false] #[true, true, true, true, true, true, false, true, false, false, false, false, false, false, true, false, false] rfl rfl rfl rfl (two_of HT_.out (by kernel_rfl)) (by decide) (by decide) (fun K hK => ?_) (fun K hK => ?_)
           ·
            skip
            refine goes_ Try.func66 (by kernel_rfl) rfl #[.agg #[.bool a0_0, .slice A0_1 l0_1.length c0_1, .slice A0_2 l0_2.length c0_2]] (by rfl) rfl rfl (by (try simp only [List.map_toArray, List.map_cons, List.map_nil]); first | done | rfl | (simp only [List.length_drop, List.length_take]; rfl)) ?_
            with_reducible refine (rat_up.calls k a0_0 _ _ l0_1 _ _ l0_2 t588 t589 _ ?side1 ?side2 ?side3 ?side4 A4.out).mono ?_
            (case side1 => exact Kd.Cx (Kd.C_below HR0_1.out HB.out))
            (case side2 => exact HC0_1.out)
            (case side3 => exact Kd.Cx (Kd.C_below HR0_2.out HB.out))
            (case side4 => exact HC0_2.out)
            rintro e w14 ⟨v590, rfl, ho0, hb⟩
            refine ⟨_, rfl, ?_⟩
            have HO591 := Aside0.mk (Kd.R_lower (Kd.R_new' ho0 (Kd.R_lt (Kd.Rx HO587.out))) (below_size (Bs)))
            replace HO587 := Aside0.mk (Kd.R_elder' (Kd.Rx HO587.out) (Kd.R_base ho0) hb)
            replace BK581 := Aside0.mk (blk_below (Kx BK581.out) hb)
            replace BK582 := Aside0.mk (blk_below (Kx BK582.out) hb)
            replace BK583 := Aside0.mk (blk_below (Kx BK583.out) hb)
            replace HB := Aside0.mk (below_step (Bs) hb)
            (try clear hb)
            (try clear hb2)
            (try clear hk)
            (try clear hi)
            (try clear ho0)
            refine hK.out _ _ ⟨(blk_cell BK581.out 0).trans rfl, (blk_cell BK581.out 1).trans rfl, (blk_cell BK581.out 2).trans rfl, (blk_cell BK582.out 0).trans rfl, (blk_cell BK582.out 1).trans rfl, (blk_cell BK582.out 2).trans rfl⟩ (fun hHeld => ?_)
            clear hK K
            refine norm_ (a' := ?_) ?_ ?_
            rotate_left
            ·
             show Act.put _ (some 14) _ = _
             simp only [Act.put, List.setIfInBounds_toArray, List.set_cons_zero, List.set_cons_succ, i64_w, i32_w]
             rfl
            exact norm_ (by first | (simp only [putAll, Act.put, List.setIfInBounds_toArray, List.set_cons_zero, List.set_cons_succ]; done) | (simp only [putAll, Act.put, List.setIfInBounds_toArray, List.set_cons_zero, List.set_cons_succ]; rfl)) (hJ4_6 (_, _) _ ⟨hHeld, (Kd.Rm HO587.out), (Kd.Rm HO591.out), (Kx BK581.out), (Kx BK582.out), (Kx BK583.out), (Bs)⟩)
           ·
            skip
            refine box_step ?hg (N := 5) ?hd (cs := #[.bool false, .slice none 0 0, .slice none 0 0]) (t := 34) ?hr ?_; (case hd => rfl); (case hg => rfl); (case hr => first | (go_simp; done) | (go_simp; rfl))
            intro gb608 hg w14 hbox hb
            have n0_ := Aside0.mk (Kd.R_below (Kd.Rx HO587.out) hb)
            have n1_ := Aside0.mk (blk_below (Kx BK581.out) hb)
            have n2_ := Aside0.mk (blk_below (Kx BK582.out) hb)
            have n3_ := Aside0.mk (blk_below (Kx BK583.out) hb)
            have n4_ := Aside0.mk (below_step (Bs) hb)
            have n5_ := Aside0.mk (hbox)
            have n6_ := Aside0.mk ((by rw [hg]; exact (below_size (Bs)) : w.heap.size ≤ gb608))
            have n7_ := Aside0.mk ((by rw [hg]; exact (below_size (Bs)) : w.heap.size ≤ gb608))
            have n8_ := Aside0.mk ((by rw [hg]; exact Nat.ne_of_lt (blk_lt (Kx BK581.out)) : gb581 ≠ gb608))
            have n9_ := Aside0.mk ((by rw [hg]; exact Nat.ne_of_gt (blk_lt (Kx BK581.out)) : gb608 ≠ gb581))
            have n10_ := Aside0.mk ((by rw [hg]; exact Nat.ne_of_lt (blk_lt (Kx BK582.out)) : gb582 ≠ gb608))
            have n11_ := Aside0.mk ((by rw [hg]; exact Nat.ne_of_gt (blk_lt (Kx BK582.out)) : gb608 ≠ gb582))
            have n12_ := Aside0.mk ((by rw [hg]; exact Nat.ne_of_lt (blk_lt (Kx BK583.out)) : gb583 ≠ gb608))
            have n13_ := Aside0.mk ((by rw [hg]; exact Nat.ne_of_gt (blk_lt (Kx BK583.out)) : gb608 ≠ gb583))
            clear HO587
            clear BK581
            clear BK582
            clear BK583
            clear HB
            have HO587 := n0_
            have BK581 := n1_
            have BK582 := n2_
            have BK583 := n3_
            have HB := n4_
            have BK608 := n5_
            have GW608 := n6_
            have GE608 := n7_
            have NB581_608 := n8_
            have NB608_581 := n9_
            have NB582_608 := n10_
            have NB608_582 := n11_
            have NB583_608 := n12_
            have NB608_583 := n13_
            clear n0_ n1_ n2_ n3_ n4_ n5_ n6_ n7_ n8_ n9_ n10_ n11_ n12_ n13_
            clear hb hbox hg
            refine hK.out _ _ ⟨(blk_cell BK581.out 0).trans rfl, (blk_cell BK581.out 1).trans rfl, (blk_cell BK581.out 2).trans rfl, (blk_cell BK582.out 0).trans rfl, (blk_cell BK582.out 1).trans rfl, (blk_cell BK582.out 2).trans rfl⟩ (fun hHeld => ?_)
            clear hK K
            refine norm_ (a' := ?_) ?_ ?_
            rotate_left
            ·
             show Act.put _ (some 5) _ = _
             simp only [Act.put, List.setIfInBounds_toArray, List.set_cons_zero, List.set_cons_succ, i64_w, i32_w]
             rfl
            exact norm_ (by first | (simp only [putAll, Act.put, List.setIfInBounds_toArray, List.set_cons_zero, List.set_cons_succ]; done) | (simp only [putAll, Act.put, List.setIfInBounds_toArray, List.set_cons_zero, List.set_cons_succ]; rfl)) (hJ4_14 (_, gb608) _ ⟨hHeld, (Kd.Rx HO587.out), (Kx BK581.out), (Kx BK582.out), (Kx BK583.out), (Kx BK608.out), GW608.out, GE608.out, NB581_608.out, NB608_581.out, NB582_608.out, NB608_582.out, NB583_608.out, NB608_583.out, (Bs)⟩)
         ·
          skip
          rintro ⟨v586, gb608⟩ w14 ⟨hS_, h0_, h1_, h2_, h3_, h4_, h5_, h6_, h7_, h8_, h9_, h10_, h11_, h12_, h13_⟩
          have HO587 : Aside0 (Kd.R (Kd.int .u64) 96 w14 w.heap.size (fun _ => True) v586 t585) := ⟨h0_⟩
          replace BK581 : Aside0 (w14.heap[gb581]? = some (.cells #[.bool a0_0, .slice A0_1 l0_1.length c0_1, .slice A0_2 l0_2.length c0_2] 34 (0, 0))) := ⟨h1_⟩
          replace BK582 : Aside0 (w14.heap[gb582]? = some (.cells #[.bool a1_0, .slice A1_1 l1_1.length c1_1, .slice A1_2 l1_2.length c1_2] 34 (0, 0))) := ⟨h2_⟩
          replace BK583 : Aside0 (w14.heap[gb583]? = some (.cells #[.bool false, .slice none 0 0, .slice none 0 0] 34 (0, 0))) := ⟨h3_⟩
          have BK608 : Aside0 (w14.heap[gb608]? = some (.cells #[.bool false, .slice none 0 0, .slice none 0 0] 34 (0, 0))) := ⟨h4_⟩
          have GW608 : Aside0 (w.heap.size ≤ gb608) := ⟨h5_⟩
          have GE608 : Aside0 (w.heap.size ≤ gb608) := ⟨h6_⟩
          have NB581_608 : Aside0 (gb581 ≠ gb608) := ⟨h7_⟩
          have NB608_581 : Aside0 (gb608 ≠ gb581) := ⟨h8_⟩
          have NB582_608 : Aside0 (gb582 ≠ gb608) := ⟨h9_⟩
          have NB608_582 : Aside0 (gb608 ≠ gb582) := ⟨h10_⟩
          have NB583_608 : Aside0 (gb583 ≠ gb608) := ⟨h11_⟩
          have NB608_583 : Aside0 (gb608 ≠ gb583) := ⟨h12_⟩
          replace HB : Aside0 (Below w.heap.size w w14) := ⟨h13_⟩
          clear h0_ h1_ h2_ h3_ h4_ h5_ h6_ h7_ h8_ h9_ h10_ h11_ h12_ h13_
          have hHeld : w14.cell? ⟨gb581, 0, none⟩ = some (.bool a0_0) ∧ w14.cell? ⟨gb581, 1, none⟩ = some (.slice A0_1 l0_1.length c0_1) ∧ w14.cell? ⟨gb581, 2, none⟩ = some (.slice A0_2 l0_2.length c0_2) ∧ w14.cell? ⟨gb582, 0, none⟩ = some (.bool a1_0) ∧ w14.cell? ⟨gb582, 1, none⟩ = some (.slice A1_1 l1_1.length c1_1) ∧ w14.cell? ⟨gb582, 2, none⟩ = some (.slice A1_2 l1_2.length c1_2) := hS_
          refine norm_ (a' := ?_) ?_ ?_
          rotate_left
          ·
           simp only [putAll, Act.put, List.setIfInBounds_toArray, List.set_cons_zero, List.set_cons_succ]
           rfl
          refine one_ (i := 6) (N := some 14) #[true, true, true, true, true, true, true, true, false, false, false, false, false, false, true, false, false] rfl rfl (one_of HT_.out (by kernel_rfl)) (by decide) (fun K hK => ?_)
          refine goes_ Try.func66 (by kernel_rfl) rfl #[.agg #[.bool a0_0, .slice A0_1 l0_1.length c0_1, .slice A0_2 l0_2.length c0_2]] (by rfl) rfl rfl (by (try simp only [List.map_toArray, List.map_cons, List.map_nil]); first | done | rfl | (simp only [List.length_drop, List.length_take]; rfl)) ?_
          with_reducible refine (rat_up.calls k a0_0 _ _ l0_1 _ _ l0_2 t588 t589 _ ?side1 ?side2 ?side3 ?side4 A4.out).mono ?_
          (case side1 => exact Kd.Cx (Kd.C_below HR0_1.out HB.out))
          (case side2 => exact HC0_1.out)
          (case side3 => exact Kd.Cx (Kd.C_below HR0_2.out HB.out))
          (case side4 => exact HC0_2.out)
          rintro e w15 ⟨v590, rfl, ho0, hb⟩
          refine ⟨_, rfl, ?_⟩
          have HO591 := Aside0.mk (Kd.R_lower (Kd.R_new' ho0 (Kd.R_lt (Kd.Rx HO587.out))) (below_size (Bs)))
          replace HO587 := Aside0.mk (Kd.R_elder' (Kd.Rx HO587.out) (Kd.R_base ho0) hb)
          replace BK581 := Aside0.mk (blk_below (Kx BK581.out) hb)
          replace BK582 := Aside0.mk (blk_below (Kx BK582.out) hb)
          replace BK583 := Aside0.mk (blk_below (Kx BK583.out) hb)
          replace BK608 := Aside0.mk (blk_below (Kx BK608.out) hb)
          replace HB := Aside0.mk (below_step (Bs) hb)
          (try clear hb)
          (try clear hb2)
          (try clear hk)
          (try clear hi)
          (try clear ho0)
          refine hK.out _ _ ⟨(blk_cell BK581.out 0).trans rfl, (blk_cell BK581.out 1).trans rfl, (blk_cell BK581.out 2).trans rfl, (blk_cell BK582.out 0).trans rfl, (blk_cell BK582.out 1).trans rfl, (blk_cell BK582.out 2).trans rfl⟩ (fun hHeld => ?_)
          clear hK K
          refine norm_ (a' := ?_) ?_ ?_
          rotate_left
          ·
           show Act.put _ (some 14) _ = _
           simp only [Act.put, List.setIfInBounds_toArray, List.set_cons_zero, List.set_cons_succ, i64_w, i32_w]
           rfl
          exact norm_ (by first | (simp only [putAll, Act.put, List.setIfInBounds_toArray, List.set_cons_zero, List.set_cons_succ]; done) | (simp only [putAll, Act.put, List.setIfInBounds_toArray, List.set_cons_zero, List.set_cons_succ]; rfl)) (hJ4_6_14 (_, _, gb608) _ ⟨hHeld, (Kd.Rm HO587.out), (Kd.Rm HO591.out), (Kx BK581.out), (Kx BK582.out), (Kx BK583.out), (Kx BK608.out), GW608.out, GE608.out, NB581_608.out, NB608_581.out, NB582_608.out, NB608_582.out, NB583_608.out, NB608_583.out, (Bs)⟩)
        ·
         skip
         rintro ⟨v586, v590⟩ w14 ⟨hS_, h0_, h1_, h2_, h3_, h4_, h5_⟩
         have HO587 : Aside0 (Kd.R (Kd.int .u64) 96 w14 w.heap.size (fun k_ => nb k_ v590) v586 t585) := ⟨h0_⟩
         have HO591 : Aside0 (Kd.R (Kd.int .u64) 96 w14 w.heap.size (fun k_ => nb k_ v586) v590 t589) := ⟨h1_⟩
         replace BK581 : Aside0 (w14.heap[gb581]? = some (.cells #[.bool a0_0, .slice A0_1 l0_1.length c0_1, .slice A0_2 l0_2.length c0_2] 34 (0, 0))) := ⟨h2_⟩
         replace BK582 : Aside0 (w14.heap[gb582]? = some (.cells #[.bool a1_0, .slice A1_1 l1_1.length c1_1, .slice A1_2 l1_2.length c1_2] 34 (0, 0))) := ⟨h3_⟩
         replace BK583 : Aside0 (w14.heap[gb583]? = some (.cells #[.bool false, .slice none 0 0, .slice none 0 0] 34 (0, 0))) := ⟨h4_⟩
         replace HB : Aside0 (Below w.heap.size w w14) := ⟨h5_⟩
         clear h0_ h1_ h2_ h3_ h4_ h5_
         have hHeld : w14.cell? ⟨gb581, 0, none⟩ = some (.bool a0_0) ∧ w14.cell? ⟨gb581, 1, none⟩ = some (.slice A0_1 l0_1.length c0_1) ∧ w14.cell? ⟨gb581, 2, none⟩ = some (.slice A0_2 l0_2.length c0_2) ∧ w14.cell? ⟨gb582, 0, none⟩ = some (.bool a1_0) ∧ w14.cell? ⟨gb582, 1, none⟩ = some (.slice A1_1 l1_1.length c1_1) ∧ w14.cell? ⟨gb582, 2, none⟩ = some (.slice A1_2 l1_2.length c1_2) := hS_
         refine norm_ (a' := ?_) ?_ ?_
         rotate_left
         ·
          simp only [putAll, Act.put, List.setIfInBounds_toArray, List.set_cons_zero, List.set_cons_succ]
          rfl
         refine two_ (i := 8) (j := 14) (Ni := some 16) (Nj := some 5) #[true, true, true, true, true, true, true, true, true, false, false, false, false, false, false, false, false] #[true, true, true, true, true, true, true, true, false, false, false, false, false, false, true, false, false] rfl rfl rfl rfl (two_of HT_.out (by kernel_rfl)) (by decide) (by decide) (fun K hK => ?_) (fun K hK => ?_)
         ·
          skip
          refine goes_ Try.func66 (by kernel_rfl) rfl #[.agg #[.bool a1_0, .slice A1_1 l1_1.length c1_1, .slice A1_2 l1_2.length c1_2]] (by rfl) rfl rfl (by (try simp only [List.map_toArray, List.map_cons, List.map_nil]); first | done | rfl | (simp only [List.length_drop, List.length_take]; rfl)) ?_
          with_reducible refine (rat_up.calls k a1_0 _ _ l1_1 _ _ l1_2 t592 t593 _ ?side1 ?side2 ?side3 ?side4 A5.out).mono ?_
          (case side1 => exact Kd.Cx (Kd.C_below HR1_1.out HB.out))
          (case side2 => exact HC1_1.out)
          (case side3 => exact Kd.Cx (Kd.C_below HR1_2.out HB.out))
          (case side4 => exact HC1_2.out)
          rintro e w15 ⟨v594, rfl, ho0, hb⟩
          refine ⟨_, rfl, ?_⟩
          have HO595 := Aside0.mk (Kd.R_lower (Kd.R_new' (Kd.R_new' ho0 (Kd.R_lt (Kd.Rx HO587.out))) (Kd.R_lt (Kd.Rx HO591.out))) (below_size (Bs)))
          replace HO587 := Aside0.mk (Kd.R_elder' (Kd.Rx HO587.out) (Kd.R_base ho0) hb)
          replace HO591 := Aside0.mk (Kd.R_elder' (Kd.Rx HO591.out) (Kd.R_base ho0) hb)
          replace BK581 := Aside0.mk (blk_below (Kx BK581.out) hb)
          replace BK582 := Aside0.mk (blk_below (Kx BK582.out) hb)
          replace BK583 := Aside0.mk (blk_below (Kx BK583.out) hb)
          replace HB := Aside0.mk (below_step (Bs) hb)
          (try clear hb)
          (try clear hb2)
          (try clear hk)
          (try clear hi)
          (try clear ho0)
          refine hK.out _ _ ⟨(blk_cell BK581.out 0).trans rfl, (blk_cell BK581.out 1).trans rfl, (blk_cell BK581.out 2).trans rfl, (blk_cell BK582.out 0).trans rfl, (blk_cell BK582.out 1).trans rfl, (blk_cell BK582.out 2).trans rfl⟩ (fun hHeld => ?_)
          clear hK K
          refine norm_ (a' := ?_) ?_ ?_
          rotate_left
          ·
           show Act.put _ (some 16) _ = _
           simp only [Act.put, List.setIfInBounds_toArray, List.set_cons_zero, List.set_cons_succ, i64_w, i32_w]
           rfl
          exact norm_ (by first | (simp only [putAll, Act.put, List.setIfInBounds_toArray, List.set_cons_zero, List.set_cons_succ]; done) | (simp only [putAll, Act.put, List.setIfInBounds_toArray, List.set_cons_zero, List.set_cons_succ]; rfl)) (hJ4_6_8 (_, _, _) _ ⟨hHeld, (Kd.Rx HO587.out), (Kd.Rx HO591.out), (Kd.Rm HO595.out), (Kx BK581.out), (Kx BK582.out), (Kx BK583.out), (Bs)⟩)
         ·
          skip
          refine box_step ?hg (N := 5) ?hd (cs := #[.bool false, .slice none 0 0, .slice none 0 0]) (t := 34) ?hr ?_; (case hd => rfl); (case hg => rfl); (case hr => first | (go_simp; done) | (go_simp; rfl))
          intro gb608 hg w15 hbox hb
          have n0_ := Aside0.mk (Kd.R_below (Kd.Rx HO587.out) hb)
          have n1_ := Aside0.mk (Kd.R_below (Kd.Rx HO591.out) hb)
          have n2_ := Aside0.mk (blk_below (Kx BK581.out) hb)
          have n3_ := Aside0.mk (blk_below (Kx BK582.out) hb)
          have n4_ := Aside0.mk (blk_below (Kx BK583.out) hb)
          have n5_ := Aside0.mk (below_step (Bs) hb)
          have n6_ := Aside0.mk (hbox)
          have n7_ := Aside0.mk ((by rw [hg]; exact (below_size (Bs)) : w.heap.size ≤ gb608))
          have n8_ := Aside0.mk ((by rw [hg]; exact (below_size (Bs)) : w.heap.size ≤ gb608))
          have n9_ := Aside0.mk ((by rw [hg]; exact Nat.ne_of_lt (blk_lt (Kx BK581.out)) : gb581 ≠ gb608))
          have n10_ := Aside0.mk ((by rw [hg]; exact Nat.ne_of_gt (blk_lt (Kx BK581.out)) : gb608 ≠ gb581))
          have n11_ := Aside0.mk ((by rw [hg]; exact Nat.ne_of_lt (blk_lt (Kx BK582.out)) : gb582 ≠ gb608))
          have n12_ := Aside0.mk ((by rw [hg]; exact Nat.ne_of_gt (blk_lt (Kx BK582.out)) : gb608 ≠ gb582))
          have n13_ := Aside0.mk ((by rw [hg]; exact Nat.ne_of_lt (blk_lt (Kx BK583.out)) : gb583 ≠ gb608))
          have n14_ := Aside0.mk ((by rw [hg]; exact Nat.ne_of_gt (blk_lt (Kx BK583.out)) : gb608 ≠ gb583))
          clear HO587
          clear HO591
          clear BK581
          clear BK582
          clear BK583
          clear HB
          have HO587 := n0_
          have HO591 := n1_
          have BK581 := n2_
          have BK582 := n3_
          have BK583 := n4_
          have HB := n5_
          have BK608 := n6_
          have GW608 := n7_
          have GE608 := n8_
          have NB581_608 := n9_
          have NB608_581 := n10_
          have NB582_608 := n11_
          have NB608_582 := n12_
          have NB583_608 := n13_
          have NB608_583 := n14_
          clear n0_ n1_ n2_ n3_ n4_ n5_ n6_ n7_ n8_ n9_ n10_ n11_ n12_ n13_ n14_
          clear hb hbox hg
          refine hK.out _ _ ⟨(blk_cell BK581.out 0).trans rfl, (blk_cell BK581.out 1).trans rfl, (blk_cell BK581.out 2).trans rfl, (blk_cell BK582.out 0).trans rfl, (blk_cell BK582.out 1).trans rfl, (blk_cell BK582.out 2).trans rfl⟩ (fun hHeld => ?_)
          clear hK K
          refine norm_ (a' := ?_) ?_ ?_
          rotate_left
          ·
           show Act.put _ (some 5) _ = _
           simp only [Act.put, List.setIfInBounds_toArray, List.set_cons_zero, List.set_cons_succ, i64_w, i32_w]
           rfl
          exact norm_ (by first | (simp only [putAll, Act.put, List.setIfInBounds_toArray, List.set_cons_zero, List.set_cons_succ]; done) | (simp only [putAll, Act.put, List.setIfInBounds_toArray, List.set_cons_zero, List.set_cons_succ]; rfl)) (hJ4_6_14 (_, _, gb608) _ ⟨hHeld, (Kd.Rx HO587.out), (Kd.Rx HO591.out), (Kx BK581.out), (Kx BK582.out), (Kx BK583.out), (Kx BK608.out), GW608.out, GE608.out, NB581_608.out, NB608_581.out, NB582_608.out, NB608_582.out, NB583_608.out, NB608_583.out, (Bs)⟩)
       ·
        skip
        rintro ⟨v586, v590, gb608⟩ w15 ⟨hS_, h0_, h1_, h2_, h3_, h4_, h5_, h6_, h7_, h8_, h9_, h10_, h11_, h12_, h13_, h14_⟩
        have HO587 : Aside0 (Kd.R (Kd.int .u64) 96 w15 w.heap.size (fun k_ => nb k_ v590) v586 t585) := ⟨h0_⟩
        have HO591 : Aside0 (Kd.R (Kd.int .u64) 96 w15 w.heap.size (fun k_ => nb k_ v586) v590 t589) := ⟨h1_⟩
        replace BK581 : Aside0 (w15.heap[gb581]? = some (.cells #[.bool a0_0, .slice A0_1 l0_1.length c0_1, .slice A0_2 l0_2.length c0_2] 34 (0, 0))) := ⟨h2_⟩
        replace BK582 : Aside0 (w15.heap[gb582]? = some (.cells #[.bool a1_0, .slice A1_1 l1_1.length c1_1, .slice A1_2 l1_2.length c1_2] 34 (0, 0))) := ⟨h3_⟩
        replace BK583 : Aside0 (w15.heap[gb583]? = some (.cells #[.bool false, .slice none 0 0, .slice none 0 0] 34 (0, 0))) := ⟨h4_⟩
        have BK608 : Aside0 (w15.heap[gb608]? = some (.cells #[.bool false, .slice none 0 0, .slice none 0 0] 34 (0, 0))) := ⟨h5_⟩
        have GW608 : Aside0 (w.heap.size ≤ gb608) := ⟨h6_⟩
        have GE608 : Aside0 (w.heap.size ≤ gb608) := ⟨h7_⟩
        have NB581_608 : Aside0 (gb581 ≠ gb608) := ⟨h8_⟩
        have NB608_581 : Aside0 (gb608 ≠ gb581) := ⟨h9_⟩
        have NB582_608 : Aside0 (gb582 ≠ gb608) := ⟨h10_⟩
        have NB608_582 : Aside0 (gb608 ≠ gb582) := ⟨h11_⟩
        have NB583_608 : Aside0 (gb583 ≠ gb608) := ⟨h12_⟩
        have NB608_583 : Aside0 (gb608 ≠ gb583) := ⟨h13_⟩
        replace HB : Aside0 (Below w.heap.size w w15) := ⟨h14_⟩
        clear h0_ h1_ h2_ h3_ h4_ h5_ h6_ h7_ h8_ h9_ h10_ h11_ h12_ h13_ h14_
        have hHeld : w15.cell? ⟨gb581, 0, none⟩ = some (.bool a0_0) ∧ w15.cell? ⟨gb581, 1, none⟩ = some (.slice A0_1 l0_1.length c0_1) ∧ w15.cell? ⟨gb581, 2, none⟩ = some (.slice A0_2 l0_2.length c0_2) ∧ w15.cell? ⟨gb582, 0, none⟩ = some (.bool a1_0) ∧ w15.cell? ⟨gb582, 1, none⟩ = some (.slice A1_1 l1_1.length c1_1) ∧ w15.cell? ⟨gb582, 2, none⟩ = some (.slice A1_2 l1_2.length c1_2) := hS_
        refine norm_ (a' := ?_) ?_ ?_
        rotate_left
        ·
         simp only [putAll, Act.put, List.setIfInBounds_toArray, List.set_cons_zero, List.set_cons_succ]
         rfl
        refine one_ (i := 8) (N := some 16) #[true, true, true, true, true, true, true, true, true, false, false, false, false, false, true, false, false] rfl rfl (one_of HT_.out (by kernel_rfl)) (by decide) (fun K hK => ?_)
        refine goes_ Try.func66 (by kernel_rfl) rfl #[.agg #[.bool a1_0, .slice A1_1 l1_1.length c1_1, .slice A1_2 l1_2.length c1_2]] (by rfl) rfl rfl (by (try simp only [List.map_toArray, List.map_cons, List.map_nil]); first | done | rfl | (simp only [List.length_drop, List.length_take]; rfl)) ?_
        with_reducible refine (rat_up.calls k a1_0 _ _ l1_1 _ _ l1_2 t592 t593 _ ?side1 ?side2 ?side3 ?side4 A5.out).mono ?_
        (case side1 => exact Kd.Cx (Kd.C_below HR1_1.out HB.out))
        (case side2 => exact HC1_1.out)
        (case side3 => exact Kd.Cx (Kd.C_below HR1_2.out HB.out))
        (case side4 => exact HC1_2.out)
        rintro e w16 ⟨v594, rfl, ho0, hb⟩
        refine ⟨_, rfl, ?_⟩
        have HO595 := Aside0.mk (Kd.R_lower (Kd.R_new' (Kd.R_new' ho0 (Kd.R_lt (Kd.Rx HO587.out))) (Kd.R_lt (Kd.Rx HO591.out))) (below_size (Bs)))
        replace HO587 := Aside0.mk (Kd.R_elder' (Kd.Rx HO587.out) (Kd.R_base ho0) hb)
        replace HO591 := Aside0.mk (Kd.R_elder' (Kd.Rx HO591.out) (Kd.R_base ho0) hb)
        replace BK581 := Aside0.mk (blk_below (Kx BK581.out) hb)
        replace BK582 := Aside0.mk (blk_below (Kx BK582.out) hb)
        replace BK583 := Aside0.mk (blk_below (Kx BK583.out) hb)
        replace BK608 := Aside0.mk (blk_below (Kx BK608.out) hb)
        replace HB := Aside0.mk (below_step (Bs) hb)
        (try clear hb)
        (try clear hb2)
        (try clear hk)
        (try clear hi)
        (try clear ho0)
        refine hK.out _ _ ⟨(blk_cell BK581.out 0).trans rfl, (blk_cell BK581.out 1).trans rfl, (blk_cell BK581.out 2).trans rfl, (blk_cell BK582.out 0).trans rfl, (blk_cell BK582.out 1).trans rfl, (blk_cell BK582.out 2).trans rfl⟩ (fun hHeld => ?_)
        clear hK K
        refine norm_ (a' := ?_) ?_ ?_
        rotate_left
        ·
         show Act.put _ (some 16) _ = _
         simp only [Act.put, List.setIfInBounds_toArray, List.set_cons_zero, List.set_cons_succ, i64_w, i32_w]
         rfl
        exact norm_ (by first | (simp only [putAll, Act.put, List.setIfInBounds_toArray, List.set_cons_zero, List.set_cons_succ]; done) | (simp only [putAll, Act.put, List.setIfInBounds_toArray, List.set_cons_zero, List.set_cons_succ]; rfl)) (hJ4_6_8_14 (_, _, _, gb608) _ ⟨hHeld, (Kd.Rx HO587.out), (Kd.Rx HO591.out), (Kd.Rm HO595.out), (Kx BK581.out), (Kx BK582.out), (Kx BK583.out), (Kx BK608.out), GW608.out, GE608.out, NB581_608.out, NB608_581.out, NB582_608.out, NB608_582.out, NB583_608.out, NB608_583.out, (Bs)⟩)
      ·
       skip
       rintro ⟨v586, v590, v594⟩ w15 ⟨hS_, h0_, h1_, h2_, h3_, h4_, h5_, h6_⟩
       have HO587 : Aside0 (Kd.R (Kd.int .u64) 96 w15 w.heap.size (fun k_ => nb k_ v590 ∧ nb k_ v594) v586 t585) := ⟨h0_⟩
       have HO591 : Aside0 (Kd.R (Kd.int .u64) 96 w15 w.heap.size (fun k_ => nb k_ v586 ∧ nb k_ v594) v590 t589) := ⟨h1_⟩
       have HO595 : Aside0 (Kd.R (Kd.int .u64) 96 w15 w.heap.size (fun k_ => nb k_ v586 ∧ nb k_ v590) v594 t593) := ⟨h2_⟩
       replace BK581 : Aside0 (w15.heap[gb581]? = some (.cells #[.bool a0_0, .slice A0_1 l0_1.length c0_1, .slice A0_2 l0_2.length c0_2] 34 (0, 0))) := ⟨h3_⟩
       replace BK582 : Aside0 (w15.heap[gb582]? = some (.cells #[.bool a1_0, .slice A1_1 l1_1.length c1_1, .slice A1_2 l1_2.length c1_2] 34 (0, 0))) := ⟨h4_⟩
       replace BK583 : Aside0 (w15.heap[gb583]? = some (.cells #[.bool false, .slice none 0 0, .slice none 0 0] 34 (0, 0))) := ⟨h5_⟩
       replace HB : Aside0 (Below w.heap.size w w15) := ⟨h6_⟩
       clear h0_ h1_ h2_ h3_ h4_ h5_ h6_
       have hHeld : w15.cell? ⟨gb581, 0, none⟩ = some (.bool a0_0) ∧ w15.cell? ⟨gb581, 1, none⟩ = some (.slice A0_1 l0_1.length c0_1) ∧ w15.cell? ⟨gb581, 2, none⟩ = some (.slice A0_2 l0_2.length c0_2) ∧ w15.cell? ⟨gb582, 0, none⟩ = some (.bool a1_0) ∧ w15.cell? ⟨gb582, 1, none⟩ = some (.slice A1_1 l1_1.length c1_1) ∧ w15.cell? ⟨gb582, 2, none⟩ = some (.slice A1_2 l1_2.length c1_2) := hS_
       obtain ⟨Ao16, co16, eo16⟩ := Kd.R_slice HO591.out
       (first | subst eo16 | (injection eo16 with f1_ f2_ f3_; have f4_ := f1_.symm; have f5_ := f3_.symm; clear f1_ f2_ f3_; subst f4_; subst f5_))
       obtain ⟨Ao17, co17, eo17⟩ := Kd.R_slice HO595.out
       (first | subst eo17 | (injection eo17 with f1_ f2_ f3_; have f4_ := f1_.symm; have f5_ := f3_.symm; clear f1_ f2_ f3_; subst f4_; subst f5_))
       refine norm_ (a' := ?_) ?_ ?_
       rotate_left
       ·
        simp only [putAll, Act.put, List.setIfInBounds_toArray, List.set_cons_zero, List.set_cons_succ]
        rfl
       refine two_ (i := 9) (j := 14) (Ni := some 17) (Nj := some 5) #[true, true, true, true, true, true, true, true, true, true, false, false, false, false, false, false, false] #[true, true, true, true, true, true, true, true, true, false, false, false, false, false, true, false, false] rfl rfl rfl rfl (two_of HT_.out (by kernel_rfl)) (by decide) (by decide) (fun K hK => ?_) (fun K hK => ?_)
       ·
        skip
        refine goes_ Try.func65 (by kernel_rfl) rfl #[.agg #[.bool t588, .slice Ao16 t589.length co16], .agg #[.bool t592, .slice Ao17 t593.length co17]] (by rfl) rfl rfl (by (try simp only [List.map_toArray, List.map_cons, List.map_nil]); first | done | rfl | (simp only [List.length_drop, List.length_take]; rfl)) ?_
        with_reducible refine (whole_Mul.calls k t588 _ _ t589 t592 _ _ t593 t596 t597 _ ?side1 ?side2 ?side3 ?side4 A6.out).mono ?_
        (case side1 => exact Kd.Cx (Kd.R_reads' HO591.out).2.2)
        (case side2 => exact (Kd.R_reads' HO591.out).2.1)
        (case side3 => exact Kd.Cx (Kd.R_reads' HO595.out).2.2)
        (case side4 => exact (Kd.R_reads' HO595.out).2.1)
        rintro e w18 ⟨v598, rfl, ho0, hb⟩
        refine ⟨_, rfl, ?_⟩
        have HO599 := Aside0.mk (Kd.R_lower (Kd.R_new' (Kd.R_new' (Kd.R_new' ho0 (Kd.R_lt (Kd.Rx HO587.out))) (Kd.R_lt (Kd.Rx HO591.out))) (Kd.R_lt (Kd.Rx HO595.out))) (below_size (Bs)))
        replace HO587 := Aside0.mk (Kd.R_elder' (Kd.Rx HO587.out) (Kd.R_base ho0) hb)
        replace HO591 := Aside0.mk (Kd.R_elder' (Kd.Rx HO591.out) (Kd.R_base ho0) hb)
        replace HO595 := Aside0.mk (Kd.R_elder' (Kd.Rx HO595.out) (Kd.R_base ho0) hb)
        replace BK581 := Aside0.mk (blk_below (Kx BK581.out) hb)
        replace BK582 := Aside0.mk (blk_below (Kx BK582.out) hb)
        replace BK583 := Aside0.mk (blk_below (Kx BK583.out) hb)
        replace HB := Aside0.mk (below_step (Bs) hb)
        (try clear hb)
        (try clear hb2)
        (try clear hk)
        (try clear hi)
        (try clear ho0)
        refine hK.out _ _ ⟨(blk_cell BK581.out 0).trans rfl, (blk_cell BK581.out 1).trans rfl, (blk_cell BK581.out 2).trans rfl, (blk_cell BK582.out 0).trans rfl, (blk_cell BK582.out 1).trans rfl, (blk_cell BK582.out 2).trans rfl⟩ (fun hHeld => ?_)
        clear hK K
        refine norm_ (a' := ?_) ?_ ?_
        rotate_left
        ·
         show Act.put _ (some 17) _ = _
         simp only [Act.put, List.setIfInBounds_toArray, List.set_cons_zero, List.set_cons_succ, i64_w, i32_w]
         rfl
        exact norm_ (by first | (simp only [putAll, Act.put, List.setIfInBounds_toArray, List.set_cons_zero, List.set_cons_succ]; done) | (simp only [putAll, Act.put, List.setIfInBounds_toArray, List.set_cons_zero, List.set_cons_succ]; rfl)) (hJ4_6_8_9 (_, .slice Ao16 t589.length co16, .slice Ao17 t593.length co17, _) _ ⟨hHeld, (Kd.Rm HO587.out), (Kd.Rm HO591.out), (Kd.Rm HO595.out), (Kd.Rm HO599.out), (Kx BK581.out), (Kx BK582.out), (Kx BK583.out), (Bs)⟩)
       ·
        skip
        refine box_step ?hg (N := 5) ?hd (cs := #[.bool false, .slice none 0 0, .slice none 0 0]) (t := 34) ?hr ?_; (case hd => rfl); (case hg => rfl); (case hr => first | (go_simp; done) | (go_simp; rfl))
        intro gb608 hg w16 hbox hb
        have n0_ := Aside0.mk (Kd.R_below (Kd.Rx HO587.out) hb)
        have n1_ := Aside0.mk (Kd.R_below (Kd.Rx HO591.out) hb)
        have n2_ := Aside0.mk (Kd.R_below (Kd.Rx HO595.out) hb)
        have n3_ := Aside0.mk (blk_below (Kx BK581.out) hb)
        have n4_ := Aside0.mk (blk_below (Kx BK582.out) hb)
        have n5_ := Aside0.mk (blk_below (Kx BK583.out) hb)
        have n6_ := Aside0.mk (below_step (Bs) hb)
        have n7_ := Aside0.mk (hbox)
        have n8_ := Aside0.mk ((by rw [hg]; exact (below_size (Bs)) : w.heap.size ≤ gb608))
        have n9_ := Aside0.mk ((by rw [hg]; exact (below_size (Bs)) : w.heap.size ≤ gb608))
        have n10_ := Aside0.mk ((by rw [hg]; exact Nat.ne_of_lt (blk_lt (Kx BK581.out)) : gb581 ≠ gb608))
        have n11_ := Aside0.mk ((by rw [hg]; exact Nat.ne_of_gt (blk_lt (Kx BK581.out)) : gb608 ≠ gb581))
        have n12_ := Aside0.mk ((by rw [hg]; exact Nat.ne_of_lt (blk_lt (Kx BK582.out)) : gb582 ≠ gb608))
        have n13_ := Aside0.mk ((by rw [hg]; exact Nat.ne_of_gt (blk_lt (Kx BK582.out)) : gb608 ≠ gb582))
        have n14_ := Aside0.mk ((by rw [hg]; exact Nat.ne_of_lt (blk_lt (Kx BK583.out)) : gb583 ≠ gb608))
        have n15_ := Aside0.mk ((by rw [hg]; exact Nat.ne_of_gt (blk_lt (Kx BK583.out)) : gb608 ≠ gb583))
        clear HO587
        clear HO591
        clear HO595
        clear BK581
        clear BK582
        clear BK583
        clear HB
        have HO587 := n0_
        have HO591 := n1_
        have HO595 := n2_
        have BK581 := n3_
        have BK582 := n4_
        have BK583 := n5_
        have HB := n6_
        have BK608 := n7_
        have GW608 := n8_
        have GE608 := n9_
        have NB581_608 := n10_
        have NB608_581 := n11_
        have NB582_608 := n12_
        have NB608_582 := n13_
        have NB583_608 := n14_
        have NB608_583 := n15_
        clear n0_ n1_ n2_ n3_ n4_ n5_ n6_ n7_ n8_ n9_ n10_ n11_ n12_ n13_ n14_ n15_
        clear hb hbox hg
        refine hK.out _ _ ⟨(blk_cell BK581.out 0).trans rfl, (blk_cell BK581.out 1).trans rfl, (blk_cell BK581.out 2).trans rfl, (blk_cell BK582.out 0).trans rfl, (blk_cell BK582.out 1).trans rfl, (blk_cell BK582.out 2).trans rfl⟩ (fun hHeld => ?_)
        clear hK K
        refine norm_ (a' := ?_) ?_ ?_
        rotate_left
        ·
         show Act.put _ (some 5) _ = _
         simp only [Act.put, List.setIfInBounds_toArray, List.set_cons_zero, List.set_cons_succ, i64_w, i32_w]
         rfl
        exact norm_ (by first | (simp only [putAll, Act.put, List.setIfInBounds_toArray, List.set_cons_zero, List.set_cons_succ]; done) | (simp only [putAll, Act.put, List.setIfInBounds_toArray, List.set_cons_zero, List.set_cons_succ]; rfl)) (hJ4_6_8_14 (_, _, _, gb608) _ ⟨hHeld, (Kd.Rx HO587.out), (Kd.Rx HO591.out), (Kd.Rx HO595.out), (Kx BK581.out), (Kx BK582.out), (Kx BK583.out), (Kx BK608.out), GW608.out, GE608.out, NB581_608.out, NB608_581.out, NB582_608.out, NB608_582.out, NB583_608.out, NB608_583.out, (Bs)⟩)
     ·
      skip
      rintro ⟨v586, v590, v594, gb608⟩ w16 ⟨hS_, h0_, h1_, h2_, h3_, h4_, h5_, h6_, h7_, h8_, h9_, h10_, h11_, h12_, h13_, h14_, h15_⟩
      have HO587 : Aside0 (Kd.R (Kd.int .u64) 96 w16 w.heap.size (fun k_ => nb k_ v590 ∧ nb k_ v594) v586 t585) := ⟨h0_⟩
      have HO591 : Aside0 (Kd.R (Kd.int .u64) 96 w16 w.heap.size (fun k_ => nb k_ v586 ∧ nb k_ v594) v590 t589) := ⟨h1_⟩
      have HO595 : Aside0 (Kd.R (Kd.int .u64) 96 w16 w.heap.size (fun k_ => nb k_ v586 ∧ nb k_ v590) v594 t593) := ⟨h2_⟩
      replace BK581 : Aside0 (w16.heap[gb581]? = some (.cells #[.bool a0_0, .slice A0_1 l0_1.length c0_1, .slice A0_2 l0_2.length c0_2] 34 (0, 0))) := ⟨h3_⟩
      replace BK582 : Aside0 (w16.heap[gb582]? = some (.cells #[.bool a1_0, .slice A1_1 l1_1.length c1_1, .slice A1_2 l1_2.length c1_2] 34 (0, 0))) := ⟨h4_⟩
      replace BK583 : Aside0 (w16.heap[gb583]? = some (.cells #[.bool false, .slice none 0 0, .slice none 0 0] 34 (0, 0))) := ⟨h5_⟩
      have BK608 : Aside0 (w16.heap[gb608]? = some (.cells #[.bool false, .slice none 0 0, .slice none 0 0] 34 (0, 0))) := ⟨h6_⟩
      have GW608 : Aside0 (w.heap.size ≤ gb608) := ⟨h7_⟩
      have GE608 : Aside0 (w.heap.size ≤ gb608) := ⟨h8_⟩
      have NB581_608 : Aside0 (gb581 ≠ gb608) := ⟨h9_⟩
      have NB608_581 : Aside0 (gb608 ≠ gb581) := ⟨h10_⟩
      have NB582_608 : Aside0 (gb582 ≠ gb608) := ⟨h11_⟩
      have NB608_582 : Aside0 (gb608 ≠ gb582) := ⟨h12_⟩
      have NB583_608 : Aside0 (gb583 ≠ gb608) := ⟨h13_⟩
      have NB608_583 : Aside0 (gb608 ≠ gb583) := ⟨h14_⟩
      replace HB : Aside0 (Below w.heap.size w w16) := ⟨h15_⟩
      clear h0_ h1_ h2_ h3_ h4_ h5_ h6_ h7_ h8_ h9_ h10_ h11_ h12_ h13_ h14_ h15_
      have hHeld : w16.cell? ⟨gb581, 0, none⟩ = some (.bool a0_0) ∧ w16.cell? ⟨gb581, 1, none⟩ = some (.slice A0_1 l0_1.length c0_1) ∧ w16.cell? ⟨gb581, 2, none⟩ = some (.slice A0_2 l0_2.length c0_2) ∧ w16.cell? ⟨gb582, 0, none⟩ = some (.bool a1_0) ∧ w16.cell? ⟨gb582, 1, none⟩ = some (.slice A1_1 l1_1.length c1_1) ∧ w16.cell? ⟨gb582, 2, none⟩ = some (.slice A1_2 l1_2.length c1_2) := hS_
      obtain ⟨Ao17, co17, eo17⟩ := Kd.R_slice HO591.out
      (first | subst eo17 | (injection eo17 with f1_ f2_ f3_; have f4_ := f1_.symm; have f5_ := f3_.symm; clear f1_ f2_ f3_; subst f4_; subst f5_))
      obtain ⟨Ao18, co18, eo18⟩ := Kd.R_slice HO595.out
      (first | subst eo18 | (injection eo18 with f1_ f2_ f3_; have f4_ := f1_.symm; have f5_ := f3_.symm; clear f1_ f2_ f3_; subst f4_; subst f5_))
      refine norm_ (a' := ?_) ?_ ?_
      rotate_left
      ·
       simp only [putAll, Act.put, List.setIfInBounds_toArray, List.set_cons_zero, List.set_cons_succ]
       rfl
      refine one_ (i := 9) (N := some 17) #[true, true, true, true, true, true, true, true, true, true, false, false, false, false, true, false, false] rfl rfl (one_of HT_.out (by kernel_rfl)) (by decide) (fun K hK => ?_)
      refine goes_ Try.func65 (by kernel_rfl) rfl #[.agg #[.bool t588, .slice Ao17 t589.length co17], .agg #[.bool t592, .slice Ao18 t593.length co18]] (by rfl) rfl rfl (by (try simp only [List.map_toArray, List.map_cons, List.map_nil]); first | done | rfl | (simp only [List.length_drop, List.length_take]; rfl)) ?_
      with_reducible refine (whole_Mul.calls k t588 _ _ t589 t592 _ _ t593 t596 t597 _ ?side1 ?side2 ?side3 ?side4 A6.out).mono ?_
      (case side1 => exact Kd.Cx (Kd.R_reads' HO591.out).2.2)
      (case side2 => exact (Kd.R_reads' HO591.out).2.1)
      (case side3 => exact Kd.Cx (Kd.R_reads' HO595.out).2.2)
      (case side4 => exact (Kd.R_reads' HO595.out).2.1)
      rintro e w19 ⟨v598, rfl, ho0, hb⟩
      refine ⟨_, rfl, ?_⟩
      have HO599 := Aside0.mk (Kd.R_lower (Kd.R_new' (Kd.R_new' (Kd.R_new' ho0 (Kd.R_lt (Kd.Rx HO587.out))) (Kd.R_lt (Kd.Rx HO591.out))) (Kd.R_lt (Kd.Rx HO595.out))) (below_size (Bs)))
      replace HO587 := Aside0.mk (Kd.R_elder' (Kd.Rx HO587.out) (Kd.R_base ho0) hb)
      replace HO591 := Aside0.mk (Kd.R_elder' (Kd.Rx HO591.out) (Kd.R_base ho0) hb)
      replace HO595 := Aside0.mk (Kd.R_elder' (Kd.Rx HO595.out) (Kd.R_base ho0) hb)
      replace BK581 := Aside0.mk (blk_below (Kx BK581.out) hb)
      replace BK582 := Aside0.mk (blk_below (Kx BK582.out) hb)
      replace BK583 := Aside0.mk (blk_below (Kx BK583.out) hb)
      replace BK608 := Aside0.mk (blk_below (Kx BK608.out) hb)
      replace HB := Aside0.mk (below_step (Bs) hb)
      (try clear hb)
      (try clear hb2)
      (try clear hk)
      (try clear hi)
      (try clear ho0)
      refine hK.out _ _ ⟨(blk_cell BK581.out 0).trans rfl, (blk_cell BK581.out 1).trans rfl, (blk_cell BK581.out 2).trans rfl, (blk_cell BK582.out 0).trans rfl, (blk_cell BK582.out 1).trans rfl, (blk_cell BK582.out 2).trans rfl⟩ (fun hHeld => ?_)
      clear hK K
      refine norm_ (a' := ?_) ?_ ?_
      rotate_left
      ·
       show Act.put _ (some 17) _ = _
       simp only [Act.put, List.setIfInBounds_toArray, List.set_cons_zero, List.set_cons_succ, i64_w, i32_w]
       rfl
      exact norm_ (by first | (simp only [putAll, Act.put, List.setIfInBounds_toArray, List.set_cons_zero, List.set_cons_succ]; done) | (simp only [putAll, Act.put, List.setIfInBounds_toArray, List.set_cons_zero, List.set_cons_succ]; rfl)) (hJ4_6_8_9_14 (_, .slice Ao17 t589.length co17, .slice Ao18 t593.length co18, _, gb608) _ ⟨hHeld, (Kd.Rm HO587.out), (Kd.Rm HO591.out), (Kd.Rm HO595.out), (Kd.Rm HO599.out), (Kx BK581.out), (Kx BK582.out), (Kx BK583.out), (Kx BK608.out), GW608.out, GE608.out, NB581_608.out, NB608_581.out, NB582_608.out, NB608_582.out, NB583_608.out, NB608_583.out, (Bs)⟩)
    ·
     skip
     rintro ⟨v586, v590, v594, v598⟩ w18 ⟨hS_, h0_, h1_, h2_, h3_, h4_, h5_, h6_, h7_⟩
     have HO587 : Aside0 (Kd.R (Kd.int .u64) 96 w18 w.heap.size (fun k_ => nb k_ v590 ∧ nb k_ v594 ∧ nb k_ v598) v586 t585) := ⟨h0_⟩
     have HO591 : Aside0 (Kd.R (Kd.int .u64) 96 w18 w.heap.size (fun k_ => nb k_ v586 ∧ nb k_ v594 ∧ nb k_ v598) v590 t589) := ⟨h1_⟩
     have HO595 : Aside0 (Kd.R (Kd.int .u64) 96 w18 w.heap.size (fun k_ => nb k_ v586 ∧ nb k_ v590 ∧ nb k_ v598) v594 t593) := ⟨h2_⟩
     have HO599 : Aside0 (Kd.R (Kd.int .u64) 96 w18 w.heap.size (fun k_ => nb k_ v586 ∧ nb k_ v590 ∧ nb k_ v594) v598 t597) := ⟨h3_⟩
     replace BK581 : Aside0 (w18.heap[gb581]? = some (.cells #[.bool a0_0, .slice A0_1 l0_1.length c0_1, .slice A0_2 l0_2.length c0_2] 34 (0, 0))) := ⟨h4_⟩
     replace BK582 : Aside0 (w18.heap[gb582]? = some (.cells #[.bool a1_0, .slice A1_1 l1_1.length c1_1, .slice A1_2 l1_2.length c1_2] 34 (0, 0))) := ⟨h5_⟩
     replace BK583 : Aside0 (w18.heap[gb583]? = some (.cells #[.bool false, .slice none 0 0, .slice none 0 0] 34 (0, 0))) := ⟨h6_⟩
     replace HB : Aside0 (Below w.heap.size w w18) := ⟨h7_⟩
     clear h0_ h1_ h2_ h3_ h4_ h5_ h6_ h7_
     have hHeld : w18.cell? ⟨gb581, 0, none⟩ = some (.bool a0_0) ∧ w18.cell? ⟨gb581, 1, none⟩ = some (.slice A0_1 l0_1.length c0_1) ∧ w18.cell? ⟨gb581, 2, none⟩ = some (.slice A0_2 l0_2.length c0_2) ∧ w18.cell? ⟨gb582, 0, none⟩ = some (.bool a1_0) ∧ w18.cell? ⟨gb582, 1, none⟩ = some (.slice A1_1 l1_1.length c1_1) ∧ w18.cell? ⟨gb582, 2, none⟩ = some (.slice A1_2 l1_2.length c1_2) := hS_
     obtain ⟨Ao19, co19, eo19⟩ := Kd.R_slice HO587.out
     (first | subst eo19 | (injection eo19 with f1_ f2_ f3_; have f4_ := f1_.symm; have f5_ := f3_.symm; clear f1_ f2_ f3_; subst f4_; subst f5_))
     obtain ⟨Ao20, co20, eo20⟩ := Kd.R_slice HO599.out
     (first | subst eo20 | (injection eo20 with f1_ f2_ f3_; have f4_ := f1_.symm; have f5_ := f3_.symm; clear f1_ f2_ f3_; subst f4_; subst f5_))
     refine norm_ (a' := ?_) ?_ ?_
     rotate_left
     ·
      simp only [putAll, Act.put, List.setIfInBounds_toArray, List.set_cons_zero, List.set_cons_succ]
      rfl
     refine two_ (i := 10) (j := 14) (Ni := some 18) (Nj := some 5) #[true, true, true, true, true, true, true, true, true, true, true, false, false, false, false, false, false] #[true, true, true, true, true, true, true, true, true, true, false, false, false, false, true, false, false] rfl rfl rfl rfl (two_of HT_.out (by kernel_rfl)) (by decide) (by decide) (fun K hK => ?_) (fun K hK => ?_)
     ·
      skip
      refine goes_ Try.func67 (by kernel_rfl) rfl #[.agg #[.bool t584, .slice Ao19 t585.length co19], .agg #[.bool t596, .slice Ao20 t597.length co20]] (by rfl) rfl rfl (by (try simp only [List.map_toArray, List.map_cons, List.map_nil]); first | done | rfl | (simp only [List.length_drop, List.length_take]; rfl)) ?_
      with_reducible refine (rat_Make.calls k t584 _ _ t585 t596 _ _ t597 t600 t601 t604 t607 _ ?side1 ?side2 ?side3 ?side4 A7.out).mono ?_
      (case side1 => exact Kd.Cx (Kd.R_reads' HO587.out).2.2)
      (case side2 => exact (Kd.R_reads' HO587.out).2.1)
      (case side3 => exact Kd.Cx (Kd.R_reads' HO599.out).2.2)
      (case side4 => exact (Kd.R_reads' HO599.out).2.1)
      rintro e w21 ⟨v602, v605, rfl, ho0, ho1, hb⟩
      refine ⟨_, rfl, ?_⟩
      have HO603 := Aside0.mk (Kd.R_lower (Kd.R_new' (Kd.R_new' (Kd.R_new' (Kd.R_new' ho0 (Kd.R_lt (Kd.Rx HO587.out))) (Kd.R_lt (Kd.Rx HO591.out))) (Kd.R_lt (Kd.Rx HO595.out))) (Kd.R_lt (Kd.Rx HO599.out))) (below_size (Bs)))
      have HO606 := Aside0.mk (Kd.R_lower (Kd.R_new' (Kd.R_new' (Kd.R_new' (Kd.R_new' ho1 (Kd.R_lt (Kd.Rx HO587.out))) (Kd.R_lt (Kd.Rx HO591.out))) (Kd.R_lt (Kd.Rx HO595.out))) (Kd.R_lt (Kd.Rx HO599.out))) (below_size (Bs)))
      replace HO587 := Aside0.mk (Kd.R_mono (Kd.R_told (Kd.R_told (Kd.R_old (Kd.Rx HO587.out) hb) (Kd.R_base ho0)) (Kd.R_base ho1)) (fun _ h_ => h_.1))
      replace HO591 := Aside0.mk (Kd.R_mono (Kd.R_told (Kd.R_told (Kd.R_old (Kd.Rx HO591.out) hb) (Kd.R_base ho0)) (Kd.R_base ho1)) (fun _ h_ => h_.1))
      replace HO595 := Aside0.mk (Kd.R_mono (Kd.R_told (Kd.R_told (Kd.R_old (Kd.Rx HO595.out) hb) (Kd.R_base ho0)) (Kd.R_base ho1)) (fun _ h_ => h_.1))
      replace HO599 := Aside0.mk (Kd.R_mono (Kd.R_told (Kd.R_told (Kd.R_old (Kd.Rx HO599.out) hb) (Kd.R_base ho0)) (Kd.R_base ho1)) (fun _ h_ => h_.1))
      replace BK581 := Aside0.mk (blk_below (Kx BK581.out) hb)
      replace BK582 := Aside0.mk (blk_below (Kx BK582.out) hb)
      replace BK583 := Aside0.mk (blk_below (Kx BK583.out) hb)
      replace HB := Aside0.mk (below_step (Bs) hb)
      (try clear hb)
      (try clear hb2)
      (try clear hk)
      (try clear hi)
      (try clear ho0)
      (try clear ho1)
      refine hK.out _ _ ⟨(blk_cell BK581.out 0).trans rfl, (blk_cell BK581.out 1).trans rfl, (blk_cell BK581.out 2).trans rfl, (blk_cell BK582.out 0).trans rfl, (blk_cell BK582.out 1).trans rfl, (blk_cell BK582.out 2).trans rfl⟩ (fun hHeld => ?_)
      clear hK K
      refine norm_ (a' := ?_) ?_ ?_
      rotate_left
      ·
       show Act.put _ (some 18) _ = _
       simp only [Act.put, List.setIfInBounds_toArray, List.set_cons_zero, List.set_cons_succ, i64_w, i32_w]
       rfl
      refine pure_ (i := 11) (N := some 7) (v := ?_) (a' := ?_) #[true, true, true, true, true, true, true, true, true, true, true, true, false, false, false, false, false] rfl rfl (any_of HT_.out (by kernel_rfl)) (fun _ _ _ h => h) (Or.inl ⟨by rfl, ?_⟩) ?_ ?_
      rotate_left
      ·
       intro w'
       go_simp
       with_reducible rfl
      rotate_left
      ·
       simp only [Act.put, List.setIfInBounds_toArray, List.set_cons_zero, List.set_cons_succ, i64_w, i32_w]
       rfl
      refine pure_ (i := 12) (N := some 19) (v := ?_) (a' := ?_) #[true, true, true, true, true, true, true, true, true, true, true, true, true, false, false, false, false] rfl rfl (any_of HT_.out (by kernel_rfl)) (fun _ _ _ h => h) (Or.inl ⟨by rfl, ?_⟩) ?_ ?_
      rotate_left
      ·
       intro w'
       go_simp
       with_reducible rfl
      rotate_left
      ·
       simp only [Act.put, List.setIfInBounds_toArray, List.set_cons_zero, List.set_cons_succ, i64_w, i32_w]
       rfl
      refine pure_ (i := 13) (N := some 20) (v := ?_) (a' := ?_) #[true, true, true, true, true, true, true, true, true, true, true, true, true, true, false, false, false] rfl rfl (any_of HT_.out (by kernel_rfl)) (fun _ _ _ h => h) (Or.inl ⟨by rfl, ?_⟩) ?_ ?_
      rotate_left
      ·
       intro w'
       go_simp
       with_reducible rfl
      rotate_left
      ·
       simp only [Act.put, List.setIfInBounds_toArray, List.set_cons_zero, List.set_cons_succ, i64_w, i32_w]
       rfl
      exact norm_ (by first | (simp only [putAll, Act.put, List.setIfInBounds_toArray, List.set_cons_zero, List.set_cons_succ]; done) | (simp only [putAll, Act.put, List.setIfInBounds_toArray, List.set_cons_zero, List.set_cons_succ]; rfl)) (hJ4_6_8_9_10 (.slice Ao19 t585.length co19, _, _, .slice Ao20 t597.length co20, _, _) _ ⟨hHeld, (Kd.Rm HO587.out), (Kd.Rm HO591.out), (Kd.Rm HO595.out), (Kd.Rm HO599.out), (Kd.Rm HO603.out), (Kd.Rm HO606.out), (Kx BK581.out), (Kx BK582.out), (Kx BK583.out), (Bs)⟩)
     ·
      skip
      refine box_step ?hg (N := 5) ?hd (cs := #[.bool false, .slice none 0 0, .slice none 0 0]) (t := 34) ?hr ?_; (case hd => rfl); (case hg => rfl); (case hr => first | (go_simp; done) | (go_simp; rfl))
      intro gb608 hg w19 hbox hb
      have n0_ := Aside0.mk (Kd.R_below (Kd.Rx HO587.out) hb)
      have n1_ := Aside0.mk (Kd.R_below (Kd.Rx HO591.out) hb)
      have n2_ := Aside0.mk (Kd.R_below (Kd.Rx HO595.out) hb)
      have n3_ := Aside0.mk (Kd.R_below (Kd.Rx HO599.out) hb)
      have n4_ := Aside0.mk (blk_below (Kx BK581.out) hb)
      have n5_ := Aside0.mk (blk_below (Kx BK582.out) hb)
      have n6_ := Aside0.mk (blk_below (Kx BK583.out) hb)
      have n7_ := Aside0.mk (below_step (Bs) hb)
      have n8_ := Aside0.mk (hbox)
      have n9_ := Aside0.mk ((by rw [hg]; exact (below_size (Bs)) : w.heap.size ≤ gb608))
      have n10_ := Aside0.mk ((by rw [hg]; exact (below_size (Bs)) : w.heap.size ≤ gb608))
      have n11_ := Aside0.mk ((by rw [hg]; exact Nat.ne_of_lt (blk_lt (Kx BK581.out)) : gb581 ≠ gb608))
      have n12_ := Aside0.mk ((by rw [hg]; exact Nat.ne_of_gt (blk_lt (Kx BK581.out)) : gb608 ≠ gb581))
      have n13_ := Aside0.mk ((by rw [hg]; exact Nat.ne_of_lt (blk_lt (Kx BK582.out)) : gb582 ≠ gb608))
      have n14_ := Aside0.mk ((by rw [hg]; exact Nat.ne_of_gt (blk_lt (Kx BK582.out)) : gb608 ≠ gb582))
      have n15_ := Aside0.mk ((by rw [hg]; exact Nat.ne_of_lt (blk_lt (Kx BK583.out)) : gb583 ≠ gb608))
      have n16_ := Aside0.mk ((by rw [hg]; exact Nat.ne_of_gt (blk_lt (Kx BK583.out)) : gb608 ≠ gb583))
      clear HO587
      clear HO591
      clear HO595
      clear HO599
      clear BK581
      clear BK582
      clear BK583
      clear HB
      have HO587 := n0_
      have HO591 := n1_
      have HO595 := n2_
      have HO599 := n3_
      have BK581 := n4_
      have BK582 := n5_
      have BK583 := n6_
      have HB := n7_
      have BK608 := n8_
      have GW608 := n9_
      have GE608 := n10_
      have NB581_608 := n11_
      have NB608_581 := n12_
      have NB582_608 := n13_
      have NB608_582 := n14_
      have NB583_608 := n15_
      have NB608_583 := n16_
      clear n0_ n1_ n2_ n3_ n4_ n5_ n6_ n7_ n8_ n9_ n10_ n11_ n12_ n13_ n14_ n15_ n16_
      clear hb hbox hg
      refine hK.out _ _ ⟨(blk_cell BK581.out 0).trans rfl, (blk_cell BK581.out 1).trans rfl, (blk_cell BK581.out 2).trans rfl, (blk_cell BK582.out 0).trans rfl, (blk_cell BK582.out 1).trans rfl, (blk_cell BK582.out 2).trans rfl⟩ (fun hHeld => ?_)
      clear hK K
      refine norm_ (a' := ?_) ?_ ?_
      rotate_left
      ·
       show Act.put _ (some 5) _ = _
       simp only [Act.put, List.setIfInBounds_toArray, List.set_cons_zero, List.set_cons_succ, i64_w, i32_w]
       rfl
      exact norm_ (by first | (simp only [putAll, Act.put, List.setIfInBounds_toArray, List.set_cons_zero, List.set_cons_succ]; done) | (simp only [putAll, Act.put, List.setIfInBounds_toArray, List.set_cons_zero, List.set_cons_succ]; rfl)) (hJ4_6_8_9_14 (_, _, _, _, gb608) _ ⟨hHeld, (Kd.Rx HO587.out), (Kd.Rx HO591.out), (Kd.Rx HO595.out), (Kd.Rx HO599.out), (Kx BK581.out), (Kx BK582.out), (Kx BK583.out), (Kx BK608.out), GW608.out, GE608.out, NB581_608.out, NB608_581.out, NB582_608.out, NB608_582.out, NB583_608.out, NB608_583.out, (Bs)⟩)
   ·
    skip
    rintro ⟨v586, v590, v594, v598, gb608⟩ w19 ⟨hS_, h0_, h1_, h2_, h3_, h4_, h5_, h6_, h7_, h8_, h9_, h10_, h11_, h12_, h13_, h14_, h15_, h16_⟩
    have HO587 : Aside0 (Kd.R (Kd.int .u64) 96 w19 w.heap.size (fun k_ => nb k_ v590 ∧ nb k_ v594 ∧ nb k_ v598) v586 t585) := ⟨h0_⟩
    have HO591 : Aside0 (Kd.R (Kd.int .u64) 96 w19 w.heap.size (fun k_ => nb k_ v586 ∧ nb k_ v594 ∧ nb k_ v598) v590 t589) := ⟨h1_⟩
    have HO595 : Aside0 (Kd.R (Kd.int .u64) 96 w19 w.heap.size (fun k_ => nb k_ v586 ∧ nb k_ v590 ∧ nb k_ v598) v594 t593) := ⟨h2_⟩
    have HO599 : Aside0 (Kd.R (Kd.int .u64) 96 w19 w.heap.size (fun k_ => nb k_ v586 ∧ nb k_ v590 ∧ nb k_ v594) v598 t597) := ⟨h3_⟩
    replace BK581 : Aside0 (w19.heap[gb581]? = some (.cells #[.bool a0_0, .slice A0_1 l0_1.length c0_1, .slice A0_2 l0_2.length c0_2] 34 (0, 0))) := ⟨h4_⟩
    replace BK582 : Aside0 (w19.heap[gb582]? = some (.cells #[.bool a1_0, .slice A1_1 l1_1.length c1_1, .slice A1_2 l1_2.length c1_2] 34 (0, 0))) := ⟨h5_⟩
    replace BK583 : Aside0 (w19.heap[gb583]? = some (.cells #[.bool false, .slice none 0 0, .slice none 0 0] 34 (0, 0))) := ⟨h6_⟩
    have BK608 : Aside0 (w19.heap[gb608]? = some (.cells #[.bool false, .slice none 0 0, .slice none 0 0] 34 (0, 0))) := ⟨h7_⟩
    have GW608 : Aside0 (w.heap.size ≤ gb608) := ⟨h8_⟩
    have GE608 : Aside0 (w.heap.size ≤ gb608) := ⟨h9_⟩
    have NB581_608 : Aside0 (gb581 ≠ gb608) := ⟨h10_⟩
    have NB608_581 : Aside0 (gb608 ≠ gb581) := ⟨h11_⟩
    have NB582_608 : Aside0 (gb582 ≠ gb608) := ⟨h12_⟩
    have NB608_582 : Aside0 (gb608 ≠ gb582) := ⟨h13_⟩
    have NB583_608 : Aside0 (gb583 ≠ gb608) := ⟨h14_⟩
    have NB608_583 : Aside0 (gb608 ≠ gb583) := ⟨h15_⟩
    replace HB : Aside0 (Below w.heap.size w w19) := ⟨h16_⟩
    clear h0_ h1_ h2_ h3_ h4_ h5_ h6_ h7_ h8_ h9_ h10_ h11_ h12_ h13_ h14_ h15_ h16_
    have hHeld : w19.cell? ⟨gb581, 0, none⟩ = some (.bool a0_0) ∧ w19.cell? ⟨gb581, 1, none⟩ = some (.slice A0_1 l0_1.length c0_1) ∧ w19.cell? ⟨gb581, 2, none⟩ = some (.slice A0_2 l0_2.length c0_2) ∧ w19.cell? ⟨gb582, 0, none⟩ = some (.bool a1_0) ∧ w19.cell? ⟨gb582, 1, none⟩ = some (.slice A1_1 l1_1.length c1_1) ∧ w19.cell? ⟨gb582, 2, none⟩ = some (.slice A1_2 l1_2.length c1_2) := hS_
    obtain ⟨Ao20, co20, eo20⟩ := Kd.R_slice HO587.out
    (first | subst eo20 | (injection eo20 with f1_ f2_ f3_; have f4_ := f1_.symm; have f5_ := f3_.symm; clear f1_ f2_ f3_; subst f4_; subst f5_))
    obtain ⟨Ao21, co21, eo21⟩ := Kd.R_slice HO599.out
    (first | subst eo21 | (injection eo21 with f1_ f2_ f3_; have f4_ := f1_.symm; have f5_ := f3_.symm; clear f1_ f2_ f3_; subst f4_; subst f5_))
    refine norm_ (a' := ?_) ?_ ?_
    rotate_left
    ·
     simp only [putAll, Act.put, List.setIfInBounds_toArray, List.set_cons_zero, List.set_cons_succ]
     rfl
    refine one_ (i := 10) (N := some 18) #[true, true, true, true, true, true, true, true, true, true, true, false, false, false, true, false, false] rfl rfl (one_of HT_.out (by kernel_rfl)) (by decide) (fun K hK => ?_)
    refine goes_ Try.func67 (by kernel_rfl) rfl #[.agg #[.bool t584, .slice Ao20 t585.length co20], .agg #[.bool t596, .slice Ao21 t597.length co21]] (by rfl) rfl rfl (by (try simp only [List.map_toArray, List.map_cons, List.map_nil]); first | done | rfl | (simp only [List.length_drop, List.length_take]; rfl)) ?_
    with_reducible refine (rat_Make.calls k t584 _ _ t585 t596 _ _ t597 t600 t601 t604 t607 _ ?side1 ?side2 ?side3 ?side4 A7.out).mono ?_
    (case side1 => exact Kd.Cx (Kd.R_reads' HO587.out).2.2)
    (case side2 => exact (Kd.R_reads' HO587.out).2.1)
    (case side3 => exact Kd.Cx (Kd.R_reads' HO599.out).2.2)
    (case side4 => exact (Kd.R_reads' HO599.out).2.1)
    rintro e w22 ⟨v602, v605, rfl, ho0, ho1, hb⟩
    refine ⟨_, rfl, ?_⟩
    have HO603 := Aside0.mk (Kd.R_lower (Kd.R_new' (Kd.R_new' (Kd.R_new' (Kd.R_new' ho0 (Kd.R_lt (Kd.Rx HO587.out))) (Kd.R_lt (Kd.Rx HO591.out))) (Kd.R_lt (Kd.Rx HO595.out))) (Kd.R_lt (Kd.Rx HO599.out))) (below_size (Bs)))
    have HO606 := Aside0.mk (Kd.R_lower (Kd.R_new' (Kd.R_new' (Kd.R_new' (Kd.R_new' ho1 (Kd.R_lt (Kd.Rx HO587.out))) (Kd.R_lt (Kd.Rx HO591.out))) (Kd.R_lt (Kd.Rx HO595.out))) (Kd.R_lt (Kd.Rx HO599.out))) (below_size (Bs)))
    replace HO587 := Aside0.mk (Kd.R_mono (Kd.R_told (Kd.R_told (Kd.R_old (Kd.Rx HO587.out) hb) (Kd.R_base ho0)) (Kd.R_base ho1)) (fun _ h_ => h_.1))
    replace HO591 := Aside0.mk (Kd.R_mono (Kd.R_told (Kd.R_told (Kd.R_old (Kd.Rx HO591.out) hb) (Kd.R_base ho0)) (Kd.R_base ho1)) (fun _ h_ => h_.1))
    replace HO595 := Aside0.mk (Kd.R_mono (Kd.R_told (Kd.R_told (Kd.R_old (Kd.Rx HO595.out) hb) (Kd.R_base ho0)) (Kd.R_base ho1)) (fun _ h_ => h_.1))
    replace HO599 := Aside0.mk (Kd.R_mono (Kd.R_told (Kd.R_told (Kd.R_old (Kd.Rx HO599.out) hb) (Kd.R_base ho0)) (Kd.R_base ho1)) (fun _ h_ => h_.1))
    replace BK581 := Aside0.mk (blk_below (Kx BK581.out) hb)
    replace BK582 := Aside0.mk (blk_below (Kx BK582.out) hb)
    replace BK583 := Aside0.mk (blk_below (Kx BK583.out) hb)
    replace BK608 := Aside0.mk (blk_below (Kx BK608.out) hb)
    replace HB := Aside0.mk (below_step (Bs) hb)
    (try clear hb)
    (try clear hb2)
    (try clear hk)
    (try clear hi)
    (try clear ho0)
    (try clear ho1)
    refine hK.out _ _ ⟨(blk_cell BK581.out 0).trans rfl, (blk_cell BK581.out 1).trans rfl, (blk_cell BK581.out 2).trans rfl, (blk_cell BK582.out 0).trans rfl, (blk_cell BK582.out 1).trans rfl, (blk_cell BK582.out 2).trans rfl⟩ (fun hHeld => ?_)
    clear hK K
    refine norm_ (a' := ?_) ?_ ?_
    rotate_left
    ·
     show Act.put _ (some 18) _ = _
     simp only [Act.put, List.setIfInBounds_toArray, List.set_cons_zero, List.set_cons_succ, i64_w, i32_w]
     rfl
    refine pure_ (i := 11) (N := some 7) (v := ?_) (a' := ?_) #[true, true, true, true, true, true, true, true, true, true, true, true, false, false, true, false, false] rfl rfl (any_of HT_.out (by kernel_rfl)) (fun _ _ _ h => h) (Or.inl ⟨by rfl, ?_⟩) ?_ ?_
    rotate_left
    ·
     intro w'
     go_simp
     with_reducible rfl
    rotate_left
    ·
     simp only [Act.put, List.setIfInBounds_toArray, List.set_cons_zero, List.set_cons_succ, i64_w, i32_w]
     rfl
    refine pure_ (i := 12) (N := some 19) (v := ?_) (a' := ?_) #[true, true, true, true, true, true, true, true, true, true, true, true, true, false, true, false, false] rfl rfl (any_of HT_.out (by kernel_rfl)) (fun _ _ _ h => h) (Or.inl ⟨by rfl, ?_⟩) ?_ ?_
    rotate_left
    ·
     intro w'
     go_simp
     with_reducible rfl
    rotate_left
    ·
     simp only [Act.put, List.setIfInBounds_toArray, List.set_cons_zero, List.set_cons_succ, i64_w, i32_w]
     rfl
    refine pure_ (i := 13) (N := some 20) (v := ?_) (a' := ?_) #[true, true, true, true, true, true, true, true, true, true, true, true, true, true, true, false, false] rfl rfl (any_of HT_.out (by kernel_rfl)) (fun _ _ _ h => h) (Or.inl ⟨by rfl, ?_⟩) ?_ ?_
    rotate_left
    ·
     intro w'
     go_simp
     with_reducible rfl
    rotate_left
    ·
     simp only [Act.put, List.setIfInBounds_toArray, List.set_cons_zero, List.set_cons_succ, i64_w, i32_w]
     rfl
    exact norm_ (by first | (simp only [putAll, Act.put, List.setIfInBounds_toArray, List.set_cons_zero, List.set_cons_succ]; done) | (simp only [putAll, Act.put, List.setIfInBounds_toArray, List.set_cons_zero, List.set_cons_succ]; rfl)) (hJ4_6_8_9_10_14 (.slice Ao20 t585.length co20, _, _, .slice Ao21 t597.length co21, _, _, gb608) _ ⟨hHeld, (Kd.Rm HO587.out), (Kd.Rm HO591.out), (Kd.Rm HO595.out), (Kd.Rm HO599.out), (Kd.Rm HO603.out), (Kd.Rm HO606.out), (Kx BK581.out), (Kx BK582.out), (Kx BK583.out), (Kx BK608.out), GW608.out, GE608.out, NB581_608.out, NB608_581.out, NB582_608.out, NB608_582.out, NB583_608.out, NB608_583.out, (Bs)⟩)
  ·
   skip
   rintro ⟨v586, v590, v594, v598, v602, v605⟩ w21 ⟨hS_, h0_, h1_, h2_, h3_, h4_, h5_, h6_, h7_, h8_, h9_⟩
   have HO587 : Aside0 (Kd.R (Kd.int .u64) 96 w21 w.heap.size (fun k_ => nb k_ v590 ∧ nb k_ v594 ∧ nb k_ v598 ∧ nb k_ v602 ∧ nb k_ v605) v586 t585) := ⟨h0_⟩
   have HO591 : Aside0 (Kd.R (Kd.int .u64) 96 w21 w.heap.size (fun k_ => nb k_ v586 ∧ nb k_ v594 ∧ nb k_ v598 ∧ nb k_ v602 ∧ nb k_ v605) v590 t589) := ⟨h1_⟩
   have HO595 : Aside0 (Kd.R (Kd.int .u64) 96 w21 w.heap.size (fun k_ => nb k_ v586 ∧ nb k_ v590 ∧ nb k_ v598 ∧ nb k_ v602 ∧ nb k_ v605) v594 t593) := ⟨h2_⟩
   have HO599 : Aside0 (Kd.R (Kd.int .u64) 96 w21 w.heap.size (fun k_ => nb k_ v586 ∧ nb k_ v590 ∧ nb k_ v594 ∧ nb k_ v602 ∧ nb k_ v605) v598 t597) := ⟨h3_⟩
   have HO603 : Aside0 (Kd.R (Kd.int .u64) 96 w21 w.heap.size (fun k_ => nb k_ v586 ∧ nb k_ v590 ∧ nb k_ v594 ∧ nb k_ v598 ∧ nb k_ v605) v602 t601) := ⟨h4_⟩
   have HO606 : Aside0 (Kd.R (Kd.int .u64) 96 w21 w.heap.size (fun k_ => nb k_ v586 ∧ nb k_ v590 ∧ nb k_ v594 ∧ nb k_ v598 ∧ nb k_ v602) v605 t604) := ⟨h5_⟩
   replace BK581 : Aside0 (w21.heap[gb581]? = some (.cells #[.bool a0_0, .slice A0_1 l0_1.length c0_1, .slice A0_2 l0_2.length c0_2] 34 (0, 0))) := ⟨h6_⟩
   replace BK582 : Aside0 (w21.heap[gb582]? = some (.cells #[.bool a1_0, .slice A1_1 l1_1.length c1_1, .slice A1_2 l1_2.length c1_2] 34 (0, 0))) := ⟨h7_⟩
   replace BK583 : Aside0 (w21.heap[gb583]? = some (.cells #[.bool false, .slice none 0 0, .slice none 0 0] 34 (0, 0))) := ⟨h8_⟩
   replace HB : Aside0 (Below w.heap.size w w21) := ⟨h9_⟩
   clear h0_ h1_ h2_ h3_ h4_ h5_ h6_ h7_ h8_ h9_
   have hHeld : w21.cell? ⟨gb581, 0, none⟩ = some (.bool a0_0) ∧ w21.cell? ⟨gb581, 1, none⟩ = some (.slice A0_1 l0_1.length c0_1) ∧ w21.cell? ⟨gb581, 2, none⟩ = some (.slice A0_2 l0_2.length c0_2) ∧ w21.cell? ⟨gb582, 0, none⟩ = some (.bool a1_0) ∧ w21.cell? ⟨gb582, 1, none⟩ = some (.slice A1_1 l1_1.length c1_1) ∧ w21.cell? ⟨gb582, 2, none⟩ = some (.slice A1_2 l1_2.length c1_2) := hS_
   refine norm_ (a' := ?_) ?_ ?_
   rotate_left
   ·
    simp only [putAll, Act.put, List.setIfInBounds_toArray, List.set_cons_zero, List.set_cons_succ]
    rfl
   refine one_ (i := 14) (N := some 5) #[true, true, true, true, true, true, true, true, true, true, true, true, true, true, true, false, false] rfl rfl (one_of HT_.out (by kernel_rfl)) (by decide) (fun K hK => ?_)
   refine box_step ?hg (N := 5) ?hd (cs := #[.bool false, .slice none 0 0, .slice none 0 0]) (t := 34) ?hr ?_; (case hd => rfl); (case hg => rfl); (case hr => first | (go_simp; done) | (go_simp; rfl))
   intro gb608 hg w22 hbox hb
   have n0_ := Aside0.mk (Kd.R_below (Kd.Rx HO587.out) hb)
   have n1_ := Aside0.mk (Kd.R_below (Kd.Rx HO591.out) hb)
   have n2_ := Aside0.mk (Kd.R_below (Kd.Rx HO595.out) hb)
   have n3_ := Aside0.mk (Kd.R_below (Kd.Rx HO599.out) hb)
   have n4_ := Aside0.mk (Kd.R_below (Kd.Rx HO603.out) hb)
   have n5_ := Aside0.mk (Kd.R_below (Kd.Rx HO606.out) hb)
   have n6_ := Aside0.mk (blk_below (Kx BK581.out) hb)
   have n7_ := Aside0.mk (blk_below (Kx BK582.out) hb)
   have n8_ := Aside0.mk (blk_below (Kx BK583.out) hb)
   have n9_ := Aside0.mk (below_step (Bs) hb)
   have n10_ := Aside0.mk (hbox)
   have n11_ := Aside0.mk ((by rw [hg]; exact (below_size (Bs)) : w.heap.size ≤ gb608))
   have n12_ := Aside0.mk ((by rw [hg]; exact (below_size (Bs)) : w.heap.size ≤ gb608))
   have n13_ := Aside0.mk ((by rw [hg]; exact Nat.ne_of_lt (blk_lt (Kx BK581.out)) : gb581 ≠ gb608))
   have n14_ := Aside0.mk ((by rw [hg]; exact Nat.ne_of_gt (blk_lt (Kx BK581.out)) : gb608 ≠ gb581))
   have n15_ := Aside0.mk ((by rw [hg]; exact Nat.ne_of_lt (blk_lt (Kx BK582.out)) : gb582 ≠ gb608))
   have n16_ := Aside0.mk ((by rw [hg]; exact Nat.ne_of_gt (blk_lt (Kx BK582.out)) : gb608 ≠ gb582))
   have n17_ := Aside0.mk ((by rw [hg]; exact Nat.ne_of_lt (blk_lt (Kx BK583.out)) : gb583 ≠ gb608))
   have n18_ := Aside0.mk ((by rw [hg]; exact Nat.ne_of_gt (blk_lt (Kx BK583.out)) : gb608 ≠ gb583))
   clear HO587
   clear HO591
   clear HO595
   clear HO599
   clear HO603
   clear HO606
   clear BK581
   clear BK582
   clear BK583
   clear HB
   have HO587 := n0_
   have HO591 := n1_
   have HO595 := n2_
   have HO599 := n3_
   have HO603 := n4_
   have HO606 := n5_
   have BK581 := n6_
   have BK582 := n7_
   have BK583 := n8_
   have HB := n9_
   have BK608 := n10_
   have GW608 := n11_
   have GE608 := n12_
   have NB581_608 := n13_
   have NB608_581 := n14_
   have NB582_608 := n15_
   have NB608_582 := n16_
   have NB583_608 := n17_
   have NB608_583 := n18_
   clear n0_ n1_ n2_ n3_ n4_ n5_ n6_ n7_ n8_ n9_ n10_ n11_ n12_ n13_ n14_ n15_ n16_ n17_ n18_
   clear hb hbox hg
   refine hK.out _ _ ⟨(blk_cell BK581.out 0).trans rfl, (blk_cell BK581.out 1).trans rfl, (blk_cell BK581.out 2).trans rfl, (blk_cell BK582.out 0).trans rfl, (blk_cell BK582.out 1).trans rfl, (blk_cell BK582.out 2).trans rfl⟩ (fun hHeld => ?_)
   clear hK K
   refine norm_ (a' := ?_) ?_ ?_
   rotate_left
   ·
    show Act.put _ (some 5) _ = _
    simp only [Act.put, List.setIfInBounds_toArray, List.set_cons_zero, List.set_cons_succ, i64_w, i32_w]
    rfl
   exact norm_ (by first | (simp only [putAll, Act.put, List.setIfInBounds_toArray, List.set_cons_zero, List.set_cons_succ]; done) | (simp only [putAll, Act.put, List.setIfInBounds_toArray, List.set_cons_zero, List.set_cons_succ]; rfl)) (hJ4_6_8_9_10_14 (_, _, _, _, _, _, gb608) _ ⟨hHeld, (Kd.Rx HO587.out), (Kd.Rx HO591.out), (Kd.Rx HO595.out), (Kd.Rx HO599.out), (Kd.Rx HO603.out), (Kd.Rx HO606.out), (Kx BK581.out), (Kx BK582.out), (Kx BK583.out), (Kx BK608.out), GW608.out, GE608.out, NB581_608.out, NB608_581.out, NB582_608.out, NB608_582.out, NB583_608.out, NB608_583.out, (Bs)⟩)
 rintro ⟨v586, v590, v594, v598, v602, v605, gb608⟩ w22 ⟨hS_, h0_, h1_, h2_, h3_, h4_, h5_, h6_, h7_, h8_, h9_, h10_, h11_, h12_, h13_, h14_, h15_, h16_, h17_, h18_⟩
 have HO587 : Aside0 (Kd.R (Kd.int .u64) 96 w22 w.heap.size (fun k_ => nb k_ v590 ∧ nb k_ v594 ∧ nb k_ v598 ∧ nb k_ v602 ∧ nb k_ v605) v586 t585) := ⟨h0_⟩
 have HO591 : Aside0 (Kd.R (Kd.int .u64) 96 w22 w.heap.size (fun k_ => nb k_ v586 ∧ nb k_ v594 ∧ nb k_ v598 ∧ nb k_ v602 ∧ nb k_ v605) v590 t589) := ⟨h1_⟩
 have HO595 : Aside0 (Kd.R (Kd.int .u64) 96 w22 w.heap.size (fun k_ => nb k_ v586 ∧ nb k_ v590 ∧ nb k_ v598 ∧ nb k_ v602 ∧ nb k_ v605) v594 t593) := ⟨h2_⟩
 have HO599 : Aside0 (Kd.R (Kd.int .u64) 96 w22 w.heap.size (fun k_ => nb k_ v586 ∧ nb k_ v590 ∧ nb k_ v594 ∧ nb k_ v602 ∧ nb k_ v605) v598 t597) := ⟨h3_⟩
 have HO603 : Aside0 (Kd.R (Kd.int .u64) 96 w22 w.heap.size (fun k_ => nb k_ v586 ∧ nb k_ v590 ∧ nb k_ v594 ∧ nb k_ v598 ∧ nb k_ v605) v602 t601) := ⟨h4_⟩
 have HO606 : Aside0 (Kd.R (Kd.int .u64) 96 w22 w.heap.size (fun k_ => nb k_ v586 ∧ nb k_ v590 ∧ nb k_ v594 ∧ nb k_ v598 ∧ nb k_ v602) v605 t604) := ⟨h5_⟩
 replace BK581 : Aside0 (w22.heap[gb581]? = some (.cells #[.bool a0_0, .slice A0_1 l0_1.length c0_1, .slice A0_2 l0_2.length c0_2] 34 (0, 0))) := ⟨h6_⟩
 replace BK582 : Aside0 (w22.heap[gb582]? = some (.cells #[.bool a1_0, .slice A1_1 l1_1.length c1_1, .slice A1_2 l1_2.length c1_2] 34 (0, 0))) := ⟨h7_⟩
 replace BK583 : Aside0 (w22.heap[gb583]? = some (.cells #[.bool false, .slice none 0 0, .slice none 0 0] 34 (0, 0))) := ⟨h8_⟩
 have BK608 : Aside0 (w22.heap[gb608]? = some (.cells #[.bool false, .slice none 0 0, .slice none 0 0] 34 (0, 0))) := ⟨h9_⟩
 have GW608 : Aside0 (w.heap.size ≤ gb608) := ⟨h10_⟩
 have GE608 : Aside0 (w.heap.size ≤ gb608) := ⟨h11_⟩
 have NB581_608 : Aside0 (gb581 ≠ gb608) := ⟨h12_⟩
 have NB608_581 : Aside0 (gb608 ≠ gb581) := ⟨h13_⟩
 have NB582_608 : Aside0 (gb582 ≠ gb608) := ⟨h14_⟩
 have NB608_582 : Aside0 (gb608 ≠ gb582) := ⟨h15_⟩
 have NB583_608 : Aside0 (gb583 ≠ gb608) := ⟨h16_⟩
 have NB608_583 : Aside0 (gb608 ≠ gb583) := ⟨h17_⟩
 replace HB : Aside0 (Below w.heap.size w w22) := ⟨h18_⟩
 clear h0_ h1_ h2_ h3_ h4_ h5_ h6_ h7_ h8_ h9_ h10_ h11_ h12_ h13_ h14_ h15_ h16_ h17_ h18_
 have hHeld : w22.cell? ⟨gb581, 0, none⟩ = some (.bool a0_0) ∧ w22.cell? ⟨gb581, 1, none⟩ = some (.slice A0_1 l0_1.length c0_1) ∧ w22.cell? ⟨gb581, 2, none⟩ = some (.slice A0_2 l0_2.length c0_2) ∧ w22.cell? ⟨gb582, 0, none⟩ = some (.bool a1_0) ∧ w22.cell? ⟨gb582, 1, none⟩ = some (.slice A1_1 l1_1.length c1_1) ∧ w22.cell? ⟨gb582, 2, none⟩ = some (.slice A1_2 l1_2.length c1_2) := hS_
 obtain ⟨Ao24, co24, eo24⟩ := Kd.R_slice HO603.out
 (first | subst eo24 | (injection eo24 with f1_ f2_ f3_; have f4_ := f1_.symm; have f5_ := f3_.symm; clear f1_ f2_ f3_; subst f4_; subst f5_))
 obtain ⟨Ao26, co26, eo26⟩ := Kd.R_slice HO606.out
 (first | subst eo26 | (injection eo26 with f1_ f2_ f3_; have f4_ := f1_.symm; have f5_ := f3_.symm; clear f1_ f2_ f3_; subst f4_; subst f5_))
 refine norm_ (a' := ?_) ?_ ?_
 rotate_left
 ·
  simp only [putAll, Act.put, List.setIfInBounds_toArray, List.set_cons_zero, List.set_cons_succ]
  rfl
 refine one_ (i := 15) (N := none) #[true, true, true, true, true, true, true, true, true, true, true, true, true, true, true, true, false] rfl rfl (one_of HT_.out (by kernel_rfl)) (by decide) (fun K hK => ?_)
 have hs23 : w22.cell? ⟨gb608, 0, none⟩ = some (.bool false) := (blk_cell BK608.out 0).trans rfl
 have hfs23 := blk_frozen BK608.out 0
 have hns23_0 := NB581_608.out
 have hns23_1 := NB582_608.out
 have hns23_2 := NB583_608.out
 have hms23_0 := NB608_581.out
 have hms23_1 := NB608_582.out
 have hms23_2 := NB608_583.out
 have hs25 : w22.cell? ⟨gb608, 1, none⟩ = some (.slice none 0 0) := (blk_cell BK608.out 1).trans rfl
 have hfs25 := blk_frozen BK608.out 1
 have hns25_0 := NB581_608.out
 have hns25_1 := NB582_608.out
 have hns25_2 := NB583_608.out
 have hms25_0 := NB608_581.out
 have hms25_1 := NB608_582.out
 have hms25_2 := NB608_583.out
 have hs27 : w22.cell? ⟨gb608, 2, none⟩ = some (.slice none 0 0) := (blk_cell BK608.out 2).trans rfl
 have hfs27 := blk_frozen BK608.out 2
 have hns27_0 := NB581_608.out
 have hns27_1 := NB582_608.out
 have hns27_2 := NB583_608.out
 have hms27_0 := NB608_581.out
 have hms27_1 := NB608_582.out
 have hms27_2 := NB608_583.out
 refine skip_ (w1 := ?_) (by rfl) rfl ?_ ?_
 rotate_left
 ·
  go_simp
  rfl
 refine hK.out _ _ ⟨((cell_far (p := ⟨gb608, _, none⟩) NB581_608.out _).trans (((cell_far (p := ⟨gb608, _, none⟩) NB581_608.out _).trans (((cell_far (p := ⟨gb608, _, none⟩) NB581_608.out _).trans (hHeld.1)))))), ((cell_far (p := ⟨gb608, _, none⟩) NB581_608.out _).trans (((cell_far (p := ⟨gb608, _, none⟩) NB581_608.out _).trans (((cell_far (p := ⟨gb608, _, none⟩) NB581_608.out _).trans (hHeld.2.1)))))), ((cell_far (p := ⟨gb608, _, none⟩) NB581_608.out _).trans (((cell_far (p := ⟨gb608, _, none⟩) NB581_608.out _).trans (((cell_far (p := ⟨gb608, _, none⟩) NB581_608.out _).trans (hHeld.2.2.1)))))), ((cell_far (p := ⟨gb608, _, none⟩) NB582_608.out _).trans (((cell_far (p := ⟨gb608, _, none⟩) NB582_608.out _).trans (((cell_far (p := ⟨gb608, _, none⟩) NB582_608.out _).trans (hHeld.2.2.2.1)))))), ((cell_far (p := ⟨gb608, _, none⟩) NB582_608.out _).trans (((cell_far (p := ⟨gb608, _, none⟩) NB582_608.out _).trans (((cell_far (p := ⟨gb608, _, none⟩) NB582_608.out _).trans (hHeld.2.2.2.2.1)))))), ((cell_far (p := ⟨gb608, _, none⟩) NB582_608.out _).trans (((cell_far (p := ⟨gb608, _, none⟩) NB582_608.out _).trans (((cell_far (p := ⟨gb608, _, none⟩) NB582_608.out _).trans (hHeld.2.2.2.2.2))))))⟩ (fun hHeld => ?_)
 clear hK K
 refine pure_ (i := 16) (N := some 6) (v := ?_) (a' := ?_) #[true, true, true, true, true, true, true, true, true, true, true, true, true, true, true, true, true] rfl rfl (any_of HT_.out (by kernel_rfl)) (fun _ _ _ h => h) (Or.inl ⟨by rfl, ?_⟩) ?_ ?_
 rotate_left
 ·
  intro w'
  go_simp
  with_reducible rfl
 rotate_left
 ·
  simp only [Act.put, List.setIfInBounds_toArray, List.set_cons_zero, List.set_cons_succ, i64_w, i32_w]
  rfl
 refine done_ (done_of HT_.out (by kernel_rfl)) ?_
 have hnb28 := NB608_581.out
 have hnc28 := NB581_608.out
 have hnb29 := NB608_582.out
 have hnc29 := NB582_608.out
 have hnb30 := NB608_583.out
 have hnc30 := NB583_608.out
 have hcz31_0 : w22.cell? ⟨gb608, 0, none⟩ = some (.bool false) := (blk_cell BK608.out 0).trans rfl
 have hcz31_1 : w22.cell? ⟨gb608, 1, none⟩ = some (.slice none 0 0) := (blk_cell BK608.out 1).trans rfl
 have hcz31_2 : w22.cell? ⟨gb608, 2, none⟩ = some (.slice none 0 0) := (blk_cell BK608.out 2).trans rfl
 have hfz31_0 := blk_frozen BK608.out 0
 have hfz31_1 := blk_frozen BK608.out 1
 have hfz31_2 := blk_frozen BK608.out 2
 have hnb32 := NB583_581.out
 have hnc32 := NB581_583.out
 have hnb33 := NB583_582.out
 have hnc33 := NB582_583.out
 have hcz34_0 : w22.cell? ⟨gb583, 0, none⟩ = some (.bool false) := (blk_cell BK583.out 0).trans rfl
 have hcz34_1 : w22.cell? ⟨gb583, 1, none⟩ = some (.slice none 0 0) := (blk_cell BK583.out 1).trans rfl
 have hcz34_2 : w22.cell? ⟨gb583, 2, none⟩ = some (.slice none 0 0) := (blk_cell BK583.out 2).trans rfl
 have hfz34_0 := blk_frozen BK583.out 0
 have hfz34_1 := blk_frozen BK583.out 1
 have hfz34_2 := blk_frozen BK583.out 2
 try go_wp2
 refine bodyPost_ret (results_cell_row rfl _ _ gb583 34 #[.bool t600, .slice Ao24 t601.length co24, .slice Ao26 t604.length co26] (0, 0) _ rfl (by (with_reducible repeat (first | refine blk_drewN ?_ _ | refine blk_drew ?_ | refine blk_alloc ?_ _)); refine blk_put (cs := #[.bool t600, .slice Ao24 t601.length co24, .slice none 0 0]) ?_ 2 _ rfl; (with_reducible repeat (first | refine blk_drewN ?_ _ | refine blk_drew ?_ | refine blk_alloc ?_ _)); refine blk_put (cs := #[.bool t600, .slice none 0 0, .slice none 0 0]) ?_ 1 _ rfl; (with_reducible repeat (first | refine blk_drewN ?_ _ | refine blk_drew ?_ | refine blk_alloc ?_ _)); refine blk_put (cs := #[.bool false, .slice none 0 0, .slice none 0 0]) ?_ 0 _ rfl; (with_reducible repeat (first | refine blk_drewN ?_ _ | refine blk_drew ?_ | refine blk_alloc ?_ _)); refine blk_far ?_ NB583_608.out _; (with_reducible repeat (first | refine blk_drewN ?_ _ | refine blk_drew ?_ | refine blk_alloc ?_ _)); refine blk_far ?_ NB583_608.out _; (with_reducible repeat (first | refine blk_drewN ?_ _ | refine blk_drew ?_ | refine blk_alloc ?_ _)); refine blk_far ?_ NB583_608.out _; (with_reducible repeat (first | refine blk_drewN ?_ _ | refine blk_drew ?_ | refine blk_alloc ?_ _)); exact BK583.out) Try.underlying34 rfl (by kernel_rfl)) rfl ?_
 exact ⟨_, _, by first | rfl | (simp [errW_none, errW_some] <;> rfl) | (simp [*, errW_none, errW_some] <;> rfl), by exact Kd.Rx (Kd.R_mono (Kd.R_far (p := ⟨gb583, 2, none⟩) (Kd.R_far (p := ⟨gb583, 1, none⟩) (Kd.R_far (p := ⟨gb583, 0, none⟩) (Kd.R_far (p := ⟨gb608, 2, none⟩) (Kd.R_far (p := ⟨gb608, 1, none⟩) (Kd.R_far (p := ⟨gb608, 0, none⟩) (Kd.R_types (Kd.R_types HO603.out BK608.out (by decide)) BK583.out (by decide)) (fun _ hk => hk.1.2) (.bool t600)) (fun _ hk => hk.1.2) (.slice Ao24 t601.length co24)) (fun _ hk => hk.1.2) (.slice Ao26 t604.length co26)) (fun _ hk => hk.2) (.bool t600)) (fun _ hk => hk.2) (.slice Ao24 t601.length co24)) (fun _ hk => hk.2) (.slice Ao26 t604.length co26)) (fun _ hk => hk.1.1.2.2.2.2)), by exact Kd.Rx (Kd.R_mono (Kd.R_far (p := ⟨gb583, 2, none⟩) (Kd.R_far (p := ⟨gb583, 1, none⟩) (Kd.R_far (p := ⟨gb583, 0, none⟩) (Kd.R_far (p := ⟨gb608, 2, none⟩) (Kd.R_far (p := ⟨gb608, 1, none⟩) (Kd.R_far (p := ⟨gb608, 0, none⟩) (Kd.R_types (Kd.R_types HO606.out BK608.out (by decide)) BK583.out (by decide)) (fun _ hk => hk.1.2) (.bool t600)) (fun _ hk => hk.1.2) (.slice Ao24 t601.length co24)) (fun _ hk => hk.1.2) (.slice Ao26 t604.length co26)) (fun _ hk => hk.2) (.bool t600)) (fun _ hk => hk.2) (.slice Ao24 t601.length co24)) (fun _ hk => hk.2) (.slice Ao26 t604.length co26)) (fun _ hk => hk.1.1.2.2.2.2)), Bs⟩
end Go.Proofs.Ytpmbcdakpmceiaa.F

end
section
namespace Go.Proofs.Ytpmbcdakpmceiaa.F
open Go.RowKit Go.Proofs.YtpmbcdakpmceiaaW.PrintWords Go.Proofs.YtpmbcdakpmceiaaW.PrintLast Go.Proofs.YtpmbcdakpmceiaaW.PrintMore
attribute [local go_sem] max2_int min2_int max_two min_two max_three min_three max_four min_four
set_option linter.unusedVariables false
set_option linter.unusedSimpArgs false
def vect_Dot.l0 : Nat → List (S34) → List (S34) → Int → Int → Bool → List Int → List Int → Option (Bool × List Int × List Int × Int)
 | 0, _, _, _, _, _, _, _ => none
 | k + 1, x1, x16, x17, x18, x618000, x618001, x618002 => if x18 < x17 then (if 0 ≤ x18 then (if x18 < (x16.length : Int) then (if x18 < (x1.length : Int) then ((rat_Mul.f k ((rd_T34 x16 x18).f0.f0) ((rd_T34 x16 x18).f0.f1) ((rd_T34 x16 x18).f1) ((rd_T34 x1 x18).f0.f0) ((rd_T34 x1 x18).f0.f1) ((rd_T34 x1 x18).f1)).bind fun bt621 => ((rat_Add.f k x618000 x618001 x618002 bt621.1 bt621.2.1 bt621.2.2).bind fun bt628 => (vect_Dot.l0 k x1 x16 x17 (wrap64 (x18 + 1)) bt628.1 bt628.2.1 bt628.2.2))) else (none)) else (none)) else (none)) else (some (x618000, x618001, x618002, 0))
def vect_Dot.f (k : Nat) (l0 : List (S34)) (l1 : List (S34)) : Option (Bool × List Int × List Int × Int) := if (l0.length : Int) = (l1.length : Int) then ((rat_Of.f k 0).bind fun bt610 => (vect_Dot.l0 k l1 l0 (l0.length : Int) 0 bt610.1 bt610.2.1 bt610.2.2)) else (some (false, ([] : List Int), ([] : List Int), 8))
theorem vect_Dot.mono_l : ∀ k, (∀ y0 y1 y2 y3 y4 y5 y6, LeO (vect_Dot.l0 k y0 y1 y2 y3 y4 y5 y6) (vect_Dot.l0 (k + 1) y0 y1 y2 y3 y4 y5 y6))
 | 0 => fun _ _ _ _ _ _ _ r h => by simp [vect_Dot.l0] at h
 | k + 1 => by
  have ih0 := vect_Dot.mono_l k
  ·
   intro y0 y1 y2 y3 y4 y5 y6
   unfold vect_Dot.l0
   repeat' first
   | (with_reducible exact ih0 _ _ _ _ _ _ _)
   | (with_reducible exact rat_Add.mono _ _ _ _ _ _ _)
   | (with_reducible exact rat_Mul.mono _ _ _ _ _ _ _)
   | (with_reducible exact rat_Of.mono _ _)
   | (with_reducible exact LeO.refl _)
   | (with_reducible exact LeO.none _)
   | (with_reducible refine LeO.ite ?_ ?_)
   | (with_reducible refine LeO.bind ?_ (fun _ => ?_))
   | exact ih0 _ _ _ _ _ _ _
   | exact rat_Add.mono _ _ _ _ _ _ _
   | exact rat_Mul.mono _ _ _ _ _ _ _
   | exact rat_Of.mono _ _
   | exact LeO.none _
   | refine LeO.ite ?_ ?_
   | refine LeO.bind ?_ (fun _ => ?_)
theorem vect_Dot.mono : ∀ a0 a1 k, LeO (vect_Dot.f k a0 a1) (vect_Dot.f (k + 1) a0 a1) := by
 intro a0 a1 k
 have ih0 := vect_Dot.mono_l k
 unfold vect_Dot.f
 repeat' first
   | (with_reducible exact ih0 _ _ _ _ _ _ _)
   | (with_reducible exact rat_Add.mono _ _ _ _ _ _ _)
   | (with_reducible exact rat_Mul.mono _ _ _ _ _ _ _)
   | (with_reducible exact rat_Of.mono _ _)
   | (with_reducible exact LeO.refl _)
   | (with_reducible exact LeO.none _)
   | (with_reducible refine LeO.ite ?_ ?_)
   | (with_reducible refine LeO.bind ?_ (fun _ => ?_))
   | exact ih0 _ _ _ _ _ _ _
   | exact rat_Add.mono _ _ _ _ _ _ _
   | exact rat_Mul.mono _ _ _ _ _ _ _
   | exact rat_Of.mono _ _
   | exact LeO.none _
   | refine LeO.ite ?_ ?_
   | refine LeO.bind ?_ (fun _ => ?_)
end Go.Proofs.Ytpmbcdakpmceiaa.F

end
section
namespace Go.Proofs.Ytpmbcdakpmceiaa.F
open Go.RowKit Go.Proofs.YtpmbcdakpmceiaaW.PrintWords Go.Proofs.YtpmbcdakpmceiaaW.PrintLast Go.Proofs.YtpmbcdakpmceiaaW.PrintMore
attribute [local go_sem] max2_int min2_int max_two min_two max_three min_three max_four min_four
set_option linter.unusedVariables false
set_option linter.unusedSimpArgs false
def vect_Dot.T7 : Bool × List (List Nat × List Nat) := (true, [([], []), ([], []), ([], []), ([], []), ([2, 3], [2, 3]), ([4], [4]), ([1, 5], [1, 5]), ([0, 6, 6], [0, 6]), ([7, 7, 0, 1, 2, 3, 4, 5, 6, 7], [7])])
def vect_Dot.B7 : List Nat := [0, 0, 0, 0, 12, 28, 62, 127, 255]
theorem vect_Dot.tab7 : rtab .any (opsOf Try.f19 7) = vect_Dot.T7 := by kernel_rfl
theorem vect_Dot.bits7 : waitsOk vect_Dot.T7.2 vect_Dot.B7 = true := by kernel_rfl
set_option maxHeartbeats 8000000 in
set_option maxRecDepth 100000 in
theorem vect_Dot.calls (k : Nat) (A0 : Option Addr) (c0 : Nat) (l0 : List (S34)) (A1 : Option Addr) (c1 : Nat) (l1 : List (S34)) (r1 : Bool) (r2 : List Int) (r3 : List Int) (r4 : Int) (w : World) (hr0 : Kd.C k34 w A0 l0.length l0) (hc0 : l0.length ≤ c0) (hr1 : Kd.C k34 w A1 l1.length l1) (hc1 : l1.length ≤ c1) (h : vect_Dot.f k l0 l1 = some (r1, r2, r3, r4)) :
  Calls Try.prog 19 #[.slice A0 l0.length c0, .slice A1 l1.length c1] w fun e w' => ∃ v1_ v2_ : Value, e = .returned (.tuple #[.agg #[.bool r1, v1_, v2_], .int .i64 r4]) ∧ Kd.R (Kd.int .u64) 96 w' w.heap.size (fun k_ => nb k_ v2_) v1_ r2 ∧ Kd.R (Kd.int .u64) 96 w' w.heap.size (fun k_ => nb k_ v1_) v2_ r3 ∧ Below w.heap.size w w' := by
 have hu34 := Try.underlying34
 have HR0 := Aside0.mk hr0
 have HC0 := Aside0.mk hc0
 clear hr0 hc0
 have HR1 := Aside0.mk hr1
 have HC1 := Aside0.mk hc1
 clear hr1 hc1
 have HB := Aside0.mk (Below.refl w.heap.size w)
 have H : (if (l0.length : Int) = (l1.length : Int) then ((rat_Of.f k 0).bind fun bt610 => (vect_Dot.l0 k l1 l0 (l0.length : Int) 0 bt610.1 bt610.2.1 bt610.2.2)) else (some (false, ([] : List Int), ([] : List Int), 8))) = some (r1, r2, r3, r4) := h
 clear h
 by_cases c3 : (l0.length : Int) = (l1.length : Int)
 ·
  rw [if_pos c3] at H
  have c3b0 : ((l0.length : Int) == (l1.length : Int)) = true := beq_iff_eq.mpr c3
  have c3b1 : ((l0.length : Int) != (l1.length : Int)) = false := bne_eq_false_iff_eq.mpr c3
  have c3b2 : (l0.length == l1.length) = true := by first | simpa using c3 | (simp at c3 ⊢; omega)
  clear c3
  replace H := Option.bind_eq_some_iff.mp H
  obtain ⟨⟨t610, t611, t614⟩, A40, H⟩ := H
  replace H : (vect_Dot.l0 k l1 l0 (l0.length : Int) 0 t610 t611 t614) = some (r1, r2, r3, r4) := H
  have A4 := Aside0.mk A40
  clear A40
  have H' := Aside0.mk H
  clear H
  go_enter Try.func19, Try.ntmps19
  go_wp2_with (first | ((with_reducible refine gate_dst (N := 4) rfl ?_); refine box_event ?hg (N := 4) ?hd (cs := #[.bool false, .slice none 0 0, .slice none 0 0]) (t := 34) ?hr ?_; (case hd => rfl); (case hg => rfl); (case hr => first | (go_simp; done) | (go_simp; rfl)); intro gb609 hg w5 hbox hb; have BK609 := Aside0.mk (hbox); have GW609 := Aside0.mk ((by rw [hg]; exact (below_size (Bx HB.out)) : w.heap.size ≤ gb609)); have GE609 := Aside0.mk ((by rw [hg]; exact (below_size (Bx HB.out)) : w.heap.size ≤ gb609)); replace HB := Aside0.mk (below_step (Bx HB.out) hb); clear hb hbox hg) | ((with_reducible refine gate_callee (f := 13) rfl ?_); refine goesx (some 15) Try.func13 #[.int .i64 0] ?_; (with_reducible refine (rat_Of.calls k 0 t610 t611 t614 _ A4.out).mono ?_); rintro e w6 ⟨v612, v615, rfl, ho0, ho1, hb⟩; refine ⟨_, rfl, ?_⟩; have HO613 := Aside0.mk (Kd.R_lower ho0 (below_size (Bs))); have HO616 := Aside0.mk (Kd.R_lower ho1 (below_size (Bs))); replace BK609 := Aside0.mk (blk_below (Kx BK609.out) hb); replace HB := Aside0.mk (below_step (Bs) hb); (try clear hb); (try clear hb2); (try clear hk); (try clear hi); (try clear ho0); (try clear ho1)) | ((with_reducible refine gate_dst (N := 6) rfl ?_); refine box_event ?hg (N := 6) ?hd (cs := #[.bool false, .slice none 0 0, .slice none 0 0]) (t := 34) ?hr ?_; (case hd => rfl); (case hg => rfl); (case hr => first | (go_simp; done) | (go_simp; rfl)); intro gb617 hg w7 hbox hb; have n0_ := Aside0.mk (Kd.R_below (Kd.Rx HO613.out) hb); have n1_ := Aside0.mk (Kd.R_below (Kd.Rx HO616.out) hb); have n2_ := Aside0.mk (blk_below (Kx BK609.out) hb); have n3_ := Aside0.mk (below_step (Bs) hb); have n4_ := Aside0.mk (hbox); have n5_ := Aside0.mk ((by rw [hg]; exact (below_size (Bs)) : w.heap.size ≤ gb617)); have n6_ := Aside0.mk ((by rw [hg]; exact (below_size (Bs)) : w.heap.size ≤ gb617)); have n7_ := Aside0.mk ((by rw [hg]; exact Nat.ne_of_lt (blk_lt (Kx BK609.out)) : gb609 ≠ gb617)); have n8_ := Aside0.mk ((by rw [hg]; exact Nat.ne_of_gt (blk_lt (Kx BK609.out)) : gb617 ≠ gb609)); clear HO613; clear HO616; clear BK609; clear HB; have HO613 := n0_; have HO616 := n1_; have BK609 := n2_; have HB := n3_; have BK617 := n4_; have GW617 := n5_; have GE617 := n6_; have NB609_617 := n7_; have NB617_609 := n8_; clear n0_ n1_ n2_ n3_ n4_ n5_ n6_ n7_ n8_; clear hb hbox hg; have hnb8 := NB617_609.out; have hnc8 := NB609_617.out; have hcz9_0 : w7.cell? ⟨gb617, 0, none⟩ = some (.bool false) := (blk_cell BK617.out 0).trans rfl; have hcz9_1 : w7.cell? ⟨gb617, 1, none⟩ = some (.slice none 0 0) := (blk_cell BK617.out 1).trans rfl; have hcz9_2 : w7.cell? ⟨gb617, 2, none⟩ = some (.slice none 0 0) := (blk_cell BK617.out 2).trans rfl; have hfz9_0 := blk_frozen BK617.out 0; have hfz9_1 := blk_frozen BK617.out 1; have hfz9_2 := blk_frozen BK617.out 2; obtain ⟨Ao10, co10, eo10⟩ := Kd.R_slice HO613.out; subst eo10; obtain ⟨Ao11, co11, eo11⟩ := Kd.R_slice HO616.out; subst eo11))
  go_loopg [18] k (fun kq v18 w' => ∃ (x18_1 : Int) (x618000_1 : Bool) (x618001_1 : List Int) (x618002_1 : List Int) (u618001 : Value) (u618002 : Value), v18 = .int .i64 x18_1 ∧ Aside0 (vect_Dot.l0 kq l1 l0 (l0.length : Int) x18_1 x618000_1 x618001_1 x618002_1 = some (r1, r2, r3, r4)) ∧ Aside0 (kq ≤ k) ∧ Aside0 (Kd.R (Kd.int .u64) 96 w' w.heap.size (fun k_ => nb k_ u618002) u618001 x618001_1) ∧ Aside0 (Kd.R (Kd.int .u64) 96 w' w.heap.size (fun k_ => nb k_ u618001) u618002 x618002_1) ∧ Aside0 (w'.heap[gb609]? = some (.cells #[.bool false, (.slice none 0 0), (.slice none 0 0)] 34 (0, 0))) ∧ Aside0 (w'.heap[gb617]? = some (.cells #[.bool x618000_1, u618001, u618002] 34 (0, 0))) ∧ Aside0 (Below w.heap.size w w'))
  case atStart => exact ⟨(0), (t610), (t611), (t614), (.slice Ao10 t611.length co10), (.slice Ao11 t614.length co11), (by first | rfl | (simp; done) | (simp [*]; done)), H', ⟨Nat.le_refl _⟩, ⟨by exact Kd.Rx (Kd.R_mono (Kd.R_far (p := ⟨gb617, 2, none⟩) (Kd.R_far (p := ⟨gb617, 1, none⟩) (Kd.R_far (p := ⟨gb617, 0, none⟩) (Kd.R_types HO613.out BK617.out (by decide)) (fun _ hk => hk.2) (.bool t610)) (fun _ hk => hk.2) (.slice Ao10 t611.length co10)) (fun _ hk => hk.2) (.slice Ao11 t614.length co11)) (fun _ hk => hk.1))⟩, ⟨by exact Kd.Rx (Kd.R_mono (Kd.R_far (p := ⟨gb617, 2, none⟩) (Kd.R_far (p := ⟨gb617, 1, none⟩) (Kd.R_far (p := ⟨gb617, 0, none⟩) (Kd.R_types HO616.out BK617.out (by decide)) (fun _ hk => hk.2) (.bool t610)) (fun _ hk => hk.2) (.slice Ao10 t611.length co10)) (fun _ hk => hk.2) (.slice Ao11 t614.length co11)) (fun _ hk => hk.1))⟩, ⟨by (with_reducible repeat (first | refine blk_drewN ?_ _ | refine blk_drew ?_ | refine blk_alloc ?_ _)); refine blk_far ?_ NB609_617.out _; (with_reducible repeat (first | refine blk_drewN ?_ _ | refine blk_drew ?_ | refine blk_alloc ?_ _)); refine blk_far ?_ NB609_617.out _; (with_reducible repeat (first | refine blk_drewN ?_ _ | refine blk_drew ?_ | refine blk_alloc ?_ _)); refine blk_far ?_ NB609_617.out _; (with_reducible repeat (first | refine blk_drewN ?_ _ | refine blk_drew ?_ | refine blk_alloc ?_ _)); exact BK609.out⟩, ⟨by (with_reducible repeat (first | refine blk_drewN ?_ _ | refine blk_drew ?_ | refine blk_alloc ?_ _)); refine blk_put (cs := #[.bool t610, .slice Ao10 t611.length co10, .slice none 0 0]) ?_ 2 _ rfl; (with_reducible repeat (first | refine blk_drewN ?_ _ | refine blk_drew ?_ | refine blk_alloc ?_ _)); refine blk_put (cs := #[.bool t610, .slice none 0 0, .slice none 0 0]) ?_ 1 _ rfl; (with_reducible repeat (first | refine blk_drewN ?_ _ | refine blk_drew ?_ | refine blk_alloc ?_ _)); refine blk_put (cs := #[.bool false, .slice none 0 0, .slice none 0 0]) ?_ 0 _ rfl; (with_reducible repeat (first | refine blk_drewN ?_ _ | refine blk_drew ?_ | refine blk_alloc ?_ _)); exact BK617.out⟩, ⟨Bs⟩⟩
  case round =>
   clear H'
   try clear c1
   try clear p2
   try clear c3
   try clear c3b0
   try clear c3b1
   try clear c3b2
   try clear c8
   try clear hcz9_0
   try clear hcz9_1
   try clear hcz9_2
   try clear hfz9_0
   try clear hfz9_1
   try clear hfz9_2
   obtain ⟨x18_1, x618000_1, x618001_1, x618002_1, u618001, u618002, rfl, HA, HK1, HO_618001, HO_618002, BK609, BK617, HB⟩ := hrel
   cases gk with
   | zero => exact absurd HA.out (by simp [vect_Dot.l0])
   | succ k1 =>
    have H := HA.out
    clear HA
    simp only [vect_Dot.l0] at H
    by_cases c12 : x18_1 < (l0.length : Int)
    ·
     rw [if_pos c12] at H
     have c12b0 : decide (x18_1 < (l0.length : Int)) = true := decide_eq_true c12
     clear c12
     by_cases c13 : 0 ≤ x18_1
     ·
      rw [if_pos c13] at H
      have c13b0 : decide (0 ≤ x18_1) = true := decide_eq_true c13
      clear c13
      by_cases c14 : x18_1 < (l0.length : Int)
      ·
       rw [if_pos c14] at H
       have c14b0 : decide (x18_1 < (l0.length : Int)) = true := decide_eq_true c14
       clear c14
       by_cases c15 : x18_1 < (l1.length : Int)
       ·
        rw [if_pos c15] at H
        have c15b0 : decide (x18_1 < (l1.length : Int)) = true := decide_eq_true c15
        clear c15
        replace H := Option.bind_eq_some_iff.mp H
        obtain ⟨⟨t621, t622, t625⟩, A160, H⟩ := H
        replace H : ((rat_Add.f k1 x618000_1 x618001_1 x618002_1 t621 t622 t625).bind fun bt628 => (vect_Dot.l0 k1 l1 l0 (l0.length : Int) (wrap64 (x18_1 + 1)) bt628.1 bt628.2.1 bt628.2.2)) = some (r1, r2, r3, r4) := H
        have A16 := Aside0.mk A160
        clear A160
        replace H := Option.bind_eq_some_iff.mp H
        obtain ⟨⟨t628, t629, t632⟩, A170, H⟩ := H
        replace H : (vect_Dot.l0 k1 l1 l0 (l0.length : Int) (wrap64 (x18_1 + 1)) t628 t629 t632) = some (r1, r2, r3, r4) := H
        have A17 := Aside0.mk A170
        clear A170
        have H' := Aside0.mk H
        clear H
        have p618 : 0 ≤ (x18_1 : Int) := tx
        have q618 : x18_1 < (l0.length : Int) := tx
        obtain ⟨ad618, A618_1, c618_1, A618_2, c618_2, e618, hx618_0, hx618_1, hx618_2, hl618_1, hi618_1, hl618_2, hi618_2⟩ := at_T34 HR0.out x18_1 p618 q618
        cases e618
        replace hx618_0 := (HB.out.cell (World.block_lt_of_cell? w _ hx618_0)).trans hx618_0
        replace hx618_1 := (HB.out.cell (World.block_lt_of_cell? w _ hx618_1)).trans hx618_1
        replace hx618_2 := (HB.out.cell (World.block_lt_of_cell? w _ hx618_2)).trans hx618_2
        have HR618_1 := Aside0.mk hi618_1
        have HC618_1 := Aside0.mk hl618_1
        clear hi618_1 hl618_1
        have HR618_2 := Aside0.mk hi618_2
        have HC618_2 := Aside0.mk hl618_2
        clear hi618_2 hl618_2
        replace p618 := eq_true p618
        replace q618 := eq_true q618
        try go_wp2_with (first | ((with_reducible refine gate_dst (N := 8) rfl ?_); refine box_event ?hg (N := 8) ?hd (cs := #[.bool false, .slice none 0 0, .slice none 0 0]) (t := 34) ?hr ?_; (case hd => rfl); (case hg => rfl); (case hr => first | (go_simp; done) | (go_simp; rfl)); intro gb619 hg w18 hbox hb; have n0_ := Aside0.mk (Kd.R_below (Kd.Rx HO_618001.out) hb); have n1_ := Aside0.mk (Kd.R_below (Kd.Rx HO_618002.out) hb); have n2_ := Aside0.mk (blk_below (Kx BK609.out) hb); have n3_ := Aside0.mk (blk_below (Kx BK617.out) hb); have n4_ := Aside0.mk (below_step (Bs) hb); have n5_ := Aside0.mk (hbox); have n6_ := Aside0.mk ((by rw [hg]; exact (below_size (Bs)) : w.heap.size ≤ gb619)); have n7_ := Aside0.mk ((by rw [hg]; exact (below_size (Bs)) : w.heap.size ≤ gb619)); have n8_ := Aside0.mk ((by rw [hg]; exact Nat.ne_of_lt (blk_lt (Kx BK609.out)) : gb609 ≠ gb619)); have n9_ := Aside0.mk ((by rw [hg]; exact Nat.ne_of_gt (blk_lt (Kx BK609.out)) : gb619 ≠ gb609)); have n10_ := Aside0.mk ((by rw [hg]; exact Nat.ne_of_lt (blk_lt (Kx BK617.out)) : gb617 ≠ gb619)); have n11_ := Aside0.mk ((by rw [hg]; exact Nat.ne_of_gt (blk_lt (Kx BK617.out)) : gb619 ≠ gb617)); clear HO_618001; clear HO_618002; clear BK609; clear BK617; clear HB; have HO_618001 := n0_; have HO_618002 := n1_; have BK609 := n2_; have BK617 := n3_; have HB := n4_; have BK619 := n5_; have GW619 := n6_; have GE619 := n7_; have NB609_619 := n8_; have NB619_609 := n9_; have NB617_619 := n10_; have NB619_617 := n11_; clear n0_ n1_ n2_ n3_ n4_ n5_ n6_ n7_ n8_ n9_ n10_ n11_; clear hb hbox hg; have hnb19 := NB619_609.out; have hnc19 := NB609_619.out; have hnb20 := NB619_617.out; have hnc20 := NB617_619.out; have hcz21_0 : w18.cell? ⟨gb619, 0, none⟩ = some (.bool false) := (blk_cell BK619.out 0).trans rfl; have hcz21_1 : w18.cell? ⟨gb619, 1, none⟩ = some (.slice none 0 0) := (blk_cell BK619.out 1).trans rfl; have hcz21_2 : w18.cell? ⟨gb619, 2, none⟩ = some (.slice none 0 0) := (blk_cell BK619.out 2).trans rfl; have hfz21_0 := blk_frozen BK619.out 0; have hfz21_1 := blk_frozen BK619.out 1; have hfz21_2 := blk_frozen BK619.out 2))
        have n0_ : Aside0 (Kd.R (Kd.int .u64) 96 (((w18.setCell ⟨gb619, 0, none⟩ (.bool ((rd_T34 l0 x18_1).f0.f0))).setCell ⟨gb619, 1, none⟩ (.slice A618_1 ((rd_T34 l0 x18_1).f0.f1).length c618_1)).setCell ⟨gb619, 2, none⟩ (.slice A618_2 ((rd_T34 l0 x18_1).f1).length c618_2)) w.heap.size (fun k_ => nb k_ u618002) u618001 x618001_1) := ⟨by exact Kd.Rx (Kd.R_mono (Kd.R_far (p := ⟨gb619, 2, none⟩) (Kd.R_far (p := ⟨gb619, 1, none⟩) (Kd.R_far (p := ⟨gb619, 0, none⟩) (Kd.R_types HO_618001.out BK619.out (by decide)) (fun _ hk => hk.2) (.bool ((rd_T34 l0 x18_1).f0.f0))) (fun _ hk => hk.2) (.slice A618_1 ((rd_T34 l0 x18_1).f0.f1).length c618_1)) (fun _ hk => hk.2) (.slice A618_2 ((rd_T34 l0 x18_1).f1).length c618_2)) (fun _ hk => hk.1))⟩
        have n1_ : Aside0 (Kd.R (Kd.int .u64) 96 (((w18.setCell ⟨gb619, 0, none⟩ (.bool ((rd_T34 l0 x18_1).f0.f0))).setCell ⟨gb619, 1, none⟩ (.slice A618_1 ((rd_T34 l0 x18_1).f0.f1).length c618_1)).setCell ⟨gb619, 2, none⟩ (.slice A618_2 ((rd_T34 l0 x18_1).f1).length c618_2)) w.heap.size (fun k_ => nb k_ u618001) u618002 x618002_1) := ⟨by exact Kd.Rx (Kd.R_mono (Kd.R_far (p := ⟨gb619, 2, none⟩) (Kd.R_far (p := ⟨gb619, 1, none⟩) (Kd.R_far (p := ⟨gb619, 0, none⟩) (Kd.R_types HO_618002.out BK619.out (by decide)) (fun _ hk => hk.2) (.bool ((rd_T34 l0 x18_1).f0.f0))) (fun _ hk => hk.2) (.slice A618_1 ((rd_T34 l0 x18_1).f0.f1).length c618_1)) (fun _ hk => hk.2) (.slice A618_2 ((rd_T34 l0 x18_1).f1).length c618_2)) (fun _ hk => hk.1))⟩
        have n2_ : Aside0 ((((w18.setCell ⟨gb619, 0, none⟩ (.bool ((rd_T34 l0 x18_1).f0.f0))).setCell ⟨gb619, 1, none⟩ (.slice A618_1 ((rd_T34 l0 x18_1).f0.f1).length c618_1)).setCell ⟨gb619, 2, none⟩ (.slice A618_2 ((rd_T34 l0 x18_1).f1).length c618_2)).heap[gb609]? = some (.cells #[.bool false, .slice none 0 0, .slice none 0 0] 34 (0, 0))) := ⟨by (with_reducible repeat (first | refine blk_drewN ?_ _ | refine blk_drew ?_ | refine blk_alloc ?_ _)); refine blk_far ?_ NB609_619.out _; (with_reducible repeat (first | refine blk_drewN ?_ _ | refine blk_drew ?_ | refine blk_alloc ?_ _)); refine blk_far ?_ NB609_619.out _; (with_reducible repeat (first | refine blk_drewN ?_ _ | refine blk_drew ?_ | refine blk_alloc ?_ _)); refine blk_far ?_ NB609_619.out _; (with_reducible repeat (first | refine blk_drewN ?_ _ | refine blk_drew ?_ | refine blk_alloc ?_ _)); exact BK609.out⟩
        have n3_ : Aside0 ((((w18.setCell ⟨gb619, 0, none⟩ (.bool ((rd_T34 l0 x18_1).f0.f0))).setCell ⟨gb619, 1, none⟩ (.slice A618_1 ((rd_T34 l0 x18_1).f0.f1).length c618_1)).setCell ⟨gb619, 2, none⟩ (.slice A618_2 ((rd_T34 l0 x18_1).f1).length c618_2)).heap[gb617]? = some (.cells #[.bool x618000_1, u618001, u618002] 34 (0, 0))) := ⟨by (with_reducible repeat (first | refine blk_drewN ?_ _ | refine blk_drew ?_ | refine blk_alloc ?_ _)); refine blk_far ?_ NB617_619.out _; (with_reducible repeat (first | refine blk_drewN ?_ _ | refine blk_drew ?_ | refine blk_alloc ?_ _)); refine blk_far ?_ NB617_619.out _; (with_reducible repeat (first | refine blk_drewN ?_ _ | refine blk_drew ?_ | refine blk_alloc ?_ _)); refine blk_far ?_ NB617_619.out _; (with_reducible repeat (first | refine blk_drewN ?_ _ | refine blk_drew ?_ | refine blk_alloc ?_ _)); exact BK617.out⟩
        have n4_ : Aside0 ((((w18.setCell ⟨gb619, 0, none⟩ (.bool ((rd_T34 l0 x18_1).f0.f0))).setCell ⟨gb619, 1, none⟩ (.slice A618_1 ((rd_T34 l0 x18_1).f0.f1).length c618_1)).setCell ⟨gb619, 2, none⟩ (.slice A618_2 ((rd_T34 l0 x18_1).f1).length c618_2)).heap[gb619]? = some (.cells #[.bool ((rd_T34 l0 x18_1).f0.f0), .slice A618_1 ((rd_T34 l0 x18_1).f0.f1).length c618_1, .slice A618_2 ((rd_T34 l0 x18_1).f1).length c618_2] 34 (0, 0))) := ⟨by (with_reducible repeat (first | refine blk_drewN ?_ _ | refine blk_drew ?_ | refine blk_alloc ?_ _)); refine blk_put (cs := #[.bool ((rd_T34 l0 x18_1).f0.f0), .slice A618_1 ((rd_T34 l0 x18_1).f0.f1).length c618_1, .slice none 0 0]) ?_ 2 _ rfl; (with_reducible repeat (first | refine blk_drewN ?_ _ | refine blk_drew ?_ | refine blk_alloc ?_ _)); refine blk_put (cs := #[.bool ((rd_T34 l0 x18_1).f0.f0), .slice none 0 0, .slice none 0 0]) ?_ 1 _ rfl; (with_reducible repeat (first | refine blk_drewN ?_ _ | refine blk_drew ?_ | refine blk_alloc ?_ _)); refine blk_put (cs := #[.bool false, .slice none 0 0, .slice none 0 0]) ?_ 0 _ rfl; (with_reducible repeat (first | refine blk_drewN ?_ _ | refine blk_drew ?_ | refine blk_alloc ?_ _)); exact BK619.out⟩
        have n5_ : Aside0 (Below w.heap.size w (((w18.setCell ⟨gb619, 0, none⟩ (.bool ((rd_T34 l0 x18_1).f0.f0))).setCell ⟨gb619, 1, none⟩ (.slice A618_1 ((rd_T34 l0 x18_1).f0.f1).length c618_1)).setCell ⟨gb619, 2, none⟩ (.slice A618_2 ((rd_T34 l0 x18_1).f1).length c618_2))) := ⟨Bs⟩
        (try clear HO_618001)
        (try clear HO_618002)
        (try clear BK609)
        (try clear BK617)
        (try clear BK619)
        (try clear HB)
        generalize (((w18.setCell ⟨gb619, 0, none⟩ (.bool ((rd_T34 l0 x18_1).f0.f0))).setCell ⟨gb619, 1, none⟩ (.slice A618_1 ((rd_T34 l0 x18_1).f0.f1).length c618_1)).setCell ⟨gb619, 2, none⟩ (.slice A618_2 ((rd_T34 l0 x18_1).f1).length c618_2)) = w22 at n0_ n1_ n2_ n3_ n4_ n5_ ⊢
        have HO_618001 := n0_
        have HO_618002 := n1_
        have BK609 := n2_
        have BK617 := n3_
        have BK619 := n4_
        have HB := n5_
        clear n0_ n1_ n2_ n3_ n4_ n5_
        replace HO_618001 := Aside0.mk (Kd.R_drew HO_618001.out)
        replace HO_618002 := Aside0.mk (Kd.R_drew HO_618002.out)
        replace BK609 := Aside0.mk (blk_drew BK609.out)
        replace BK617 := Aside0.mk (blk_drew BK617.out)
        replace BK619 := Aside0.mk (blk_drew BK619.out)
        replace HB := Aside0.mk (below_drew1 HB.out)
        have p620 : 0 ≤ (x18_1 : Int) := tx
        have q620 : x18_1 < (l1.length : Int) := tx
        obtain ⟨ad620, A620_1, c620_1, A620_2, c620_2, e620, hx620_0, hx620_1, hx620_2, hl620_1, hi620_1, hl620_2, hi620_2⟩ := at_T34 HR1.out x18_1 p620 q620
        have hw620_2 := hx620_2
        have hw620_1 := hx620_1
        have hw620_0 := hx620_0
        cases e620
        replace hx620_0 := (HB.out.cell (World.block_lt_of_cell? w _ hx620_0)).trans hx620_0
        replace hx620_1 := (HB.out.cell (World.block_lt_of_cell? w _ hx620_1)).trans hx620_1
        replace hx620_2 := (HB.out.cell (World.block_lt_of_cell? w _ hx620_2)).trans hx620_2
        have HR620_1 := Aside0.mk hi620_1
        have HC620_1 := Aside0.mk hl620_1
        clear hi620_1 hl620_1
        have HR620_2 := Aside0.mk hi620_2
        have HC620_2 := Aside0.mk hl620_2
        clear hi620_2 hl620_2
        replace p620 := eq_true p620
        replace q620 := eq_true q620
        refine start_ (n := 9) (S := fun w' => w'.cell? ⟨gb617, 0, none⟩ = some (.bool x618000_1) ∧ w'.cell? ⟨gb617, 1, none⟩ = some (u618001) ∧ w'.cell? ⟨gb617, 2, none⟩ = some (u618002) ∧ w'.cell? ⟨gb619, 0, none⟩ = some (.bool ((rd_T34 l0 x18_1).f0.f0)) ∧ w'.cell? ⟨gb619, 1, none⟩ = some (.slice A618_1 ((rd_T34 l0 x18_1).f0.f1).length c618_1) ∧ w'.cell? ⟨gb619, 2, none⟩ = some (.slice A618_2 ((rd_T34 l0 x18_1).f1).length c618_2) ∧ w'.cell? (ad620.add ((x18_1).toNat * 3)) = some (.bool ((rd_T34 l1 x18_1).f0.f0)) ∧ w'.cell? ⟨(ad620.add ((x18_1).toNat * 3)).block, (ad620.add ((x18_1).toNat * 3)).off + 1, none⟩ = some (.slice A620_1 ((rd_T34 l1 x18_1).f0.f1).length c620_1) ∧ w'.cell? ⟨(ad620.add ((x18_1).toNat * 3)).block, (ad620.add ((x18_1).toNat * 3)).off + 2, none⟩ = some (.slice A620_2 ((rd_T34 l1 x18_1).f1).length c620_2)) (ds := [8]) #[false, false, false, false, false, false, false, false, false] (by kernel_rfl) rfl rfl ⟨(blk_cell BK617.out 0).trans rfl, (blk_cell BK617.out 1).trans rfl, (blk_cell BK617.out 2).trans rfl, (blk_cell BK619.out 0).trans rfl, (blk_cell BK619.out 1).trans rfl, (blk_cell BK619.out 2).trans rfl, ((HB.out.cell (World.block_lt_of_cell? w _ hw620_0)).trans hw620_0), ((HB.out.cell (World.block_lt_of_cell? w _ hw620_1)).trans hw620_1), ((HB.out.cell (World.block_lt_of_cell? w _ hw620_2)).trans hw620_2)⟩ (fun hHeld => ?_); refine with_tabW vect_Dot.tab7 vect_Dot.bits7 (fun HT_ HW_ => ?_)
        generalize w22.drew = w23 at HO_618001 HO_618002 BK609 BK617 BK619 HB HR620_1 HR620_2 hx620_0 hx620_1 hx620_2 hHeld ⊢
        refine pure_ (i := 2) (N := some 25) (v := ?_) (a' := ?_) #[false, false, true, false, false, false, false, false, false] rfl rfl (any_of HT_.out (by kernel_rfl)) (fun _ _ _ h => h) (Or.inl ⟨by rfl, ?_⟩) ?_ ?_
        rotate_left
        ·
         intro w'
         go_simp
         with_reducible rfl
        rotate_left
        ·
         simp only [Act.put, List.setIfInBounds_toArray, List.set_cons_zero, List.set_cons_succ, i64_w, i32_w]
         rfl
        refine pure_ (i := 3) (N := some 26) (v := ?_) (a' := ?_) #[false, false, true, true, false, false, false, false, false] rfl rfl (any_of HT_.out (by kernel_rfl)) (fun _ _ _ h => h) (Or.inl ⟨by rfl, ?_⟩) ?_ ?_
        rotate_left
        ·
         intro w'
         go_simp
         with_reducible rfl
        rotate_left
        ·
         simp only [Act.put, List.setIfInBounds_toArray, List.set_cons_zero, List.set_cons_succ, i64_w, i32_w]
         rfl
        refine pure_ (i := 4) (N := some 27) (v := ?_) (a' := ?_) #[false, false, true, true, true, false, false, false, false] rfl rfl (any_of HT_.out (by kernel_rfl)) (fun _ _ _ h => h) (Or.inl ⟨by rfl, ?_⟩) ?_ ?_
        rotate_left
        ·
         intro w'
         go_simp
         with_reducible rfl
        rotate_left
        ·
         simp only [Act.put, List.setIfInBounds_toArray, List.set_cons_zero, List.set_cons_succ, i64_w, i32_w]
         rfl
        refine take_ (i := 0) (N := some 23) (v := ?_) (a' := ?_) #[true, false, true, true, true, false, false, false, false] rfl rfl (take_ofW HT_.out HW_.out (by kernel_rfl)) (fun _ _ _ h => h) (Or.inl ⟨by rfl, ?_⟩) hHeld ?_ ?_
        rotate_left
        ·
         rintro w' ⟨s0, s1, s2, s3, s4, s5, s6, s7, s8⟩
         go_simp
         with_reducible rfl
        rotate_left
        ·
         simp only [Act.put, List.setIfInBounds_toArray, List.set_cons_zero, List.set_cons_succ, i64_w, i32_w]
         rfl
        refine take_ (i := 1) (N := some 24) (v := ?_) (a' := ?_) #[true, true, true, true, true, false, false, false, false] rfl rfl (take_ofW HT_.out HW_.out (by kernel_rfl)) (fun _ _ _ h => h) (Or.inl ⟨by rfl, ?_⟩) hHeld ?_ ?_
        rotate_left
        ·
         rintro w' ⟨s0, s1, s2, s3, s4, s5, s6, s7, s8⟩
         go_simp
         with_reducible rfl
        rotate_left
        ·
         simp only [Act.put, List.setIfInBounds_toArray, List.set_cons_zero, List.set_cons_succ, i64_w, i32_w]
         rfl
        refine take_ (i := 5) (N := some 28) (v := ?_) (a' := ?_) #[true, true, true, true, true, true, false, false, false] rfl rfl (take_ofW HT_.out HW_.out (by kernel_rfl)) (fun _ _ _ h => h) (Or.inl ⟨by rfl, ?_⟩) hHeld ?_ ?_
        rotate_left
        ·
         rintro w' ⟨s0, s1, s2, s3, s4, s5, s6, s7, s8⟩
         go_simp
         with_reducible rfl
        rotate_left
        ·
         simp only [Act.put, List.setIfInBounds_toArray, List.set_cons_zero, List.set_cons_succ, i64_w, i32_w]
         rfl
        refine one_ (i := 6) (N := some 29) #[true, true, true, true, true, true, true, false, false] rfl rfl (one_of HT_.out (by kernel_rfl)) (by decide) (fun K hK => ?_)
        refine goes_ Try.func22 (by kernel_rfl) rfl #[.agg #[.bool ((rd_T34 l0 x18_1).f0.f0), .slice A618_1 ((rd_T34 l0 x18_1).f0.f1).length c618_1, .slice A618_2 ((rd_T34 l0 x18_1).f1).length c618_2], .agg #[.bool ((rd_T34 l1 x18_1).f0.f0), .slice A620_1 ((rd_T34 l1 x18_1).f0.f1).length c620_1, .slice A620_2 ((rd_T34 l1 x18_1).f1).length c620_2]] (by rfl) rfl rfl (by (try simp only [List.map_toArray, List.map_cons, List.map_nil]); first | done | rfl | (simp only [List.length_drop, List.length_take]; rfl)) ?_
        with_reducible refine (rat_Mul.calls k1 ((rd_T34 l0 x18_1).f0.f0) _ _ ((rd_T34 l0 x18_1).f0.f1) _ _ ((rd_T34 l0 x18_1).f1) ((rd_T34 l1 x18_1).f0.f0) _ _ ((rd_T34 l1 x18_1).f0.f1) _ _ ((rd_T34 l1 x18_1).f1) t621 t622 t625 _ ?side1 ?side2 ?side3 ?side4 ?side5 ?side6 ?side7 ?side8 A16.out).mono ?_
        (case side1 => exact Kd.Cx (Kd.C_below HR618_1.out HB.out))
        (case side2 => exact HC618_1.out)
        (case side3 => exact Kd.Cx (Kd.C_below HR618_2.out HB.out))
        (case side4 => exact HC618_2.out)
        (case side5 => exact Kd.Cx (Kd.C_below HR620_1.out HB.out))
        (case side6 => exact HC620_1.out)
        (case side7 => exact Kd.Cx (Kd.C_below HR620_2.out HB.out))
        (case side8 => exact HC620_2.out)
        rintro e w24 ⟨v623, v626, rfl, ho0, ho1, hb⟩
        refine ⟨_, rfl, ?_⟩
        have HO624 := Aside0.mk (Kd.R_lower (Kd.R_new' (Kd.R_new' ho0 (Kd.R_lt (Kd.Rx HO_618001.out))) (Kd.R_lt (Kd.Rx HO_618002.out))) (below_size (Bs)))
        have HO627 := Aside0.mk (Kd.R_lower (Kd.R_new' (Kd.R_new' ho1 (Kd.R_lt (Kd.Rx HO_618001.out))) (Kd.R_lt (Kd.Rx HO_618002.out))) (below_size (Bs)))
        replace HO_618001 := Aside0.mk (Kd.R_mono (Kd.R_told (Kd.R_told (Kd.R_old (Kd.Rx HO_618001.out) hb) (Kd.R_base ho0)) (Kd.R_base ho1)) (fun _ h_ => h_.1))
        replace HO_618002 := Aside0.mk (Kd.R_mono (Kd.R_told (Kd.R_told (Kd.R_old (Kd.Rx HO_618002.out) hb) (Kd.R_base ho0)) (Kd.R_base ho1)) (fun _ h_ => h_.1))
        replace BK609 := Aside0.mk (blk_below (Kx BK609.out) hb)
        replace BK617 := Aside0.mk (blk_below (Kx BK617.out) hb)
        replace BK619 := Aside0.mk (blk_below (Kx BK619.out) hb)
        replace HB := Aside0.mk (below_step (Bs) hb)
        (try clear hb)
        (try clear hb2)
        (try clear hk)
        (try clear hi)
        (try clear ho0)
        (try clear ho1)
        obtain ⟨Ao25, co25, eo25⟩ := Kd.R_slice HO_618001.out
        (first | subst eo25 | (injection eo25 with f1_ f2_ f3_; have f4_ := f1_.symm; have f5_ := f3_.symm; clear f1_ f2_ f3_; subst f4_; subst f5_))
        obtain ⟨Ao26, co26, eo26⟩ := Kd.R_slice HO_618002.out
        (first | subst eo26 | (injection eo26 with f1_ f2_ f3_; have f4_ := f1_.symm; have f5_ := f3_.symm; clear f1_ f2_ f3_; subst f4_; subst f5_))
        obtain ⟨Ao27, co27, eo27⟩ := Kd.R_slice HO624.out
        (first | subst eo27 | (injection eo27 with f1_ f2_ f3_; have f4_ := f1_.symm; have f5_ := f3_.symm; clear f1_ f2_ f3_; subst f4_; subst f5_))
        obtain ⟨Ao28, co28, eo28⟩ := Kd.R_slice HO627.out
        (first | subst eo28 | (injection eo28 with f1_ f2_ f3_; have f4_ := f1_.symm; have f5_ := f3_.symm; clear f1_ f2_ f3_; subst f4_; subst f5_))
        refine hK.out _ _ ⟨(blk_cell BK617.out 0).trans rfl, (blk_cell BK617.out 1).trans rfl, (blk_cell BK617.out 2).trans rfl, (blk_cell BK619.out 0).trans rfl, (blk_cell BK619.out 1).trans rfl, (blk_cell BK619.out 2).trans rfl, ((HB.out.cell (World.block_lt_of_cell? w _ hw620_0)).trans hw620_0), ((HB.out.cell (World.block_lt_of_cell? w _ hw620_1)).trans hw620_1), ((HB.out.cell (World.block_lt_of_cell? w _ hw620_2)).trans hw620_2)⟩ (fun hHeld => ?_)
        clear hK K
        refine norm_ (a' := ?_) ?_ ?_
        rotate_left
        ·
         show Act.put _ (some 29) _ = _
         simp only [Act.put, List.setIfInBounds_toArray, List.set_cons_zero, List.set_cons_succ, i64_w, i32_w]
         rfl
        refine one_ (i := 7) (N := some 30) #[true, true, true, true, true, true, true, true, false] rfl rfl (one_of HT_.out (by kernel_rfl)) (by decide) (fun K hK => ?_)
        refine goes_ Try.func21 (by kernel_rfl) rfl #[.agg #[.bool x618000_1, .slice Ao25 x618001_1.length co25, .slice Ao26 x618002_1.length co26], .agg #[.bool t621, .slice Ao27 t622.length co27, .slice Ao28 t625.length co28]] (by rfl) rfl rfl (by (try simp only [List.map_toArray, List.map_cons, List.map_nil]); first | done | rfl | (simp only [List.length_drop, List.length_take]; rfl)) ?_
        with_reducible refine (rat_Add.calls k1 x618000_1 _ _ x618001_1 _ _ x618002_1 t621 _ _ t622 _ _ t625 t628 t629 t632 _ ?side1 ?side2 ?side3 ?side4 ?side5 ?side6 ?side7 ?side8 A17.out).mono ?_
        (case side1 => exact Kd.Cx (Kd.R_reads' HO_618001.out).2.2)
        (case side2 => exact (Kd.R_reads' HO_618001.out).2.1)
        (case side3 => exact Kd.Cx (Kd.R_reads' HO_618002.out).2.2)
        (case side4 => exact (Kd.R_reads' HO_618002.out).2.1)
        (case side5 => exact Kd.Cx (Kd.R_reads' HO624.out).2.2)
        (case side6 => exact (Kd.R_reads' HO624.out).2.1)
        (case side7 => exact Kd.Cx (Kd.R_reads' HO627.out).2.2)
        (case side8 => exact (Kd.R_reads' HO627.out).2.1)
        rintro e w29 ⟨v630, v633, rfl, ho0, ho1, hb⟩
        refine ⟨_, rfl, ?_⟩
        have HO631 := Aside0.mk (Kd.R_lower (Kd.R_new' (Kd.R_new' (Kd.R_new' (Kd.R_new' ho0 (Kd.R_lt (Kd.Rx HO_618001.out))) (Kd.R_lt (Kd.Rx HO_618002.out))) (Kd.R_lt (Kd.Rx HO624.out))) (Kd.R_lt (Kd.Rx HO627.out))) (below_size (Bs)))
        have HO634 := Aside0.mk (Kd.R_lower (Kd.R_new' (Kd.R_new' (Kd.R_new' (Kd.R_new' ho1 (Kd.R_lt (Kd.Rx HO_618001.out))) (Kd.R_lt (Kd.Rx HO_618002.out))) (Kd.R_lt (Kd.Rx HO624.out))) (Kd.R_lt (Kd.Rx HO627.out))) (below_size (Bs)))
        replace HO_618001 := Aside0.mk (Kd.R_mono (Kd.R_told (Kd.R_told (Kd.R_old (Kd.Rx HO_618001.out) hb) (Kd.R_base ho0)) (Kd.R_base ho1)) (fun _ h_ => h_.1))
        replace HO_618002 := Aside0.mk (Kd.R_mono (Kd.R_told (Kd.R_told (Kd.R_old (Kd.Rx HO_618002.out) hb) (Kd.R_base ho0)) (Kd.R_base ho1)) (fun _ h_ => h_.1))
        replace HO624 := Aside0.mk (Kd.R_mono (Kd.R_told (Kd.R_told (Kd.R_old (Kd.Rx HO624.out) hb) (Kd.R_base ho0)) (Kd.R_base ho1)) (fun _ h_ => h_.1))
        replace HO627 := Aside0.mk (Kd.R_mono (Kd.R_told (Kd.R_told (Kd.R_old (Kd.Rx HO627.out) hb) (Kd.R_base ho0)) (Kd.R_base ho1)) (fun _ h_ => h_.1))
        replace BK609 := Aside0.mk (blk_below (Kx BK609.out) hb)
        replace BK617 := Aside0.mk (blk_below (Kx BK617.out) hb)
        replace BK619 := Aside0.mk (blk_below (Kx BK619.out) hb)
        replace HB := Aside0.mk (below_step (Bs) hb)
        (try clear hb)
        (try clear hb2)
        (try clear hk)
        (try clear hi)
        (try clear ho0)
        (try clear ho1)
        obtain ⟨Ao31, co31, eo31⟩ := Kd.R_slice HO631.out
        (first | subst eo31 | (injection eo31 with f1_ f2_ f3_; have f4_ := f1_.symm; have f5_ := f3_.symm; clear f1_ f2_ f3_; subst f4_; subst f5_))
        obtain ⟨Ao33, co33, eo33⟩ := Kd.R_slice HO634.out
        (first | subst eo33 | (injection eo33 with f1_ f2_ f3_; have f4_ := f1_.symm; have f5_ := f3_.symm; clear f1_ f2_ f3_; subst f4_; subst f5_))
        refine hK.out _ _ ⟨(blk_cell BK617.out 0).trans rfl, (blk_cell BK617.out 1).trans rfl, (blk_cell BK617.out 2).trans rfl, (blk_cell BK619.out 0).trans rfl, (blk_cell BK619.out 1).trans rfl, (blk_cell BK619.out 2).trans rfl, ((HB.out.cell (World.block_lt_of_cell? w _ hw620_0)).trans hw620_0), ((HB.out.cell (World.block_lt_of_cell? w _ hw620_1)).trans hw620_1), ((HB.out.cell (World.block_lt_of_cell? w _ hw620_2)).trans hw620_2)⟩ (fun hHeld => ?_)
        clear hK K
        refine norm_ (a' := ?_) ?_ ?_
        rotate_left
        ·
         show Act.put _ (some 30) _ = _
         simp only [Act.put, List.setIfInBounds_toArray, List.set_cons_zero, List.set_cons_succ, i64_w, i32_w]
         rfl
        refine last_ (i := 8) (N := none) #[true, true, true, true, true, true, true, true, true] rfl rfl (one_of HT_.out (by kernel_rfl)) (by decide) (fun K hK => ?_)
        have hs30 : w29.cell? ⟨gb617, 0, none⟩ = some (.bool x618000_1) := (blk_cell BK617.out 0).trans rfl
        have hfs30 := blk_frozen BK617.out 0
        have hns30_0 := NB609_617.out
        have hns30_2 := NB619_617.out
        have hms30_0 := NB617_609.out
        have hms30_2 := NB617_619.out
        have hs32 : w29.cell? ⟨gb617, 1, none⟩ = some (.slice Ao25 x618001_1.length co25) := (blk_cell BK617.out 1).trans rfl
        have hfs32 := blk_frozen BK617.out 1
        have hns32_0 := NB609_617.out
        have hns32_2 := NB619_617.out
        have hms32_0 := NB617_609.out
        have hms32_2 := NB617_619.out
        have hs34 : w29.cell? ⟨gb617, 2, none⟩ = some (.slice Ao26 x618002_1.length co26) := (blk_cell BK617.out 2).trans rfl
        have hfs34 := blk_frozen BK617.out 2
        have hns34_0 := NB609_617.out
        have hns34_2 := NB619_617.out
        have hms34_0 := NB617_609.out
        have hms34_2 := NB617_619.out
        refine skip_ (w1 := ?_) (by rfl) rfl ?_ ?_
        rotate_left
        ·
         go_simp
         rfl
        refine hK.out _ _ ?_
        clear hK K
        refine done_ (done_of HT_.out (by kernel_rfl)) ?_
        try go_wp2
        go_roundg k1
        case measure => have := HK1.out; omega
        case rel => exact ⟨(wrap64 (x18_1 + 1)), (t628), (t629), (t632), (.slice Ao31 t629.length co31), (.slice Ao33 t632.length co33), (by first | rfl | (simp; done) | (simp [*]; done)), H', ⟨by have := HK1.out; omega⟩, ⟨by exact Kd.Rx (Kd.R_mono (Kd.R_far (p := ⟨gb617, 2, none⟩) (Kd.R_far (p := ⟨gb617, 1, none⟩) (Kd.R_far (p := ⟨gb617, 0, none⟩) (Kd.R_types HO631.out BK617.out (by decide)) (fun _ hk => hk.2) (.bool t628)) (fun _ hk => hk.2) (.slice Ao31 t629.length co31)) (fun _ hk => hk.2) (.slice Ao33 t632.length co33)) (fun _ hk => hk.1.1.1.1.1))⟩, ⟨by exact Kd.Rx (Kd.R_mono (Kd.R_far (p := ⟨gb617, 2, none⟩) (Kd.R_far (p := ⟨gb617, 1, none⟩) (Kd.R_far (p := ⟨gb617, 0, none⟩) (Kd.R_types HO634.out BK617.out (by decide)) (fun _ hk => hk.2) (.bool t628)) (fun _ hk => hk.2) (.slice Ao31 t629.length co31)) (fun _ hk => hk.2) (.slice Ao33 t632.length co33)) (fun _ hk => hk.1.1.1.1.1))⟩, ⟨by (with_reducible repeat (first | refine blk_drewN ?_ _ | refine blk_drew ?_ | refine blk_alloc ?_ _)); refine blk_far ?_ NB609_617.out _; (with_reducible repeat (first | refine blk_drewN ?_ _ | refine blk_drew ?_ | refine blk_alloc ?_ _)); refine blk_far ?_ NB609_617.out _; (with_reducible repeat (first | refine blk_drewN ?_ _ | refine blk_drew ?_ | refine blk_alloc ?_ _)); refine blk_far ?_ NB609_617.out _; (with_reducible repeat (first | refine blk_drewN ?_ _ | refine blk_drew ?_ | refine blk_alloc ?_ _)); exact BK609.out⟩, ⟨by (with_reducible repeat (first | refine blk_drewN ?_ _ | refine blk_drew ?_ | refine blk_alloc ?_ _)); refine blk_put (cs := #[.bool t628, .slice Ao31 t629.length co31, .slice Ao26 x618002_1.length co26]) ?_ 2 _ rfl; (with_reducible repeat (first | refine blk_drewN ?_ _ | refine blk_drew ?_ | refine blk_alloc ?_ _)); refine blk_put (cs := #[.bool t628, .slice Ao25 x618001_1.length co25, .slice Ao26 x618002_1.length co26]) ?_ 1 _ rfl; (with_reducible repeat (first | refine blk_drewN ?_ _ | refine blk_drew ?_ | refine blk_alloc ?_ _)); refine blk_put (cs := #[.bool x618000_1, .slice Ao25 x618001_1.length co25, .slice Ao26 x618002_1.length co26]) ?_ 0 _ rfl; (with_reducible repeat (first | refine blk_drewN ?_ _ | refine blk_drew ?_ | refine blk_alloc ?_ _)); exact BK617.out⟩, ⟨Bs⟩⟩
       ·
        rw [if_neg c15] at H
        exact absurd H (by simp)
      ·
       rw [if_neg c14] at H
       exact absurd H (by simp)
     ·
      rw [if_neg c13] at H
      exact absurd H (by simp)
    ·
     rw [if_neg c12] at H
     have c12b0 : decide (x18_1 < (l0.length : Int)) = false := decide_eq_false c12
     clear c12
     simp only [Option.some.injEq, Prod.mk.injEq] at H
     obtain ⟨rfl, rfl, rfl, rfl⟩ := H
     have hnb35 := NB617_609.out
     have hnc35 := NB609_617.out
     have hcz36_0 : wr.cell? ⟨gb617, 0, none⟩ = some (.bool x618000_1) := (blk_cell BK617.out 0).trans rfl
     have hcz36_1 : wr.cell? ⟨gb617, 1, none⟩ = some (u618001) := (blk_cell BK617.out 1).trans rfl
     have hcz36_2 : wr.cell? ⟨gb617, 2, none⟩ = some (u618002) := (blk_cell BK617.out 2).trans rfl
     have hfz36_0 := blk_frozen BK617.out 0
     have hfz36_1 := blk_frozen BK617.out 1
     have hfz36_2 := blk_frozen BK617.out 2
     have hcz37_0 : wr.cell? ⟨gb609, 0, none⟩ = some (.bool false) := (blk_cell BK609.out 0).trans rfl
     have hcz37_1 : wr.cell? ⟨gb609, 1, none⟩ = some (.slice none 0 0) := (blk_cell BK609.out 1).trans rfl
     have hcz37_2 : wr.cell? ⟨gb609, 2, none⟩ = some (.slice none 0 0) := (blk_cell BK609.out 2).trans rfl
     have hfz37_0 := blk_frozen BK609.out 0
     have hfz37_1 := blk_frozen BK609.out 1
     have hfz37_2 := blk_frozen BK609.out 2
     obtain ⟨Ao38, co38, eo38⟩ := Kd.R_slice HO_618001.out
     subst eo38
     obtain ⟨Ao39, co39, eo39⟩ := Kd.R_slice HO_618002.out
     subst eo39
     go_wp2
     refine bodyPost_ret (results_ct rfl _ _ gb609 34 #[.bool x618000_1, .slice Ao38 x618001_1.length co38, .slice Ao39 x618002_1.length co39] (0, 0) _ rfl (by (with_reducible repeat (first | refine blk_drewN ?_ _ | refine blk_drew ?_ | refine blk_alloc ?_ _)); refine blk_put (cs := #[.bool x618000_1, .slice Ao38 x618001_1.length co38, .slice none 0 0]) ?_ 2 _ rfl; (with_reducible repeat (first | refine blk_drewN ?_ _ | refine blk_drew ?_ | refine blk_alloc ?_ _)); refine blk_put (cs := #[.bool x618000_1, .slice none 0 0, .slice none 0 0]) ?_ 1 _ rfl; (with_reducible repeat (first | refine blk_drewN ?_ _ | refine blk_drew ?_ | refine blk_alloc ?_ _)); refine blk_put (cs := #[.bool false, .slice none 0 0, .slice none 0 0]) ?_ 0 _ rfl; (with_reducible repeat (first | refine blk_drewN ?_ _ | refine blk_drew ?_ | refine blk_alloc ?_ _)); exact BK609.out) Try.underlying34 rfl (by kernel_rfl)) rfl ?_
     exact ⟨_, _, by first | rfl | (simp [errW_none, errW_some] <;> rfl) | (simp [*, errW_none, errW_some] <;> rfl), by exact Kd.Rx (Kd.R_mono (Kd.R_far (p := ⟨gb609, 2, none⟩) (Kd.R_far (p := ⟨gb609, 1, none⟩) (Kd.R_far (p := ⟨gb609, 0, none⟩) (Kd.R_types HO_618001.out BK609.out (by decide)) (fun _ hk => hk.2) (.bool x618000_1)) (fun _ hk => hk.2) (.slice Ao38 x618001_1.length co38)) (fun _ hk => hk.2) (.slice Ao39 x618002_1.length co39)) (fun _ hk => hk.1)), by exact Kd.Rx (Kd.R_mono (Kd.R_far (p := ⟨gb609, 2, none⟩) (Kd.R_far (p := ⟨gb609, 1, none⟩) (Kd.R_far (p := ⟨gb609, 0, none⟩) (Kd.R_types HO_618002.out BK609.out (by decide)) (fun _ hk => hk.2) (.bool x618000_1)) (fun _ hk => hk.2) (.slice Ao38 x618001_1.length co38)) (fun _ hk => hk.2) (.slice Ao39 x618002_1.length co39)) (fun _ hk => hk.1)), Bs⟩
 ·
  rw [if_neg c3] at H
  have c3b0 : ((l0.length : Int) == (l1.length : Int)) = false := beq_eq_false_iff_ne.mpr c3
  have c3b1 : ((l0.length : Int) != (l1.length : Int)) = true := bne_iff_ne.mpr c3
  have c3b2 : (l0.length == l1.length) = false := by first | simpa using c3 | (simp at c3 ⊢; omega)
  simp only [Option.some.injEq, Prod.mk.injEq] at H
  obtain ⟨rfl, rfl, rfl, rfl⟩ := H
  go_enter Try.func19, Try.ntmps19
  go_wp2_with (first | ((with_reducible refine gate_dst (N := 4) rfl ?_); refine box_event ?hg (N := 4) ?hd (cs := #[.bool false, .slice none 0 0, .slice none 0 0]) (t := 34) ?hr ?_; (case hd => rfl); (case hg => rfl); (case hr => first | (go_simp; done) | (go_simp; rfl)); intro gb609 hg w40 hbox hb; have BK609 := Aside0.mk (hbox); have GW609 := Aside0.mk ((by rw [hg]; exact (below_size (Bx HB.out)) : w.heap.size ≤ gb609)); have GE609 := Aside0.mk ((by rw [hg]; exact (below_size (Bx HB.out)) : w.heap.size ≤ gb609)); replace HB := Aside0.mk (below_step (Bx HB.out) hb); clear hb hbox hg; have hcz41_0 : w40.cell? ⟨gb609, 0, none⟩ = some (.bool false) := (blk_cell BK609.out 0).trans rfl; have hcz41_1 : w40.cell? ⟨gb609, 1, none⟩ = some (.slice none 0 0) := (blk_cell BK609.out 1).trans rfl; have hcz41_2 : w40.cell? ⟨gb609, 2, none⟩ = some (.slice none 0 0) := (blk_cell BK609.out 2).trans rfl; have hfz41_0 := blk_frozen BK609.out 0; have hfz41_1 := blk_frozen BK609.out 1; have hfz41_2 := blk_frozen BK609.out 2))
  refine bodyPost_ret (results_ct rfl _ _ gb609 34 #[.bool false, .slice none 0 0, .slice none 0 0] (0, 0) _ rfl (by (with_reducible repeat (first | refine blk_drewN ?_ _ | refine blk_drew ?_ | refine blk_alloc ?_ _)); refine blk_put (cs := #[.bool false, .slice none 0 0, .slice none 0 0]) ?_ 2 _ rfl; (with_reducible repeat (first | refine blk_drewN ?_ _ | refine blk_drew ?_ | refine blk_alloc ?_ _)); refine blk_put (cs := #[.bool false, .slice none 0 0, .slice none 0 0]) ?_ 1 _ rfl; (with_reducible repeat (first | refine blk_drewN ?_ _ | refine blk_drew ?_ | refine blk_alloc ?_ _)); refine blk_put (cs := #[.bool false, .slice none 0 0, .slice none 0 0]) ?_ 0 _ rfl; (with_reducible repeat (first | refine blk_drewN ?_ _ | refine blk_drew ?_ | refine blk_alloc ?_ _)); exact BK609.out) Try.underlying34 rfl (by kernel_rfl)) rfl ?_
  exact ⟨_, _, by first | rfl | (simp [errW_none, errW_some] <;> rfl) | (simp [*, errW_none, errW_some] <;> rfl), by first | exact Kd.R_nil _ _ _ _ _ | exact Kd.N_nil _ _ _ _ _ | exact Kd.V_nil _ _ _ _ _ | exact Kd.Q_nil _ _ _ _ _ | exact Kd.S_nil _ _ _ _ _, by first | exact Kd.R_nil _ _ _ _ _ | exact Kd.N_nil _ _ _ _ _ | exact Kd.V_nil _ _ _ _ _ | exact Kd.Q_nil _ _ _ _ _ | exact Kd.S_nil _ _ _ _ _, Bs⟩
end Go.Proofs.Ytpmbcdakpmceiaa.F

end
section
namespace Go.Proofs.Ytpmbcdakpmceiaa.F
open Go.RowKit Go.Proofs.YtpmbcdakpmceiaaW.PrintWords Go.Proofs.YtpmbcdakpmceiaaW.PrintLast Go.Proofs.YtpmbcdakpmceiaaW.PrintMore
attribute [local go_sem] max2_int min2_int max_two min_two max_three min_three max_four min_four
set_option linter.unusedVariables false
set_option linter.unusedSimpArgs false
def triviumlaw11_works.f (k : Nat)  : Option (Bool) := (rat_Of.f k 1).bind fun bt635 => ((rat_Of.f k 2).bind fun bt642 => ((rat_Of.f k 3).bind fun bt652 => ((rat_Of.f k 4).bind fun bt659 => ((vect_Dot.f k (([(⟨(⟨bt635.1, bt635.2.1⟩ : S32), bt635.2.2⟩ : S34), (⟨(⟨bt642.1, bt642.2.1⟩ : S32), bt642.2.2⟩ : S34)] : List (S34))) (([(⟨(⟨bt652.1, bt652.2.1⟩ : S32), bt652.2.2⟩ : S34), (⟨(⟨bt659.1, bt659.2.1⟩ : S32), bt659.2.2⟩ : S34)] : List (S34)))).bind fun bt669 => (if bt669.2.2.2 = 0 then ((rat_Of.f k 11).bind fun bt678 => ((rat_Same.f k bt669.1 bt669.2.1 bt669.2.2.1 bt678.1 bt678.2.1 bt678.2.2).bind fun t685 => (if t685 = true then ((rat_Of.f k 0).bind fun bt686 => ((rat_Of.f k 5).bind fun bt693 => ((vect_Lead.f k (([(⟨(⟨bt686.1, bt686.2.1⟩ : S32), bt686.2.2⟩ : S34), (⟨(⟨bt693.1, bt693.2.1⟩ : S32), bt693.2.2⟩ : S34)] : List (S34)))).bind fun t703 => (some (t703 == 1))))) else (some false)))) else (some false))))))
theorem triviumlaw11_works.mono : ∀ k, LeO (triviumlaw11_works.f k ) (triviumlaw11_works.f (k + 1) ) := by
 intro  k
 unfold triviumlaw11_works.f
 repeat' first
   | (with_reducible exact rat_Of.mono _ _)
   | (with_reducible exact rat_Same.mono _ _ _ _ _ _ _)
   | (with_reducible exact vect_Dot.mono _ _ _)
   | (with_reducible exact vect_Lead.mono _ _)
   | (with_reducible exact LeO.refl _)
   | (with_reducible exact LeO.none _)
   | (with_reducible refine LeO.ite ?_ ?_)
   | (with_reducible refine LeO.bind ?_ (fun _ => ?_))
   | exact rat_Of.mono _ _
   | exact rat_Same.mono _ _ _ _ _ _ _
   | exact vect_Dot.mono _ _ _
   | exact vect_Lead.mono _ _
   | exact LeO.none _
   | refine LeO.ite ?_ ?_
   | refine LeO.bind ?_ (fun _ => ?_)
end Go.Proofs.Ytpmbcdakpmceiaa.F

end
section
namespace Go.Proofs.Ytpmbcdakpmceiaa.F
open Go.RowKit Go.Proofs.YtpmbcdakpmceiaaW.PrintWords Go.Proofs.YtpmbcdakpmceiaaW.PrintLast Go.Proofs.YtpmbcdakpmceiaaW.PrintMore
attribute [local go_sem] max2_int min2_int max_two min_two max_three min_three max_four min_four
set_option linter.unusedVariables false
set_option linter.unusedSimpArgs false
def triviumlaw11_works.T2 : Bool × List (List Nat × List Nat) := (true, [([], []), ([0], [0]), ([1], [1]), ([2], [2]), ([2, 2], [2]), ([3, 4, 4, 2], [2, 3, 4]), ([2, 5], [2, 5]), ([6, 5], [6]), ([7, 7], [7]), ([8, 7], [7]), ([8, 9, 7], [7, 8, 9]), ([10, 9, 7], [7, 10]), ([11, 7], [7, 11]), ([7, 12], [7, 12]), ([13, 11, 0, 1, 2, 3, 4, 5, 6, 7, 8, 9, 10, 11, 12, 13], [13])])
def triviumlaw11_works.B2 : List Nat := [0, 1, 3, 7, 7, 31, 63, 127, 255, 511, 1023, 2047, 4095, 8191, 16383]
theorem triviumlaw11_works.tab2 : rtab .any (opsOf Try.f11 2) = triviumlaw11_works.T2 := by kernel_rfl
theorem triviumlaw11_works.bits2 : waitsOk triviumlaw11_works.T2.2 triviumlaw11_works.B2 = true := by kernel_rfl
set_option maxHeartbeats 8000000 in
set_option maxRecDepth 100000 in
theorem triviumlaw11_works.calls (k : Nat)  (r : Bool) (w : World) (h : triviumlaw11_works.f k  = some r) :
  Calls Try.prog 11 #[] w fun e w' => e = .returned (.bool r) ∧ Below w.heap.size w w' := by
 have hu34 := Try.underlying34
 have HB := Aside0.mk (Below.refl w.heap.size w)
 have H : ((rat_Of.f k 1).bind fun bt635 => ((rat_Of.f k 2).bind fun bt642 => ((rat_Of.f k 3).bind fun bt652 => ((rat_Of.f k 4).bind fun bt659 => ((vect_Dot.f k (([(⟨(⟨bt635.1, bt635.2.1⟩ : S32), bt635.2.2⟩ : S34), (⟨(⟨bt642.1, bt642.2.1⟩ : S32), bt642.2.2⟩ : S34)] : List (S34))) (([(⟨(⟨bt652.1, bt652.2.1⟩ : S32), bt652.2.2⟩ : S34), (⟨(⟨bt659.1, bt659.2.1⟩ : S32), bt659.2.2⟩ : S34)] : List (S34)))).bind fun bt669 => (if bt669.2.2.2 = 0 then ((rat_Of.f k 11).bind fun bt678 => ((rat_Same.f k bt669.1 bt669.2.1 bt669.2.2.1 bt678.1 bt678.2.1 bt678.2.2).bind fun t685 => (if t685 = true then ((rat_Of.f k 0).bind fun bt686 => ((rat_Of.f k 5).bind fun bt693 => ((vect_Lead.f k (([(⟨(⟨bt686.1, bt686.2.1⟩ : S32), bt686.2.2⟩ : S34), (⟨(⟨bt693.1, bt693.2.1⟩ : S32), bt693.2.2⟩ : S34)] : List (S34)))).bind fun t703 => (some (t703 == 1))))) else (some false)))) else (some false))))))) = some r := h
 clear h
 replace H := Option.bind_eq_some_iff.mp H
 obtain ⟨⟨t635, t636, t639⟩, A10, H⟩ := H
 replace H : ((rat_Of.f k 2).bind fun bt642 => ((rat_Of.f k 3).bind fun bt652 => ((rat_Of.f k 4).bind fun bt659 => ((vect_Dot.f k (([(⟨(⟨t635, t636⟩ : S32), t639⟩ : S34), (⟨(⟨bt642.1, bt642.2.1⟩ : S32), bt642.2.2⟩ : S34)] : List (S34))) (([(⟨(⟨bt652.1, bt652.2.1⟩ : S32), bt652.2.2⟩ : S34), (⟨(⟨bt659.1, bt659.2.1⟩ : S32), bt659.2.2⟩ : S34)] : List (S34)))).bind fun bt669 => (if bt669.2.2.2 = 0 then ((rat_Of.f k 11).bind fun bt678 => ((rat_Same.f k bt669.1 bt669.2.1 bt669.2.2.1 bt678.1 bt678.2.1 bt678.2.2).bind fun t685 => (if t685 = true then ((rat_Of.f k 0).bind fun bt686 => ((rat_Of.f k 5).bind fun bt693 => ((vect_Lead.f k (([(⟨(⟨bt686.1, bt686.2.1⟩ : S32), bt686.2.2⟩ : S34), (⟨(⟨bt693.1, bt693.2.1⟩ : S32), bt693.2.2⟩ : S34)] : List (S34)))).bind fun t703 => (some (t703 == 1))))) else (some false)))) else (some false)))))) = some r := H
 have A1 := Aside0.mk A10
 clear A10
 replace H := Option.bind_eq_some_iff.mp H
 obtain ⟨⟨t642, t643, t646⟩, A20, H⟩ := H
 replace H : ((rat_Of.f k 3).bind fun bt652 => ((rat_Of.f k 4).bind fun bt659 => ((vect_Dot.f k (([(⟨(⟨t635, t636⟩ : S32), t639⟩ : S34), (⟨(⟨t642, t643⟩ : S32), t646⟩ : S34)] : List (S34))) (([(⟨(⟨bt652.1, bt652.2.1⟩ : S32), bt652.2.2⟩ : S34), (⟨(⟨bt659.1, bt659.2.1⟩ : S32), bt659.2.2⟩ : S34)] : List (S34)))).bind fun bt669 => (if bt669.2.2.2 = 0 then ((rat_Of.f k 11).bind fun bt678 => ((rat_Same.f k bt669.1 bt669.2.1 bt669.2.2.1 bt678.1 bt678.2.1 bt678.2.2).bind fun t685 => (if t685 = true then ((rat_Of.f k 0).bind fun bt686 => ((rat_Of.f k 5).bind fun bt693 => ((vect_Lead.f k (([(⟨(⟨bt686.1, bt686.2.1⟩ : S32), bt686.2.2⟩ : S34), (⟨(⟨bt693.1, bt693.2.1⟩ : S32), bt693.2.2⟩ : S34)] : List (S34)))).bind fun t703 => (some (t703 == 1))))) else (some false)))) else (some false))))) = some r := H
 have A2 := Aside0.mk A20
 clear A20
 obtain ⟨y649, hy649⟩ : ∃ y_ : List (S34), y_ = (([(⟨(⟨t635, t636⟩ : S32), t639⟩ : S34), (⟨(⟨t642, t643⟩ : S32), t646⟩ : S34)] : List (S34))) := ⟨_, rfl⟩
 replace H : ((rat_Of.f k 3).bind fun bt652 => ((rat_Of.f k 4).bind fun bt659 => ((vect_Dot.f k y649 (([(⟨(⟨bt652.1, bt652.2.1⟩ : S32), bt652.2.2⟩ : S34), (⟨(⟨bt659.1, bt659.2.1⟩ : S32), bt659.2.2⟩ : S34)] : List (S34)))).bind fun bt669 => (if bt669.2.2.2 = 0 then ((rat_Of.f k 11).bind fun bt678 => ((rat_Same.f k bt669.1 bt669.2.1 bt669.2.2.1 bt678.1 bt678.2.1 bt678.2.2).bind fun t685 => (if t685 = true then ((rat_Of.f k 0).bind fun bt686 => ((rat_Of.f k 5).bind fun bt693 => ((vect_Lead.f k (([(⟨(⟨bt686.1, bt686.2.1⟩ : S32), bt686.2.2⟩ : S34), (⟨(⟨bt693.1, bt693.2.1⟩ : S32), bt693.2.2⟩ : S34)] : List (S34)))).bind fun t703 => (some (t703 == 1))))) else (some false)))) else (some false))))) = some r := by first | (rw [hy649]; with_reducible exact H) | (have H2_ := (Option.bind_some _ _).symm.trans H; rw [hy649]; with_reducible exact H2_) | (have H2_ := (Option.bind_some _ _).symm.trans H; with_reducible exact H2_) | with_reducible exact H | (rw [hy649]; exact H) | exact H
 have Ny649 := Aside0.mk hy649
 clear hy649
 replace H := Option.bind_eq_some_iff.mp H
 obtain ⟨⟨t652, t653, t656⟩, A30, H⟩ := H
 replace H : ((rat_Of.f k 4).bind fun bt659 => ((vect_Dot.f k y649 (([(⟨(⟨t652, t653⟩ : S32), t656⟩ : S34), (⟨(⟨bt659.1, bt659.2.1⟩ : S32), bt659.2.2⟩ : S34)] : List (S34)))).bind fun bt669 => (if bt669.2.2.2 = 0 then ((rat_Of.f k 11).bind fun bt678 => ((rat_Same.f k bt669.1 bt669.2.1 bt669.2.2.1 bt678.1 bt678.2.1 bt678.2.2).bind fun t685 => (if t685 = true then ((rat_Of.f k 0).bind fun bt686 => ((rat_Of.f k 5).bind fun bt693 => ((vect_Lead.f k (([(⟨(⟨bt686.1, bt686.2.1⟩ : S32), bt686.2.2⟩ : S34), (⟨(⟨bt693.1, bt693.2.1⟩ : S32), bt693.2.2⟩ : S34)] : List (S34)))).bind fun t703 => (some (t703 == 1))))) else (some false)))) else (some false)))) = some r := H
 have A3 := Aside0.mk A30
 clear A30
 replace H := Option.bind_eq_some_iff.mp H
 obtain ⟨⟨t659, t660, t663⟩, A40, H⟩ := H
 replace H : ((vect_Dot.f k y649 (([(⟨(⟨t652, t653⟩ : S32), t656⟩ : S34), (⟨(⟨t659, t660⟩ : S32), t663⟩ : S34)] : List (S34)))).bind fun bt669 => (if bt669.2.2.2 = 0 then ((rat_Of.f k 11).bind fun bt678 => ((rat_Same.f k bt669.1 bt669.2.1 bt669.2.2.1 bt678.1 bt678.2.1 bt678.2.2).bind fun t685 => (if t685 = true then ((rat_Of.f k 0).bind fun bt686 => ((rat_Of.f k 5).bind fun bt693 => ((vect_Lead.f k (([(⟨(⟨bt686.1, bt686.2.1⟩ : S32), bt686.2.2⟩ : S34), (⟨(⟨bt693.1, bt693.2.1⟩ : S32), bt693.2.2⟩ : S34)] : List (S34)))).bind fun t703 => (some (t703 == 1))))) else (some false)))) else (some false))) = some r := H
 have A4 := Aside0.mk A40
 clear A40
 obtain ⟨y666, hy666⟩ : ∃ y_ : List (S34), y_ = (([(⟨(⟨t652, t653⟩ : S32), t656⟩ : S34), (⟨(⟨t659, t660⟩ : S32), t663⟩ : S34)] : List (S34))) := ⟨_, rfl⟩
 replace H : ((vect_Dot.f k y649 y666).bind fun bt669 => (if bt669.2.2.2 = 0 then ((rat_Of.f k 11).bind fun bt678 => ((rat_Same.f k bt669.1 bt669.2.1 bt669.2.2.1 bt678.1 bt678.2.1 bt678.2.2).bind fun t685 => (if t685 = true then ((rat_Of.f k 0).bind fun bt686 => ((rat_Of.f k 5).bind fun bt693 => ((vect_Lead.f k (([(⟨(⟨bt686.1, bt686.2.1⟩ : S32), bt686.2.2⟩ : S34), (⟨(⟨bt693.1, bt693.2.1⟩ : S32), bt693.2.2⟩ : S34)] : List (S34)))).bind fun t703 => (some (t703 == 1))))) else (some false)))) else (some false))) = some r := by first | (rw [hy666]; with_reducible exact H) | (have H2_ := (Option.bind_some _ _).symm.trans H; rw [hy666]; with_reducible exact H2_) | (have H2_ := (Option.bind_some _ _).symm.trans H; with_reducible exact H2_) | with_reducible exact H | (rw [hy666]; exact H) | exact H
 have Ny666 := Aside0.mk hy666
 clear hy666
 replace H := Option.bind_eq_some_iff.mp H
 obtain ⟨⟨t669, t670, t673, t676⟩, A50, H⟩ := H
 replace H : (if t676 = 0 then ((rat_Of.f k 11).bind fun bt678 => ((rat_Same.f k t669 t670 t673 bt678.1 bt678.2.1 bt678.2.2).bind fun t685 => (if t685 = true then ((rat_Of.f k 0).bind fun bt686 => ((rat_Of.f k 5).bind fun bt693 => ((vect_Lead.f k (([(⟨(⟨bt686.1, bt686.2.1⟩ : S32), bt686.2.2⟩ : S34), (⟨(⟨bt693.1, bt693.2.1⟩ : S32), bt693.2.2⟩ : S34)] : List (S34)))).bind fun t703 => (some (t703 == 1))))) else (some false)))) else (some false)) = some r := H
 have A5 := Aside0.mk A50
 clear A50
 by_cases c6 : t676 = 0
 ·
  rw [if_pos c6] at H
  have c6b0 : (t676 == 0) = true := beq_iff_eq.mpr c6
  have c6b1 : (t676 != 0) = false := bne_eq_false_iff_eq.mpr c6
  clear c6
  replace H := Option.bind_eq_some_iff.mp H
  obtain ⟨⟨t678, t679, t682⟩, A70, H⟩ := H
  replace H : ((rat_Same.f k t669 t670 t673 t678 t679 t682).bind fun t685 => (if t685 = true then ((rat_Of.f k 0).bind fun bt686 => ((rat_Of.f k 5).bind fun bt693 => ((vect_Lead.f k (([(⟨(⟨bt686.1, bt686.2.1⟩ : S32), bt686.2.2⟩ : S34), (⟨(⟨bt693.1, bt693.2.1⟩ : S32), bt693.2.2⟩ : S34)] : List (S34)))).bind fun t703 => (some (t703 == 1))))) else (some false))) = some r := H
  have A7 := Aside0.mk A70
  clear A70
  replace H := Option.bind_eq_some_iff.mp H
  obtain ⟨t685, A80, H⟩ := H
  replace H : (if t685 = true then ((rat_Of.f k 0).bind fun bt686 => ((rat_Of.f k 5).bind fun bt693 => ((vect_Lead.f k (([(⟨(⟨bt686.1, bt686.2.1⟩ : S32), bt686.2.2⟩ : S34), (⟨(⟨bt693.1, bt693.2.1⟩ : S32), bt693.2.2⟩ : S34)] : List (S34)))).bind fun t703 => (some (t703 == 1))))) else (some false)) = some r := H
  have A8 := Aside0.mk A80
  clear A80
  by_cases c9 : t685 = true
  ·
   subst c9
   have H1 : ((rat_Of.f k 0).bind fun bt686 => ((rat_Of.f k 5).bind fun bt693 => ((vect_Lead.f k (([(⟨(⟨bt686.1, bt686.2.1⟩ : S32), bt686.2.2⟩ : S34), (⟨(⟨bt693.1, bt693.2.1⟩ : S32), bt693.2.2⟩ : S34)] : List (S34)))).bind fun t703 => (some (t703 == 1))))) = some r := by rw [if_pos rfl] at H; exact H
   clear H
   have H := H1
   clear H1
   replace H := Option.bind_eq_some_iff.mp H
   obtain ⟨⟨t686, t687, t690⟩, A100, H⟩ := H
   replace H : ((rat_Of.f k 5).bind fun bt693 => ((vect_Lead.f k (([(⟨(⟨t686, t687⟩ : S32), t690⟩ : S34), (⟨(⟨bt693.1, bt693.2.1⟩ : S32), bt693.2.2⟩ : S34)] : List (S34)))).bind fun t703 => (some (t703 == 1)))) = some r := H
   have A10 := Aside0.mk A100
   clear A100
   replace H := Option.bind_eq_some_iff.mp H
   obtain ⟨⟨t693, t694, t697⟩, A110, H⟩ := H
   replace H : ((vect_Lead.f k (([(⟨(⟨t686, t687⟩ : S32), t690⟩ : S34), (⟨(⟨t693, t694⟩ : S32), t697⟩ : S34)] : List (S34)))).bind fun t703 => (some (t703 == 1))) = some r := H
   have A11 := Aside0.mk A110
   clear A110
   obtain ⟨y700, hy700⟩ : ∃ y_ : List (S34), y_ = (([(⟨(⟨t686, t687⟩ : S32), t690⟩ : S34), (⟨(⟨t693, t694⟩ : S32), t697⟩ : S34)] : List (S34))) := ⟨_, rfl⟩
   replace H : ((vect_Lead.f k y700).bind fun t703 => (some (t703 == 1))) = some r := by first | (rw [hy700]; with_reducible exact H) | (have H2_ := (Option.bind_some _ _).symm.trans H; rw [hy700]; with_reducible exact H2_) | (have H2_ := (Option.bind_some _ _).symm.trans H; with_reducible exact H2_) | with_reducible exact H | (rw [hy700]; exact H) | exact H
   have Ny700 := Aside0.mk hy700
   clear hy700
   replace H := Option.bind_eq_some_iff.mp H
   obtain ⟨t703, A120, H⟩ := H
   replace H : (some (t703 == 1)) = some r := H
   have A12 := Aside0.mk A120
   clear A120
   obtain rfl := Option.some.inj H
   go_enter Try.func11, Try.ntmps11
   try go_wp2_with (first | ((with_reducible refine gate_callee (f := 13) rfl ?_); refine goesx (some 4) Try.func13 #[.int .i64 1] ?_; (with_reducible refine (rat_Of.calls k 1 t635 t636 t639 _ A1.out).mono ?_); rintro e w13 ⟨v637, v640, rfl, ho0, ho1, hb⟩; refine ⟨_, rfl, ?_⟩; have HO638 := Aside0.mk (Kd.R_lower ho0 (below_size (Bx HB.out))); have HO641 := Aside0.mk (Kd.R_lower ho1 (below_size (Bx HB.out))); replace HB := Aside0.mk (below_step (Bx HB.out) hb); (try clear hb); (try clear hb2); (try clear hk); (try clear hi); (try clear ho0); (try clear ho1)) | ((with_reducible refine gate_callee (f := 13) rfl ?_); refine goesx (some 5) Try.func13 #[.int .i64 2] ?_; (with_reducible refine (rat_Of.calls k 2 t642 t643 t646 _ A2.out).mono ?_); rintro e w14 ⟨v644, v647, rfl, ho0, ho1, hb⟩; refine ⟨_, rfl, ?_⟩; have HO645 := Aside0.mk (Kd.R_lower (Kd.R_new' (Kd.R_new' ho0 (Kd.R_lt (Kd.Rx HO638.out))) (Kd.R_lt (Kd.Rx HO641.out))) (below_size (Bx HB.out))); have HO648 := Aside0.mk (Kd.R_lower (Kd.R_new' (Kd.R_new' ho1 (Kd.R_lt (Kd.Rx HO638.out))) (Kd.R_lt (Kd.Rx HO641.out))) (below_size (Bx HB.out))); replace HO638 := Aside0.mk (Kd.R_mono (Kd.R_told (Kd.R_told (Kd.R_old (Kd.Rx HO638.out) hb) (Kd.R_base ho0)) (Kd.R_base ho1)) (fun _ h_ => h_.1)); replace HO641 := Aside0.mk (Kd.R_mono (Kd.R_told (Kd.R_told (Kd.R_old (Kd.Rx HO641.out) hb) (Kd.R_base ho0)) (Kd.R_base ho1)) (fun _ h_ => h_.1)); replace HB := Aside0.mk (below_step (Bx HB.out) hb); (try clear hb); (try clear hb2); (try clear hk); (try clear hi); (try clear ho0); (try clear ho1); obtain ⟨Ao15, co15, eo15⟩ := Kd.R_slice HO638.out; subst eo15; obtain ⟨Ao16, co16, eo16⟩ := Kd.R_slice HO641.out; subst eo16; obtain ⟨Ao17, co17, eo17⟩ := Kd.R_slice HO645.out; subst eo17; obtain ⟨Ao18, co18, eo18⟩ := Kd.R_slice HO648.out; subst eo18) | ((with_reducible refine gate_dst (N := 6) rfl ?_); (try (refine gate_guard (by rfl) ?_; dsimp only)); refine Kd.N_lit k34 _ 34 ?hg (N' := 6) ?hd (xs := ([(⟨(⟨t635, t636⟩ : S32), t639⟩ : S34), (⟨(⟨t642, t643⟩ : S32), t646⟩ : S34)] : List (S34))) (inner := [.bool t635, .slice Ao15 t636.length co15, .slice Ao16 t639.length co16, .bool t642, .slice Ao17 t643.length co17, .slice Ao18 t646.length co18]) (ok := (fun _ => True)) (okp := (fun _ => True)) ?hr ?hp (fun _ hk => hk) ((show ∀ k_, w14.heap.size ≤ k_ → (fun _ => True) k_ from fun k_ hk => trivial) _ (Nat.le_refl _)) (Below.refl _ _) (Nat.le_refl _) (by simp) ?_; (case hd => rfl); (case hg => rfl); (case hr => first | (go_simp; done) | (go_simp; rfl)); (case hp => exact (Reps.c3 (show Kd.FK k34 _ _ (⟨(⟨t635, t636⟩ : S32), t639⟩ : S34) [.bool t635, .slice Ao15 t636.length co15, .slice Ao16 t639.length co16] from (k34_mkF _ _ (⟨(⟨t635, t636⟩ : S32), t639⟩ : S34) (Kd.R_reads' (Kd.R_mono (ok' := (fun _ => True)) (HO638.out) (fun k_ hk => trivial))).2.1 (Kd.R_F (Kd.R_mono (ok' := (fun _ => True)) (HO638.out) (fun k_ hk => trivial))) (Kd.R_reads' (Kd.R_mono (ok' := (fun _ => True)) (HO641.out) (fun k_ hk => trivial))).2.1 (Kd.R_F (Kd.R_mono (ok' := (fun _ => True)) (HO641.out) (fun k_ hk => trivial))))) (Reps.c3 (show Kd.FK k34 _ _ (⟨(⟨t642, t643⟩ : S32), t646⟩ : S34) [.bool t642, .slice Ao17 t643.length co17, .slice Ao18 t646.length co18] from (k34_mkF _ _ (⟨(⟨t642, t643⟩ : S32), t646⟩ : S34) (Kd.R_reads' (Kd.R_mono (ok' := (fun _ => True)) (HO645.out) (fun k_ hk => trivial))).2.1 (Kd.R_F (Kd.R_mono (ok' := (fun _ => True)) (HO645.out) (fun k_ hk => trivial))) (Kd.R_reads' (Kd.R_mono (ok' := (fun _ => True)) (HO648.out) (fun k_ hk => trivial))).2.1 (Kd.R_F (Kd.R_mono (ok' := (fun _ => True)) (HO648.out) (fun k_ hk => trivial))))) (Reps.none _ _)))); intro v650 w19 ho20 hb hg_ hnew_; clear hg_ hnew_; (first | rw [← Ny649.out] at ho20 | (simp only [Int.reduceToNat] at ho20; rw [← Ny649.out] at ho20)); have HO651 := Aside0.mk (Kd.N_lower ho20 (below_size (Bx HB.out))); replace HB := Aside0.mk (below_step (Bx HB.out) hb); clear HO638 HO641 HO645 HO648; clear hb ho20) | ((with_reducible refine gate_callee (f := 13) rfl ?_); refine goesx (some 7) Try.func13 #[.int .i64 3] ?_; (with_reducible refine (rat_Of.calls k 3 t652 t653 t656 _ A3.out).mono ?_); rintro e w21 ⟨v654, v657, rfl, ho0, ho1, hb⟩; refine ⟨_, rfl, ?_⟩; replace HO651 := Aside0.mk (Kd.N_mono (Kd.N_told (Kd.N_told (Kd.N_old (by (with_reducible repeat (first | apply Kd.N_alloc | apply Kd.N_drewN | apply Kd.N_drew)); exact HO651.out) hb) (Kd.R_base ho0)) (Kd.R_base ho1)) (fun _ h_ => h_.1)); have HO655 := Aside0.mk (Kd.R_lower ho0 (below_size (Bx HB.out))); have HO658 := Aside0.mk (Kd.R_lower ho1 (below_size (Bx HB.out))); replace HB := Aside0.mk (below_step (Bx HB.out) hb); (try clear hb); (try clear hb2); (try clear hk); (try clear hi); (try clear ho0); (try clear ho1)) | ((with_reducible refine gate_callee (f := 13) rfl ?_); refine goesx (some 8) Try.func13 #[.int .i64 4] ?_; (with_reducible refine (rat_Of.calls k 4 t659 t660 t663 _ A4.out).mono ?_); rintro e w22 ⟨v661, v664, rfl, ho0, ho1, hb⟩; refine ⟨_, rfl, ?_⟩; replace HO651 := Aside0.mk (Kd.N_mono (Kd.N_told (Kd.N_told (Kd.N_old (by (with_reducible repeat (first | apply Kd.N_alloc | apply Kd.N_drewN | apply Kd.N_drew)); exact HO651.out) hb) (Kd.R_base ho0)) (Kd.R_base ho1)) (fun _ h_ => h_.1)); have HO662 := Aside0.mk (Kd.R_lower (Kd.R_new' (Kd.R_new' ho0 (Kd.R_lt (Kd.Rx HO655.out))) (Kd.R_lt (Kd.Rx HO658.out))) (below_size (Bx HB.out))); have HO665 := Aside0.mk (Kd.R_lower (Kd.R_new' (Kd.R_new' ho1 (Kd.R_lt (Kd.Rx HO655.out))) (Kd.R_lt (Kd.Rx HO658.out))) (below_size (Bx HB.out))); replace HO655 := Aside0.mk (Kd.R_mono (Kd.R_told (Kd.R_told (Kd.R_old (Kd.Rx HO655.out) hb) (Kd.R_base ho0)) (Kd.R_base ho1)) (fun _ h_ => h_.1)); replace HO658 := Aside0.mk (Kd.R_mono (Kd.R_told (Kd.R_told (Kd.R_old (Kd.Rx HO658.out) hb) (Kd.R_base ho0)) (Kd.R_base ho1)) (fun _ h_ => h_.1)); replace HB := Aside0.mk (below_step (Bx HB.out) hb); (try clear hb); (try clear hb2); (try clear hk); (try clear hi); (try clear ho0); (try clear ho1); obtain ⟨Ao23, co23, eo23⟩ := Kd.R_slice HO655.out; subst eo23; obtain ⟨Ao24, co24, eo24⟩ := Kd.R_slice HO658.out; subst eo24; obtain ⟨Ao25, co25, eo25⟩ := Kd.R_slice HO662.out; subst eo25; obtain ⟨Ao26, co26, eo26⟩ := Kd.R_slice HO665.out; subst eo26) | ((with_reducible refine gate_dst (N := 9) rfl ?_); (try (refine gate_guard (by rfl) ?_; dsimp only)); refine Kd.N_lit k34 _ 34 ?hg (N' := 9) ?hd (xs := ([(⟨(⟨t652, t653⟩ : S32), t656⟩ : S34), (⟨(⟨t659, t660⟩ : S32), t663⟩ : S34)] : List (S34))) (inner := [.bool t652, .slice Ao23 t653.length co23, .slice Ao24 t656.length co24, .bool t659, .slice Ao25 t660.length co25, .slice Ao26 t663.length co26]) (ok := (fun k_ => nb k_ v650)) (okp := (fun k_ => nb k_ v650)) ?hr ?hp (fun _ hk => hk) ((show ∀ k_, w22.heap.size ≤ k_ → (fun k_ => nb k_ v650) k_ from fun k_ hk => Kd.fresh' (Kd.N_lt (by (with_reducible repeat (first | apply Kd.N_alloc | apply Kd.N_drewN | apply Kd.N_drew)); exact HO651.out)) k_ hk) _ (Nat.le_refl _)) (Below.refl _ _) (Nat.le_refl _) (by simp) ?_; (case hd => rfl); (case hg => rfl); (case hr => first | (go_simp; done) | (go_simp; rfl)); (case hp => exact (Reps.c3 (show Kd.FK k34 _ _ (⟨(⟨t652, t653⟩ : S32), t656⟩ : S34) [.bool t652, .slice Ao23 t653.length co23, .slice Ao24 t656.length co24] from (k34_mkF _ _ (⟨(⟨t652, t653⟩ : S32), t656⟩ : S34) (Kd.R_reads' (Kd.R_mono (ok' := (fun k_ => nb k_ v650)) (Kd.R_apart' (HO655.out) (Kd.N_typed HO651.out) (by decide)) (fun k_ hk => hk.2))).2.1 (Kd.R_F (Kd.R_mono (ok' := (fun k_ => nb k_ v650)) (Kd.R_apart' (HO655.out) (Kd.N_typed HO651.out) (by decide)) (fun k_ hk => hk.2))) (Kd.R_reads' (Kd.R_mono (ok' := (fun k_ => nb k_ v650)) (Kd.R_apart' (HO658.out) (Kd.N_typed HO651.out) (by decide)) (fun k_ hk => hk.2))).2.1 (Kd.R_F (Kd.R_mono (ok' := (fun k_ => nb k_ v650)) (Kd.R_apart' (HO658.out) (Kd.N_typed HO651.out) (by decide)) (fun k_ hk => hk.2))))) (Reps.c3 (show Kd.FK k34 _ _ (⟨(⟨t659, t660⟩ : S32), t663⟩ : S34) [.bool t659, .slice Ao25 t660.length co25, .slice Ao26 t663.length co26] from (k34_mkF _ _ (⟨(⟨t659, t660⟩ : S32), t663⟩ : S34) (Kd.R_reads' (Kd.R_mono (ok' := (fun k_ => nb k_ v650)) (Kd.R_apart' (HO662.out) (Kd.N_typed HO651.out) (by decide)) (fun k_ hk => hk.2))).2.1 (Kd.R_F (Kd.R_mono (ok' := (fun k_ => nb k_ v650)) (Kd.R_apart' (HO662.out) (Kd.N_typed HO651.out) (by decide)) (fun k_ hk => hk.2))) (Kd.R_reads' (Kd.R_mono (ok' := (fun k_ => nb k_ v650)) (Kd.R_apart' (HO665.out) (Kd.N_typed HO651.out) (by decide)) (fun k_ hk => hk.2))).2.1 (Kd.R_F (Kd.R_mono (ok' := (fun k_ => nb k_ v650)) (Kd.R_apart' (HO665.out) (Kd.N_typed HO651.out) (by decide)) (fun k_ hk => hk.2))))) (Reps.none _ _)))); intro v667 w27 ho28 hb hg_ hnew_; clear hg_ hnew_; (first | rw [← Ny666.out] at ho28 | (simp only [Int.reduceToNat] at ho28; rw [← Ny666.out] at ho28)); replace HO651 := Aside0.mk (Kd.N_elder' (by (with_reducible repeat (first | apply Kd.N_alloc | apply Kd.N_drewN | apply Kd.N_drew)); exact HO651.out) (Kd.N_base ho28) hb); have HO668 := Aside0.mk (Kd.N_lower ho28 (below_size (Bx HB.out))); replace HB := Aside0.mk (below_step (Bx HB.out) hb); clear HO655 HO658 HO662 HO665; clear hb ho28; obtain ⟨Ao29, co29, eo29⟩ := Kd.N_slice HO651.out; subst eo29; obtain ⟨Ao30, co30, eo30⟩ := Kd.N_slice HO668.out; subst eo30) | ((with_reducible refine gate_callee (f := 19) rfl ?_); refine goesx (some 10) Try.func19 #[.slice Ao29 y649.length co29, .slice Ao30 y666.length co30] ?_; (with_reducible refine (vect_Dot.calls k _ _ y649 _ _ y666 t669 t670 t673 t676 _ ?side1 ?side2 ?side3 ?side4 A5.out).mono ?_); (case side1 => exact Kd.Cx (Kd.N_reads' HO651.out).2.2); (case side2 => exact (Kd.N_reads' HO651.out).2.1); (case side3 => exact Kd.Cx (Kd.N_reads' HO668.out).2.2); (case side4 => exact (Kd.N_reads' HO668.out).2.1); rintro e w31 ⟨v671, v674, rfl, ho0, ho1, hb⟩; refine ⟨_, rfl, ?_⟩; replace HO651 := Aside0.mk (Kd.N_mono (Kd.N_told (Kd.N_told (Kd.N_old (by (with_reducible repeat (first | apply Kd.N_alloc | apply Kd.N_drewN | apply Kd.N_drew)); exact HO651.out) hb) (Kd.R_base ho0)) (Kd.R_base ho1)) (fun _ h_ => h_.1)); replace HO668 := Aside0.mk (Kd.N_mono (Kd.N_told (Kd.N_told (Kd.N_old (by (with_reducible repeat (first | apply Kd.N_alloc | apply Kd.N_drewN | apply Kd.N_drew)); exact HO668.out) hb) (Kd.R_base ho0)) (Kd.R_base ho1)) (fun _ h_ => h_.1)); have HO672 := Aside0.mk (Kd.R_lower ho0 (below_size (Bx HB.out))); have HO675 := Aside0.mk (Kd.R_lower ho1 (below_size (Bx HB.out))); replace HB := Aside0.mk (below_step (Bx HB.out) hb); (try clear hb); (try clear hb2); (try clear hk); (try clear hi); (try clear ho0); (try clear ho1)) | ((with_reducible refine gate_dst (N := 1) rfl ?_); (try (refine gate_guard (by rfl) ?_; dsimp only)); refine box_event ?hg (N := 1) ?hd (cs := #[.bool false, .slice none 0 0, .slice none 0 0]) (t := 34) ?hr ?_; (case hd => rfl); (case hg => rfl); (case hr => first | (go_simp; done) | (go_simp; rfl)); intro gb677 hg w32 hbox hb; replace HO651 := Aside0.mk (Kd.N_below (Kd.N_elderB (by (with_reducible repeat (first | apply Kd.N_alloc | apply Kd.N_drewN | apply Kd.N_drew)); exact HO651.out) gb677 (Nat.le_of_eq hg.symm)) hb); replace HO668 := Aside0.mk (Kd.N_below (Kd.N_elderB (by (with_reducible repeat (first | apply Kd.N_alloc | apply Kd.N_drewN | apply Kd.N_drew)); exact HO668.out) gb677 (Nat.le_of_eq hg.symm)) hb); replace HO672 := Aside0.mk (Kd.R_below (Kd.Rx HO672.out) hb); replace HO675 := Aside0.mk (Kd.R_below (Kd.Rx HO675.out) hb); have BK677 := Aside0.mk (hbox); have GW677 := Aside0.mk ((by rw [hg]; exact (below_size (Bx HB.out)) : w.heap.size ≤ gb677)); have GE677 := Aside0.mk ((by rw [hg]; exact (below_size (Bx HB.out)) : w.heap.size ≤ gb677)); replace HB := Aside0.mk (below_step (Bx HB.out) hb); clear hb hbox hg; have hcz33_0 : w32.cell? ⟨gb677, 0, none⟩ = some (.bool false) := (blk_cell BK677.out 0).trans rfl; have hcz33_1 : w32.cell? ⟨gb677, 1, none⟩ = some (.slice none 0 0) := (blk_cell BK677.out 1).trans rfl; have hcz33_2 : w32.cell? ⟨gb677, 2, none⟩ = some (.slice none 0 0) := (blk_cell BK677.out 2).trans rfl; have hfz33_0 := blk_frozen BK677.out 0; have hfz33_1 := blk_frozen BK677.out 1; have hfz33_2 := blk_frozen BK677.out 2; obtain ⟨Ao34, co34, eo34⟩ := Kd.R_slice HO672.out; subst eo34; obtain ⟨Ao35, co35, eo35⟩ := Kd.R_slice HO675.out; subst eo35))
   have n0_ : Aside0 (Kd.N k34 34 (((w32.setCell ⟨gb677, 0, none⟩ (.bool t669)).setCell ⟨gb677, 1, none⟩ (.slice Ao34 t670.length co34)).setCell ⟨gb677, 2, none⟩ (.slice Ao35 t673.length co35)) w.heap.size (fun k_ => nb k_ (.slice Ao30 y666.length co30) ∧ nb k_ (.slice Ao34 t670.length co34) ∧ nb k_ (.slice Ao35 t673.length co35) ∧ k_ ≠ gb677) (.slice Ao29 y649.length co29) y649) := ⟨by (with_reducible repeat (first | apply Kd.N_alloc | apply Kd.N_drewN | apply Kd.N_drew)); exact Kd.N_mono (Kd.N_far (p := ⟨gb677, 2, none⟩) (Kd.N_far (p := ⟨gb677, 1, none⟩) (Kd.N_far (p := ⟨gb677, 0, none⟩) (Kd.N_mono HO651.out (fun k_ hk => (⟨hk, hk.2⟩ : _ ∧ k_ ≠ gb677))) (fun _ hk => hk.2) (.bool t669)) (fun _ hk => hk.2) (.slice Ao34 t670.length co34)) (fun _ hk => hk.2) (.slice Ao35 t673.length co35)) (fun _ hk => ⟨hk.1.1.1.1.2, ⟨hk.1.1.1.2, ⟨hk.1.1.2, hk.1.2⟩⟩⟩)⟩
   have n1_ : Aside0 (Kd.N k34 34 (((w32.setCell ⟨gb677, 0, none⟩ (.bool t669)).setCell ⟨gb677, 1, none⟩ (.slice Ao34 t670.length co34)).setCell ⟨gb677, 2, none⟩ (.slice Ao35 t673.length co35)) w.heap.size (fun k_ => nb k_ (.slice Ao29 y649.length co29) ∧ nb k_ (.slice Ao34 t670.length co34) ∧ nb k_ (.slice Ao35 t673.length co35) ∧ k_ ≠ gb677) (.slice Ao30 y666.length co30) y666) := ⟨by (with_reducible repeat (first | apply Kd.N_alloc | apply Kd.N_drewN | apply Kd.N_drew)); exact Kd.N_mono (Kd.N_far (p := ⟨gb677, 2, none⟩) (Kd.N_far (p := ⟨gb677, 1, none⟩) (Kd.N_far (p := ⟨gb677, 0, none⟩) (Kd.N_mono HO668.out (fun k_ hk => (⟨hk, hk.2⟩ : _ ∧ k_ ≠ gb677))) (fun _ hk => hk.2) (.bool t669)) (fun _ hk => hk.2) (.slice Ao34 t670.length co34)) (fun _ hk => hk.2) (.slice Ao35 t673.length co35)) (fun _ hk => ⟨hk.1.1.1.1, ⟨hk.1.1.1.2, ⟨hk.1.1.2, hk.1.2⟩⟩⟩)⟩
   have n2_ : Aside0 (Kd.R (Kd.int .u64) 96 (((w32.setCell ⟨gb677, 0, none⟩ (.bool t669)).setCell ⟨gb677, 1, none⟩ (.slice Ao34 t670.length co34)).setCell ⟨gb677, 2, none⟩ (.slice Ao35 t673.length co35)) w.heap.size (fun k_ => nb k_ (.slice Ao35 t673.length co35)) (.slice Ao34 t670.length co34) t670) := ⟨by exact Kd.Rx (Kd.R_mono (Kd.R_far (p := ⟨gb677, 2, none⟩) (Kd.R_far (p := ⟨gb677, 1, none⟩) (Kd.R_far (p := ⟨gb677, 0, none⟩) (Kd.R_types HO672.out BK677.out (by decide)) (fun _ hk => hk.2) (.bool t669)) (fun _ hk => hk.2) (.slice Ao34 t670.length co34)) (fun _ hk => hk.2) (.slice Ao35 t673.length co35)) (fun _ hk => hk.1))⟩
   have n3_ : Aside0 (Kd.R (Kd.int .u64) 96 (((w32.setCell ⟨gb677, 0, none⟩ (.bool t669)).setCell ⟨gb677, 1, none⟩ (.slice Ao34 t670.length co34)).setCell ⟨gb677, 2, none⟩ (.slice Ao35 t673.length co35)) w.heap.size (fun k_ => nb k_ (.slice Ao34 t670.length co34)) (.slice Ao35 t673.length co35) t673) := ⟨by exact Kd.Rx (Kd.R_mono (Kd.R_far (p := ⟨gb677, 2, none⟩) (Kd.R_far (p := ⟨gb677, 1, none⟩) (Kd.R_far (p := ⟨gb677, 0, none⟩) (Kd.R_types HO675.out BK677.out (by decide)) (fun _ hk => hk.2) (.bool t669)) (fun _ hk => hk.2) (.slice Ao34 t670.length co34)) (fun _ hk => hk.2) (.slice Ao35 t673.length co35)) (fun _ hk => hk.1))⟩
   have n4_ : Aside0 ((((w32.setCell ⟨gb677, 0, none⟩ (.bool t669)).setCell ⟨gb677, 1, none⟩ (.slice Ao34 t670.length co34)).setCell ⟨gb677, 2, none⟩ (.slice Ao35 t673.length co35)).heap[gb677]? = some (.cells #[.bool t669, .slice Ao34 t670.length co34, .slice Ao35 t673.length co35] 34 (0, 0))) := ⟨by (with_reducible repeat (first | refine blk_drewN ?_ _ | refine blk_drew ?_ | refine blk_alloc ?_ _)); refine blk_put (cs := #[.bool t669, .slice Ao34 t670.length co34, .slice none 0 0]) ?_ 2 _ rfl; (with_reducible repeat (first | refine blk_drewN ?_ _ | refine blk_drew ?_ | refine blk_alloc ?_ _)); refine blk_put (cs := #[.bool t669, .slice none 0 0, .slice none 0 0]) ?_ 1 _ rfl; (with_reducible repeat (first | refine blk_drewN ?_ _ | refine blk_drew ?_ | refine blk_alloc ?_ _)); refine blk_put (cs := #[.bool false, .slice none 0 0, .slice none 0 0]) ?_ 0 _ rfl; (with_reducible repeat (first | refine blk_drewN ?_ _ | refine blk_drew ?_ | refine blk_alloc ?_ _)); exact BK677.out⟩
   have n5_ : Aside0 (Below w.heap.size w (((w32.setCell ⟨gb677, 0, none⟩ (.bool t669)).setCell ⟨gb677, 1, none⟩ (.slice Ao34 t670.length co34)).setCell ⟨gb677, 2, none⟩ (.slice Ao35 t673.length co35))) := ⟨Bs⟩
   (try clear HO651)
   (try clear HO668)
   (try clear HO672)
   (try clear HO675)
   (try clear BK677)
   (try clear HB)
   generalize (((w32.setCell ⟨gb677, 0, none⟩ (.bool t669)).setCell ⟨gb677, 1, none⟩ (.slice Ao34 t670.length co34)).setCell ⟨gb677, 2, none⟩ (.slice Ao35 t673.length co35)) = w36 at n0_ n1_ n2_ n3_ n4_ n5_ ⊢
   have HO651 := n0_
   have HO668 := n1_
   have HO672 := n2_
   have HO675 := n3_
   have BK677 := n4_
   have HB := n5_
   clear n0_ n1_ n2_ n3_ n4_ n5_
   replace HO651 := Aside0.mk (Kd.N_drew HO651.out)
   replace HO668 := Aside0.mk (Kd.N_drew HO668.out)
   replace HO672 := Aside0.mk (Kd.R_drew HO672.out)
   replace HO675 := Aside0.mk (Kd.R_drew HO675.out)
   replace BK677 := Aside0.mk (blk_drew BK677.out)
   replace HB := Aside0.mk (below_drew1 HB.out)
   refine start_ (n := 15) (S := fun w' => w'.cell? ⟨gb677, 0, none⟩ = some (.bool t669) ∧ w'.cell? ⟨gb677, 1, none⟩ = some (.slice Ao34 t670.length co34) ∧ w'.cell? ⟨gb677, 2, none⟩ = some (.slice Ao35 t673.length co35)) (ds := []) #[false, false, false, false, false, false, false, false, false, false, false, false, false, false, false] (by kernel_rfl) rfl rfl ⟨(blk_cell BK677.out 0).trans rfl, (blk_cell BK677.out 1).trans rfl, (blk_cell BK677.out 2).trans rfl⟩ (fun hHeld => ?_); refine with_tabW triviumlaw11_works.tab2 triviumlaw11_works.bits2 (fun HT_ HW_ => ?_)
   generalize w36.drew = w37 at HO651 HO668 HO672 HO675 BK677 HB hHeld ⊢
   refine pure_ (i := 0) (N := some 13) (v := ?_) (a' := ?_) #[true, false, false, false, false, false, false, false, false, false, false, false, false, false, false] rfl rfl (any_of HT_.out (by kernel_rfl)) (fun _ _ _ h => h) (Or.inl ⟨by rfl, ?_⟩) ?_ ?_
   rotate_left
   ·
    intro w'
    go_simp
    with_reducible rfl
   rotate_left
   ·
    simp only [Act.put, List.setIfInBounds_toArray, List.set_cons_zero, List.set_cons_succ, i64_w, i32_w]
    rfl
   refine pure_ (i := 1) (N := some 14) (v := ?_) (a' := ?_) #[true, true, false, false, false, false, false, false, false, false, false, false, false, false, false] rfl rfl (any_of HT_.out (by kernel_rfl)) (fun _ _ _ h => h) (Or.inl ⟨by rfl, ?_⟩) ?_ ?_
   rotate_left
   ·
    intro w'
    go_simp
    with_reducible rfl
   rotate_left
   ·
    simp only [Act.put, List.setIfInBounds_toArray, List.set_cons_zero, List.set_cons_succ, i64_w, i32_w]
    rfl
   refine pure_ (i := 2) (N := some 15) (v := ?_) (a' := ?_) #[true, true, true, false, false, false, false, false, false, false, false, false, false, false, false] rfl rfl (any_of HT_.out (by kernel_rfl)) (fun _ _ _ h => h) (Or.inl ⟨by rfl, ?_⟩) ?_ ?_
   rotate_left
   ·
    intro w'
    go_simp
    with_reducible rfl
   rotate_left
   ·
    simp only [Act.put, List.setIfInBounds_toArray, List.set_cons_zero, List.set_cons_succ, i64_w, i32_w]
    rfl
   refine take_ (i := 3) (N := some 16) (v := ?_) (a' := ?_) #[true, true, true, true, false, false, false, false, false, false, false, false, false, false, false] rfl rfl (take_ofW HT_.out HW_.out (by kernel_rfl)) (fun _ _ _ h => h) (Or.inl ⟨by rfl, ?_⟩) hHeld ?_ ?_
   rotate_left
   ·
    rintro w' ⟨s0, s1, s2⟩
    go_simp
    with_reducible rfl
   rotate_left
   ·
    simp only [Act.put, List.setIfInBounds_toArray, List.set_cons_zero, List.set_cons_succ, i64_w, i32_w]
    rfl
   refine one_ (i := 4) (N := some 17) #[true, true, true, true, true, false, false, false, false, false, false, false, false, false, false] rfl rfl (one_of HT_.out (by kernel_rfl)) (by decide) (fun K hK => ?_)
   refine goes_ Try.func13 (by kernel_rfl) rfl #[.int .i64 11] (by rfl) rfl rfl (by (try simp only [List.map_toArray, List.map_cons, List.map_nil]); first | done | rfl | (simp only [List.length_drop, List.length_take]; rfl)) ?_
   with_reducible refine (rat_Of.calls k 11 t678 t679 t682 _ A7.out).mono ?_
   rintro e w38 ⟨v680, v683, rfl, ho0, ho1, hb⟩
   refine ⟨_, rfl, ?_⟩
   replace HO651 := Aside0.mk (Kd.N_mono (Kd.N_told (Kd.N_told (Kd.N_old (by (with_reducible repeat (first | apply Kd.N_alloc | apply Kd.N_drewN | apply Kd.N_drew)); exact HO651.out) hb) (Kd.R_base ho0)) (Kd.R_base ho1)) (fun _ h_ => h_.1))
   replace HO668 := Aside0.mk (Kd.N_mono (Kd.N_told (Kd.N_told (Kd.N_old (by (with_reducible repeat (first | apply Kd.N_alloc | apply Kd.N_drewN | apply Kd.N_drew)); exact HO668.out) hb) (Kd.R_base ho0)) (Kd.R_base ho1)) (fun _ h_ => h_.1))
   have HO681 := Aside0.mk (Kd.R_lower (Kd.R_new' (Kd.R_new' ho0 (Kd.R_lt (Kd.Rx HO672.out))) (Kd.R_lt (Kd.Rx HO675.out))) (below_size (Bs)))
   have HO684 := Aside0.mk (Kd.R_lower (Kd.R_new' (Kd.R_new' ho1 (Kd.R_lt (Kd.Rx HO672.out))) (Kd.R_lt (Kd.Rx HO675.out))) (below_size (Bs)))
   replace HO672 := Aside0.mk (Kd.R_mono (Kd.R_told (Kd.R_told (Kd.R_old (Kd.Rx HO672.out) hb) (Kd.R_base ho0)) (Kd.R_base ho1)) (fun _ h_ => h_.1))
   replace HO675 := Aside0.mk (Kd.R_mono (Kd.R_told (Kd.R_told (Kd.R_old (Kd.Rx HO675.out) hb) (Kd.R_base ho0)) (Kd.R_base ho1)) (fun _ h_ => h_.1))
   replace BK677 := Aside0.mk (blk_below (Kx BK677.out) hb)
   replace HB := Aside0.mk (below_step (Bs) hb)
   (try clear hb)
   (try clear hb2)
   (try clear hk)
   (try clear hi)
   (try clear ho0)
   (try clear ho1)
   obtain ⟨Ao39, co39, eo39⟩ := Kd.R_slice HO681.out
   (first | subst eo39 | (injection eo39 with f1_ f2_ f3_; have f4_ := f1_.symm; have f5_ := f3_.symm; clear f1_ f2_ f3_; subst f4_; subst f5_))
   obtain ⟨Ao40, co40, eo40⟩ := Kd.R_slice HO684.out
   (first | subst eo40 | (injection eo40 with f1_ f2_ f3_; have f4_ := f1_.symm; have f5_ := f3_.symm; clear f1_ f2_ f3_; subst f4_; subst f5_))
   refine hK.out _ _ ⟨(blk_cell BK677.out 0).trans rfl, (blk_cell BK677.out 1).trans rfl, (blk_cell BK677.out 2).trans rfl⟩ (fun hHeld => ?_)
   clear hK K
   refine norm_ (a' := ?_) ?_ ?_
   rotate_left
   ·
    show Act.put _ (some 17) _ = _
    simp only [Act.put, List.setIfInBounds_toArray, List.set_cons_zero, List.set_cons_succ, i64_w, i32_w]
    rfl
   refine one_ (i := 5) (N := some 18) #[true, true, true, true, true, true, false, false, false, false, false, false, false, false, false] rfl rfl (one_of HT_.out (by kernel_rfl)) (by decide) (fun K hK => ?_)
   refine goes_ Try.func12 (by kernel_rfl) rfl #[.agg #[.bool t669, .slice Ao34 t670.length co34, .slice Ao35 t673.length co35], .agg #[.bool t678, .slice Ao39 t679.length co39, .slice Ao40 t682.length co40]] (by rfl) rfl rfl (by (try simp only [List.map_toArray, List.map_cons, List.map_nil]); first | done | rfl | (simp only [List.length_drop, List.length_take]; rfl)) ?_
   with_reducible refine (rat_Same.calls k t669 _ _ t670 _ _ t673 t678 _ _ t679 _ _ t682 true _ ?side1 ?side2 ?side3 ?side4 ?side5 ?side6 ?side7 ?side8 A8.out).mono ?_
   (case side1 => exact Kd.Cx (Kd.R_reads' HO672.out).2.2)
   (case side2 => exact (Kd.R_reads' HO672.out).2.1)
   (case side3 => exact Kd.Cx (Kd.R_reads' HO675.out).2.2)
   (case side4 => exact (Kd.R_reads' HO675.out).2.1)
   (case side5 => exact Kd.Cx (Kd.R_reads' HO681.out).2.2)
   (case side6 => exact (Kd.R_reads' HO681.out).2.1)
   (case side7 => exact Kd.Cx (Kd.R_reads' HO684.out).2.2)
   (case side8 => exact (Kd.R_reads' HO684.out).2.1)
   rintro e w41 ⟨rfl, hb⟩
   refine ⟨_, rfl, ?_⟩
   replace HO651 := Aside0.mk (Kd.N_below (by (with_reducible repeat (first | apply Kd.N_alloc | apply Kd.N_drewN | apply Kd.N_drew)); exact HO651.out) hb)
   replace HO668 := Aside0.mk (Kd.N_below (by (with_reducible repeat (first | apply Kd.N_alloc | apply Kd.N_drewN | apply Kd.N_drew)); exact HO668.out) hb)
   replace HO672 := Aside0.mk (Kd.R_below (Kd.Rx HO672.out) hb)
   replace HO675 := Aside0.mk (Kd.R_below (Kd.Rx HO675.out) hb)
   replace HO681 := Aside0.mk (Kd.R_below (Kd.Rx HO681.out) hb)
   replace HO684 := Aside0.mk (Kd.R_below (Kd.Rx HO684.out) hb)
   replace BK677 := Aside0.mk (blk_below (Kx BK677.out) hb)
   replace HB := Aside0.mk (below_step (Bs) hb)
   (try clear hb)
   (try clear hb2)
   (try clear hk)
   (try clear hi)
   refine hK.out _ _ ⟨(blk_cell BK677.out 0).trans rfl, (blk_cell BK677.out 1).trans rfl, (blk_cell BK677.out 2).trans rfl⟩ (fun hHeld => ?_)
   clear hK K
   refine norm_ (a' := ?_) ?_ ?_
   rotate_left
   ·
    show Act.put _ (some 18) _ = _
    simp only [Act.put, List.setIfInBounds_toArray, List.set_cons_zero, List.set_cons_succ, i64_w, i32_w]
    rfl
   refine pure_ (i := 6) (N := some 19) (v := ?_) (a' := ?_) #[true, true, true, true, true, true, true, false, false, false, false, false, false, false, false] rfl rfl (any_of HT_.out (by kernel_rfl)) (fun _ _ _ h => h) (Or.inl ⟨by rfl, ?_⟩) ?_ ?_
   rotate_left
   ·
    intro w'
    go_simp
    with_reducible rfl
   rotate_left
   ·
    simp only [Act.put, List.setIfInBounds_toArray, List.set_cons_zero, List.set_cons_succ, i64_w, i32_w]
    rfl
   refine pure_ (i := 7) (N := some 20) (v := ?_) (a' := ?_) #[true, true, true, true, true, true, true, true, false, false, false, false, false, false, false] rfl rfl (any_of HT_.out (by kernel_rfl)) (fun _ _ _ h => h) (Or.inl ⟨by rfl, ?_⟩) ?_ ?_
   rotate_left
   ·
    intro w'
    go_simp
    with_reducible rfl
   rotate_left
   ·
    simp only [Act.put, List.setIfInBounds_toArray, List.set_cons_zero, List.set_cons_succ, i64_w, i32_w]
    rfl
   refine one_ (i := 8) (N := some 21) #[true, true, true, true, true, true, true, true, true, false, false, false, false, false, false] rfl rfl (one_of HT_.out (by kernel_rfl)) (by decide) (fun K hK => ?_)
   refine goes_ Try.func13 (by kernel_rfl) rfl #[.int .i64 0] (by rfl) rfl rfl (by (try simp only [List.map_toArray, List.map_cons, List.map_nil]); first | done | rfl | (simp only [List.length_drop, List.length_take]; rfl)) ?_
   with_reducible refine (rat_Of.calls k 0 t686 t687 t690 _ A10.out).mono ?_
   rintro e w42 ⟨v688, v691, rfl, ho0, ho1, hb⟩
   refine ⟨_, rfl, ?_⟩
   replace HO651 := Aside0.mk (Kd.N_mono (Kd.N_told (Kd.N_told (Kd.N_old (by (with_reducible repeat (first | apply Kd.N_alloc | apply Kd.N_drewN | apply Kd.N_drew)); exact HO651.out) hb) (Kd.R_base ho0)) (Kd.R_base ho1)) (fun _ h_ => h_.1))
   replace HO668 := Aside0.mk (Kd.N_mono (Kd.N_told (Kd.N_told (Kd.N_old (by (with_reducible repeat (first | apply Kd.N_alloc | apply Kd.N_drewN | apply Kd.N_drew)); exact HO668.out) hb) (Kd.R_base ho0)) (Kd.R_base ho1)) (fun _ h_ => h_.1))
   have HO689 := Aside0.mk (Kd.R_lower (Kd.R_new' (Kd.R_new' (Kd.R_new' (Kd.R_new' ho0 (Kd.R_lt (Kd.Rx HO672.out))) (Kd.R_lt (Kd.Rx HO675.out))) (Kd.R_lt (Kd.Rx HO681.out))) (Kd.R_lt (Kd.Rx HO684.out))) (below_size (Bs)))
   have HO692 := Aside0.mk (Kd.R_lower (Kd.R_new' (Kd.R_new' (Kd.R_new' (Kd.R_new' ho1 (Kd.R_lt (Kd.Rx HO672.out))) (Kd.R_lt (Kd.Rx HO675.out))) (Kd.R_lt (Kd.Rx HO681.out))) (Kd.R_lt (Kd.Rx HO684.out))) (below_size (Bs)))
   replace HO672 := Aside0.mk (Kd.R_mono (Kd.R_told (Kd.R_told (Kd.R_old (Kd.Rx HO672.out) hb) (Kd.R_base ho0)) (Kd.R_base ho1)) (fun _ h_ => h_.1))
   replace HO675 := Aside0.mk (Kd.R_mono (Kd.R_told (Kd.R_told (Kd.R_old (Kd.Rx HO675.out) hb) (Kd.R_base ho0)) (Kd.R_base ho1)) (fun _ h_ => h_.1))
   replace HO681 := Aside0.mk (Kd.R_mono (Kd.R_told (Kd.R_told (Kd.R_old (Kd.Rx HO681.out) hb) (Kd.R_base ho0)) (Kd.R_base ho1)) (fun _ h_ => h_.1))
   replace HO684 := Aside0.mk (Kd.R_mono (Kd.R_told (Kd.R_told (Kd.R_old (Kd.Rx HO684.out) hb) (Kd.R_base ho0)) (Kd.R_base ho1)) (fun _ h_ => h_.1))
   replace BK677 := Aside0.mk (blk_below (Kx BK677.out) hb)
   replace HB := Aside0.mk (below_step (Bs) hb)
   (try clear hb)
   (try clear hb2)
   (try clear hk)
   (try clear hi)
   (try clear ho0)
   (try clear ho1)
   refine hK.out _ _ ⟨(blk_cell BK677.out 0).trans rfl, (blk_cell BK677.out 1).trans rfl, (blk_cell BK677.out 2).trans rfl⟩ (fun hHeld => ?_)
   clear hK K
   refine norm_ (a' := ?_) ?_ ?_
   rotate_left
   ·
    show Act.put _ (some 21) _ = _
    simp only [Act.put, List.setIfInBounds_toArray, List.set_cons_zero, List.set_cons_succ, i64_w, i32_w]
    rfl
   refine one_ (i := 9) (N := some 22) #[true, true, true, true, true, true, true, true, true, true, false, false, false, false, false] rfl rfl (one_of HT_.out (by kernel_rfl)) (by decide) (fun K hK => ?_)
   refine goes_ Try.func13 (by kernel_rfl) rfl #[.int .i64 5] (by rfl) rfl rfl (by (try simp only [List.map_toArray, List.map_cons, List.map_nil]); first | done | rfl | (simp only [List.length_drop, List.length_take]; rfl)) ?_
   with_reducible refine (rat_Of.calls k 5 t693 t694 t697 _ A11.out).mono ?_
   rintro e w43 ⟨v695, v698, rfl, ho0, ho1, hb⟩
   refine ⟨_, rfl, ?_⟩
   replace HO651 := Aside0.mk (Kd.N_mono (Kd.N_told (Kd.N_told (Kd.N_old (by (with_reducible repeat (first | apply Kd.N_alloc | apply Kd.N_drewN | apply Kd.N_drew)); exact HO651.out) hb) (Kd.R_base ho0)) (Kd.R_base ho1)) (fun _ h_ => h_.1))
   replace HO668 := Aside0.mk (Kd.N_mono (Kd.N_told (Kd.N_told (Kd.N_old (by (with_reducible repeat (first | apply Kd.N_alloc | apply Kd.N_drewN | apply Kd.N_drew)); exact HO668.out) hb) (Kd.R_base ho0)) (Kd.R_base ho1)) (fun _ h_ => h_.1))
   have HO696 := Aside0.mk (Kd.R_lower (Kd.R_new' (Kd.R_new' (Kd.R_new' (Kd.R_new' (Kd.R_new' (Kd.R_new' ho0 (Kd.R_lt (Kd.Rx HO672.out))) (Kd.R_lt (Kd.Rx HO675.out))) (Kd.R_lt (Kd.Rx HO681.out))) (Kd.R_lt (Kd.Rx HO684.out))) (Kd.R_lt (Kd.Rx HO689.out))) (Kd.R_lt (Kd.Rx HO692.out))) (below_size (Bs)))
   have HO699 := Aside0.mk (Kd.R_lower (Kd.R_new' (Kd.R_new' (Kd.R_new' (Kd.R_new' (Kd.R_new' (Kd.R_new' ho1 (Kd.R_lt (Kd.Rx HO672.out))) (Kd.R_lt (Kd.Rx HO675.out))) (Kd.R_lt (Kd.Rx HO681.out))) (Kd.R_lt (Kd.Rx HO684.out))) (Kd.R_lt (Kd.Rx HO689.out))) (Kd.R_lt (Kd.Rx HO692.out))) (below_size (Bs)))
   replace HO672 := Aside0.mk (Kd.R_mono (Kd.R_told (Kd.R_told (Kd.R_old (Kd.Rx HO672.out) hb) (Kd.R_base ho0)) (Kd.R_base ho1)) (fun _ h_ => h_.1))
   replace HO675 := Aside0.mk (Kd.R_mono (Kd.R_told (Kd.R_told (Kd.R_old (Kd.Rx HO675.out) hb) (Kd.R_base ho0)) (Kd.R_base ho1)) (fun _ h_ => h_.1))
   replace HO681 := Aside0.mk (Kd.R_mono (Kd.R_told (Kd.R_told (Kd.R_old (Kd.Rx HO681.out) hb) (Kd.R_base ho0)) (Kd.R_base ho1)) (fun _ h_ => h_.1))
   replace HO684 := Aside0.mk (Kd.R_mono (Kd.R_told (Kd.R_told (Kd.R_old (Kd.Rx HO684.out) hb) (Kd.R_base ho0)) (Kd.R_base ho1)) (fun _ h_ => h_.1))
   replace HO689 := Aside0.mk (Kd.R_mono (Kd.R_told (Kd.R_told (Kd.R_old (Kd.Rx HO689.out) hb) (Kd.R_base ho0)) (Kd.R_base ho1)) (fun _ h_ => h_.1))
   replace HO692 := Aside0.mk (Kd.R_mono (Kd.R_told (Kd.R_told (Kd.R_old (Kd.Rx HO692.out) hb) (Kd.R_base ho0)) (Kd.R_base ho1)) (fun _ h_ => h_.1))
   replace BK677 := Aside0.mk (blk_below (Kx BK677.out) hb)
   replace HB := Aside0.mk (below_step (Bs) hb)
   (try clear hb)
   (try clear hb2)
   (try clear hk)
   (try clear hi)
   (try clear ho0)
   (try clear ho1)
   obtain ⟨Ao44, co44, eo44⟩ := Kd.R_slice HO689.out
   (first | subst eo44 | (injection eo44 with f1_ f2_ f3_; have f4_ := f1_.symm; have f5_ := f3_.symm; clear f1_ f2_ f3_; subst f4_; subst f5_))
   obtain ⟨Ao45, co45, eo45⟩ := Kd.R_slice HO692.out
   (first | subst eo45 | (injection eo45 with f1_ f2_ f3_; have f4_ := f1_.symm; have f5_ := f3_.symm; clear f1_ f2_ f3_; subst f4_; subst f5_))
   obtain ⟨Ao46, co46, eo46⟩ := Kd.R_slice HO696.out
   (first | subst eo46 | (injection eo46 with f1_ f2_ f3_; have f4_ := f1_.symm; have f5_ := f3_.symm; clear f1_ f2_ f3_; subst f4_; subst f5_))
   obtain ⟨Ao47, co47, eo47⟩ := Kd.R_slice HO699.out
   (first | subst eo47 | (injection eo47 with f1_ f2_ f3_; have f4_ := f1_.symm; have f5_ := f3_.symm; clear f1_ f2_ f3_; subst f4_; subst f5_))
   refine hK.out _ _ ⟨(blk_cell BK677.out 0).trans rfl, (blk_cell BK677.out 1).trans rfl, (blk_cell BK677.out 2).trans rfl⟩ (fun hHeld => ?_)
   clear hK K
   refine norm_ (a' := ?_) ?_ ?_
   rotate_left
   ·
    show Act.put _ (some 22) _ = _
    simp only [Act.put, List.setIfInBounds_toArray, List.set_cons_zero, List.set_cons_succ, i64_w, i32_w]
    rfl
   refine one_ (i := 10) (N := some 23) #[true, true, true, true, true, true, true, true, true, true, true, false, false, false, false] rfl rfl (one_of HT_.out (by kernel_rfl)) (by decide) (fun K hK => ?_)
   refine Kd.N_lit_step k34 _ 34 ?hg (N' := 23) ?hd (xs := ([(⟨(⟨t686, t687⟩ : S32), t690⟩ : S34), (⟨(⟨t693, t694⟩ : S32), t697⟩ : S34)] : List (S34))) (inner := [.bool t686, .slice Ao44 t687.length co44, .slice Ao45 t690.length co45, .bool t693, .slice Ao46 t694.length co46, .slice Ao47 t697.length co47]) (ok := (fun k_ => nb k_ (.slice Ao29 y649.length co29) ∧ nb k_ (.slice Ao30 y666.length co30) ∧ nb k_ (.slice Ao34 t670.length co34) ∧ nb k_ (.slice Ao35 t673.length co35) ∧ nb k_ (.slice Ao39 t679.length co39) ∧ nb k_ (.slice Ao40 t682.length co40) ∧ k_ ≠ gb677)) (okp := (fun k_ => nb k_ (.slice Ao29 y649.length co29) ∧ nb k_ (.slice Ao30 y666.length co30) ∧ nb k_ (.slice Ao34 t670.length co34) ∧ nb k_ (.slice Ao35 t673.length co35) ∧ nb k_ (.slice Ao39 t679.length co39) ∧ nb k_ (.slice Ao40 t682.length co40) ∧ k_ ≠ gb677)) ?hr ?hp (fun _ hk => hk) ((show ∀ k_, w43.heap.size ≤ k_ → (fun k_ => nb k_ (.slice Ao29 y649.length co29) ∧ nb k_ (.slice Ao30 y666.length co30) ∧ nb k_ (.slice Ao34 t670.length co34) ∧ nb k_ (.slice Ao35 t673.length co35) ∧ nb k_ (.slice Ao39 t679.length co39) ∧ nb k_ (.slice Ao40 t682.length co40) ∧ k_ ≠ gb677) k_ from fun k_ hk => ⟨Kd.fresh' (Kd.N_lt (by (with_reducible repeat (first | apply Kd.N_alloc | apply Kd.N_drewN | apply Kd.N_drew)); exact HO651.out)) k_ hk, Kd.fresh' (Kd.N_lt (by (with_reducible repeat (first | apply Kd.N_alloc | apply Kd.N_drewN | apply Kd.N_drew)); exact HO668.out)) k_ hk, Kd.fresh' (Kd.R_lt (Kd.Rx HO672.out)) k_ hk, Kd.fresh' (Kd.R_lt (Kd.Rx HO675.out)) k_ hk, Kd.fresh' (Kd.R_lt (Kd.Rx HO681.out)) k_ hk, Kd.fresh' (Kd.R_lt (Kd.Rx HO684.out)) k_ hk, Kd.freshB (g := gb677) (o := .cells #[.bool t669, .slice Ao34 t670.length co34, .slice Ao35 t673.length co35] 34 (0, 0)) (Kx BK677.out) k_ hk⟩) _ (Nat.le_refl _)) (Below.refl _ _) (Nat.le_refl _) (by simp) ?_; (case hd => rfl); (case hg => rfl); (case hr => first | (go_simp; done) | (go_simp; rfl)); (case hp => exact (Reps.c3 (show Kd.FK k34 _ _ (⟨(⟨t686, t687⟩ : S32), t690⟩ : S34) [.bool t686, .slice Ao44 t687.length co44, .slice Ao45 t690.length co45] from (k34_mkF _ _ (⟨(⟨t686, t687⟩ : S32), t690⟩ : S34) (Kd.R_reads' (Kd.R_mono (ok' := (fun k_ => nb k_ (.slice Ao29 y649.length co29) ∧ nb k_ (.slice Ao30 y666.length co30) ∧ nb k_ (.slice Ao34 t670.length co34) ∧ nb k_ (.slice Ao35 t673.length co35) ∧ nb k_ (.slice Ao39 t679.length co39) ∧ nb k_ (.slice Ao40 t682.length co40) ∧ k_ ≠ gb677)) (Kd.R_types (Kd.R_apart' (Kd.R_apart' (HO689.out) (Kd.N_typed HO651.out) (by decide)) (Kd.N_typed HO668.out) (by decide)) BK677.out (by decide)) (fun k_ hk => ⟨hk.1.1.2, ⟨hk.1.2, ⟨hk.1.1.1.1.1.1.1.1.2, ⟨hk.1.1.1.1.1.1.1.2, ⟨hk.1.1.1.1.1.1.2, ⟨hk.1.1.1.1.1.2, hk.2⟩⟩⟩⟩⟩⟩))).2.1 (Kd.R_F (Kd.R_mono (ok' := (fun k_ => nb k_ (.slice Ao29 y649.length co29) ∧ nb k_ (.slice Ao30 y666.length co30) ∧ nb k_ (.slice Ao34 t670.length co34) ∧ nb k_ (.slice Ao35 t673.length co35) ∧ nb k_ (.slice Ao39 t679.length co39) ∧ nb k_ (.slice Ao40 t682.length co40) ∧ k_ ≠ gb677)) (Kd.R_types (Kd.R_apart' (Kd.R_apart' (HO689.out) (Kd.N_typed HO651.out) (by decide)) (Kd.N_typed HO668.out) (by decide)) BK677.out (by decide)) (fun k_ hk => ⟨hk.1.1.2, ⟨hk.1.2, ⟨hk.1.1.1.1.1.1.1.1.2, ⟨hk.1.1.1.1.1.1.1.2, ⟨hk.1.1.1.1.1.1.2, ⟨hk.1.1.1.1.1.2, hk.2⟩⟩⟩⟩⟩⟩))) (Kd.R_reads' (Kd.R_mono (ok' := (fun k_ => nb k_ (.slice Ao29 y649.length co29) ∧ nb k_ (.slice Ao30 y666.length co30) ∧ nb k_ (.slice Ao34 t670.length co34) ∧ nb k_ (.slice Ao35 t673.length co35) ∧ nb k_ (.slice Ao39 t679.length co39) ∧ nb k_ (.slice Ao40 t682.length co40) ∧ k_ ≠ gb677)) (Kd.R_types (Kd.R_apart' (Kd.R_apart' (HO692.out) (Kd.N_typed HO651.out) (by decide)) (Kd.N_typed HO668.out) (by decide)) BK677.out (by decide)) (fun k_ hk => ⟨hk.1.1.2, ⟨hk.1.2, ⟨hk.1.1.1.1.1.1.1.1.2, ⟨hk.1.1.1.1.1.1.1.2, ⟨hk.1.1.1.1.1.1.2, ⟨hk.1.1.1.1.1.2, hk.2⟩⟩⟩⟩⟩⟩))).2.1 (Kd.R_F (Kd.R_mono (ok' := (fun k_ => nb k_ (.slice Ao29 y649.length co29) ∧ nb k_ (.slice Ao30 y666.length co30) ∧ nb k_ (.slice Ao34 t670.length co34) ∧ nb k_ (.slice Ao35 t673.length co35) ∧ nb k_ (.slice Ao39 t679.length co39) ∧ nb k_ (.slice Ao40 t682.length co40) ∧ k_ ≠ gb677)) (Kd.R_types (Kd.R_apart' (Kd.R_apart' (HO692.out) (Kd.N_typed HO651.out) (by decide)) (Kd.N_typed HO668.out) (by decide)) BK677.out (by decide)) (fun k_ hk => ⟨hk.1.1.2, ⟨hk.1.2, ⟨hk.1.1.1.1.1.1.1.1.2, ⟨hk.1.1.1.1.1.1.1.2, ⟨hk.1.1.1.1.1.1.2, ⟨hk.1.1.1.1.1.2, hk.2⟩⟩⟩⟩⟩⟩))))) (Reps.c3 (show Kd.FK k34 _ _ (⟨(⟨t693, t694⟩ : S32), t697⟩ : S34) [.bool t693, .slice Ao46 t694.length co46, .slice Ao47 t697.length co47] from (k34_mkF _ _ (⟨(⟨t693, t694⟩ : S32), t697⟩ : S34) (Kd.R_reads' (Kd.R_mono (ok' := (fun k_ => nb k_ (.slice Ao29 y649.length co29) ∧ nb k_ (.slice Ao30 y666.length co30) ∧ nb k_ (.slice Ao34 t670.length co34) ∧ nb k_ (.slice Ao35 t673.length co35) ∧ nb k_ (.slice Ao39 t679.length co39) ∧ nb k_ (.slice Ao40 t682.length co40) ∧ k_ ≠ gb677)) (Kd.R_types (Kd.R_apart' (Kd.R_apart' (HO696.out) (Kd.N_typed HO651.out) (by decide)) (Kd.N_typed HO668.out) (by decide)) BK677.out (by decide)) (fun k_ hk => ⟨hk.1.1.2, ⟨hk.1.2, ⟨hk.1.1.1.1.1.1.1.1.2, ⟨hk.1.1.1.1.1.1.1.2, ⟨hk.1.1.1.1.1.1.2, ⟨hk.1.1.1.1.1.2, hk.2⟩⟩⟩⟩⟩⟩))).2.1 (Kd.R_F (Kd.R_mono (ok' := (fun k_ => nb k_ (.slice Ao29 y649.length co29) ∧ nb k_ (.slice Ao30 y666.length co30) ∧ nb k_ (.slice Ao34 t670.length co34) ∧ nb k_ (.slice Ao35 t673.length co35) ∧ nb k_ (.slice Ao39 t679.length co39) ∧ nb k_ (.slice Ao40 t682.length co40) ∧ k_ ≠ gb677)) (Kd.R_types (Kd.R_apart' (Kd.R_apart' (HO696.out) (Kd.N_typed HO651.out) (by decide)) (Kd.N_typed HO668.out) (by decide)) BK677.out (by decide)) (fun k_ hk => ⟨hk.1.1.2, ⟨hk.1.2, ⟨hk.1.1.1.1.1.1.1.1.2, ⟨hk.1.1.1.1.1.1.1.2, ⟨hk.1.1.1.1.1.1.2, ⟨hk.1.1.1.1.1.2, hk.2⟩⟩⟩⟩⟩⟩))) (Kd.R_reads' (Kd.R_mono (ok' := (fun k_ => nb k_ (.slice Ao29 y649.length co29) ∧ nb k_ (.slice Ao30 y666.length co30) ∧ nb k_ (.slice Ao34 t670.length co34) ∧ nb k_ (.slice Ao35 t673.length co35) ∧ nb k_ (.slice Ao39 t679.length co39) ∧ nb k_ (.slice Ao40 t682.length co40) ∧ k_ ≠ gb677)) (Kd.R_types (Kd.R_apart' (Kd.R_apart' (HO699.out) (Kd.N_typed HO651.out) (by decide)) (Kd.N_typed HO668.out) (by decide)) BK677.out (by decide)) (fun k_ hk => ⟨hk.1.1.2, ⟨hk.1.2, ⟨hk.1.1.1.1.1.1.1.1.2, ⟨hk.1.1.1.1.1.1.1.2, ⟨hk.1.1.1.1.1.1.2, ⟨hk.1.1.1.1.1.2, hk.2⟩⟩⟩⟩⟩⟩))).2.1 (Kd.R_F (Kd.R_mono (ok' := (fun k_ => nb k_ (.slice Ao29 y649.length co29) ∧ nb k_ (.slice Ao30 y666.length co30) ∧ nb k_ (.slice Ao34 t670.length co34) ∧ nb k_ (.slice Ao35 t673.length co35) ∧ nb k_ (.slice Ao39 t679.length co39) ∧ nb k_ (.slice Ao40 t682.length co40) ∧ k_ ≠ gb677)) (Kd.R_types (Kd.R_apart' (Kd.R_apart' (HO699.out) (Kd.N_typed HO651.out) (by decide)) (Kd.N_typed HO668.out) (by decide)) BK677.out (by decide)) (fun k_ hk => ⟨hk.1.1.2, ⟨hk.1.2, ⟨hk.1.1.1.1.1.1.1.1.2, ⟨hk.1.1.1.1.1.1.1.2, ⟨hk.1.1.1.1.1.1.2, ⟨hk.1.1.1.1.1.2, hk.2⟩⟩⟩⟩⟩⟩))))) (Reps.none _ _))))
   intro v701 w48 ho49 hb hg_ hnew_
   clear hg_ hnew_
   (first | rw [← Ny700.out] at ho49 | (simp only [Int.reduceToNat] at ho49; rw [← Ny700.out] at ho49))
   replace HO651 := Aside0.mk (Kd.N_elder' (by (with_reducible repeat (first | apply Kd.N_alloc | apply Kd.N_drewN | apply Kd.N_drew)); exact HO651.out) (Kd.N_base ho49) hb)
   replace HO668 := Aside0.mk (Kd.N_elder' (by (with_reducible repeat (first | apply Kd.N_alloc | apply Kd.N_drewN | apply Kd.N_drew)); exact HO668.out) (Kd.N_base ho49) hb)
   replace HO672 := Aside0.mk (Kd.R_below (Kd.Rx HO672.out) hb)
   replace HO675 := Aside0.mk (Kd.R_below (Kd.Rx HO675.out) hb)
   replace HO681 := Aside0.mk (Kd.R_below (Kd.Rx HO681.out) hb)
   replace HO684 := Aside0.mk (Kd.R_below (Kd.Rx HO684.out) hb)
   have HO702 := Aside0.mk (Kd.N_lower ho49 (below_size (Bs)))
   replace BK677 := Aside0.mk (blk_below (Kx BK677.out) hb)
   replace HB := Aside0.mk (below_step (Bs) hb)
   clear HO689 HO692 HO696 HO699
   clear hb ho49
   obtain ⟨Ao50, co50, eo50⟩ := Kd.N_slice HO702.out
   (first | subst eo50 | (injection eo50 with f1_ f2_ f3_; have f4_ := f1_.symm; have f5_ := f3_.symm; clear f1_ f2_ f3_; subst f4_; subst f5_))
   refine hK.out _ _ ⟨(blk_cell BK677.out 0).trans rfl, (blk_cell BK677.out 1).trans rfl, (blk_cell BK677.out 2).trans rfl⟩ (fun hHeld => ?_)
   clear hK K
   refine norm_ (a' := ?_) ?_ ?_
   rotate_left
   ·
    show Act.put _ (some 23) _ = _
    simp only [Act.put, List.setIfInBounds_toArray, List.set_cons_zero, List.set_cons_succ, i64_w, i32_w]
    rfl
   refine one_ (i := 11) (N := some 24) #[true, true, true, true, true, true, true, true, true, true, true, true, false, false, false] rfl rfl (one_of HT_.out (by kernel_rfl)) (by decide) (fun K hK => ?_)
   refine goes_ Try.func14 (by kernel_rfl) rfl #[.slice Ao50 y700.length co50] (by rfl) rfl rfl (by (try simp only [List.map_toArray, List.map_cons, List.map_nil]); first | done | rfl | (simp only [List.length_drop, List.length_take]; rfl)) ?_
   with_reducible refine (vect_Lead.calls k _ _ y700 t703 _ ?side1 ?side2 A12.out).mono ?_
   (case side1 => exact Kd.Cx (Kd.N_reads' HO702.out).2.2)
   (case side2 => exact (Kd.N_reads' HO702.out).2.1)
   rintro e w51 ⟨rfl, hb⟩
   refine ⟨_, rfl, ?_⟩
   replace HO651 := Aside0.mk (Kd.N_below (by (with_reducible repeat (first | apply Kd.N_alloc | apply Kd.N_drewN | apply Kd.N_drew)); exact HO651.out) hb)
   replace HO668 := Aside0.mk (Kd.N_below (by (with_reducible repeat (first | apply Kd.N_alloc | apply Kd.N_drewN | apply Kd.N_drew)); exact HO668.out) hb)
   replace HO672 := Aside0.mk (Kd.R_below (Kd.Rx HO672.out) hb)
   replace HO675 := Aside0.mk (Kd.R_below (Kd.Rx HO675.out) hb)
   replace HO681 := Aside0.mk (Kd.R_below (Kd.Rx HO681.out) hb)
   replace HO684 := Aside0.mk (Kd.R_below (Kd.Rx HO684.out) hb)
   replace HO702 := Aside0.mk (Kd.N_below (by (with_reducible repeat (first | apply Kd.N_alloc | apply Kd.N_drewN | apply Kd.N_drew)); exact HO702.out) hb)
   replace BK677 := Aside0.mk (blk_below (Kx BK677.out) hb)
   replace HB := Aside0.mk (below_step (Bs) hb)
   (try clear hb)
   (try clear hb2)
   (try clear hk)
   (try clear hi)
   refine hK.out _ _ ⟨(blk_cell BK677.out 0).trans rfl, (blk_cell BK677.out 1).trans rfl, (blk_cell BK677.out 2).trans rfl⟩ (fun hHeld => ?_)
   clear hK K
   refine norm_ (a' := ?_) ?_ ?_
   rotate_left
   ·
    show Act.put _ (some 24) _ = _
    simp only [Act.put, List.setIfInBounds_toArray, List.set_cons_zero, List.set_cons_succ, i64_w, i32_w]
    rfl
   refine pure_ (i := 12) (N := some 25) (v := ?_) (a' := ?_) #[true, true, true, true, true, true, true, true, true, true, true, true, true, false, false] rfl rfl (any_of HT_.out (by kernel_rfl)) (fun _ _ _ h => h) (Or.inl ⟨by rfl, ?_⟩) ?_ ?_
   rotate_left
   ·
    intro w'
    go_simp
    with_reducible rfl
   rotate_left
   ·
    simp only [Act.put, List.setIfInBounds_toArray, List.set_cons_zero, List.set_cons_succ, i64_w, i32_w]
    rfl
   refine pure_ (i := 13) (N := some 26) (v := ?_) (a' := ?_) #[true, true, true, true, true, true, true, true, true, true, true, true, true, true, false] rfl rfl (any_of HT_.out (by kernel_rfl)) (fun _ _ _ h => h) (Or.inl ⟨by rfl, ?_⟩) ?_ ?_
   rotate_left
   ·
    intro w'
    go_simp
    with_reducible rfl
   rotate_left
   ·
    simp only [Act.put, List.setIfInBounds_toArray, List.set_cons_zero, List.set_cons_succ, i64_w, i32_w]
    rfl
   refine pure_ (i := 14) (N := some 0) (v := ?_) (a' := ?_) #[true, true, true, true, true, true, true, true, true, true, true, true, true, true, true] rfl rfl (any_of HT_.out (by kernel_rfl)) (fun _ _ _ h => h) (Or.inl ⟨by rfl, ?_⟩) ?_ ?_
   rotate_left
   ·
    intro w'
    go_simp
    with_reducible rfl
   rotate_left
   ·
    simp only [Act.put, List.setIfInBounds_toArray, List.set_cons_zero, List.set_cons_succ, i64_w, i32_w]
    rfl
   refine done_ (done_of HT_.out (by kernel_rfl)) ?_
   try go_wp2
   go_ret
   exact ⟨by first | rfl | (simp only [u64_u32_] <;> rfl) | (simp [errW_none, errW_some] <;> rfl) | (simp [*, errW_none, errW_some] <;> rfl), Bs⟩
  ·
   replace c9 := Bool.eq_false_iff.mpr c9
   subst c9
   have H1 : (some false) = some r := by rw [if_neg (show ¬ (false = true) by decide)] at H; exact H
   clear H
   have H := H1
   clear H1
   obtain rfl := Option.some.inj H
   go_enter Try.func11, Try.ntmps11
   try go_wp2_with (first | ((with_reducible refine gate_callee (f := 13) rfl ?_); refine goesx (some 4) Try.func13 #[.int .i64 1] ?_; (with_reducible refine (rat_Of.calls k 1 t635 t636 t639 _ A1.out).mono ?_); rintro e w52 ⟨v637, v640, rfl, ho0, ho1, hb⟩; refine ⟨_, rfl, ?_⟩; have HO638 := Aside0.mk (Kd.R_lower ho0 (below_size (Bx HB.out))); have HO641 := Aside0.mk (Kd.R_lower ho1 (below_size (Bx HB.out))); replace HB := Aside0.mk (below_step (Bx HB.out) hb); (try clear hb); (try clear hb2); (try clear hk); (try clear hi); (try clear ho0); (try clear ho1)) | ((with_reducible refine gate_callee (f := 13) rfl ?_); refine goesx (some 5) Try.func13 #[.int .i64 2] ?_; (with_reducible refine (rat_Of.calls k 2 t642 t643 t646 _ A2.out).mono ?_); rintro e w53 ⟨v644, v647, rfl, ho0, ho1, hb⟩; refine ⟨_, rfl, ?_⟩; have HO645 := Aside0.mk (Kd.R_lower (Kd.R_new' (Kd.R_new' ho0 (Kd.R_lt (Kd.Rx HO638.out))) (Kd.R_lt (Kd.Rx HO641.out))) (below_size (Bx HB.out))); have HO648 := Aside0.mk (Kd.R_lower (Kd.R_new' (Kd.R_new' ho1 (Kd.R_lt (Kd.Rx HO638.out))) (Kd.R_lt (Kd.Rx HO641.out))) (below_size (Bx HB.out))); replace HO638 := Aside0.mk (Kd.R_mono (Kd.R_told (Kd.R_told (Kd.R_old (Kd.Rx HO638.out) hb) (Kd.R_base ho0)) (Kd.R_base ho1)) (fun _ h_ => h_.1)); replace HO641 := Aside0.mk (Kd.R_mono (Kd.R_told (Kd.R_told (Kd.R_old (Kd.Rx HO641.out) hb) (Kd.R_base ho0)) (Kd.R_base ho1)) (fun _ h_ => h_.1)); replace HB := Aside0.mk (below_step (Bx HB.out) hb); (try clear hb); (try clear hb2); (try clear hk); (try clear hi); (try clear ho0); (try clear ho1); obtain ⟨Ao54, co54, eo54⟩ := Kd.R_slice HO638.out; subst eo54; obtain ⟨Ao55, co55, eo55⟩ := Kd.R_slice HO641.out; subst eo55; obtain ⟨Ao56, co56, eo56⟩ := Kd.R_slice HO645.out; subst eo56; obtain ⟨Ao57, co57, eo57⟩ := Kd.R_slice HO648.out; subst eo57) | ((with_reducible refine gate_dst (N := 6) rfl ?_); (try (refine gate_guard (by rfl) ?_; dsimp only)); refine Kd.N_lit k34 _ 34 ?hg (N' := 6) ?hd (xs := ([(⟨(⟨t635, t636⟩ : S32), t639⟩ : S34), (⟨(⟨t642, t643⟩ : S32), t646⟩ : S34)] : List (S34))) (inner := [.bool t635, .slice Ao54 t636.length co54, .slice Ao55 t639.length co55, .bool t642, .slice Ao56 t643.length co56, .slice Ao57 t646.length co57]) (ok := (fun _ => True)) (okp := (fun _ => True)) ?hr ?hp (fun _ hk => hk) ((show ∀ k_, w53.heap.size ≤ k_ → (fun _ => True) k_ from fun k_ hk => trivial) _ (Nat.le_refl _)) (Below.refl _ _) (Nat.le_refl _) (by simp) ?_; (case hd => rfl); (case hg => rfl); (case hr => first | (go_simp; done) | (go_simp; rfl)); (case hp => exact (Reps.c3 (show Kd.FK k34 _ _ (⟨(⟨t635, t636⟩ : S32), t639⟩ : S34) [.bool t635, .slice Ao54 t636.length co54, .slice Ao55 t639.length co55] from (k34_mkF _ _ (⟨(⟨t635, t636⟩ : S32), t639⟩ : S34) (Kd.R_reads' (Kd.R_mono (ok' := (fun _ => True)) (HO638.out) (fun k_ hk => trivial))).2.1 (Kd.R_F (Kd.R_mono (ok' := (fun _ => True)) (HO638.out) (fun k_ hk => trivial))) (Kd.R_reads' (Kd.R_mono (ok' := (fun _ => True)) (HO641.out) (fun k_ hk => trivial))).2.1 (Kd.R_F (Kd.R_mono (ok' := (fun _ => True)) (HO641.out) (fun k_ hk => trivial))))) (Reps.c3 (show Kd.FK k34 _ _ (⟨(⟨t642, t643⟩ : S32), t646⟩ : S34) [.bool t642, .slice Ao56 t643.length co56, .slice Ao57 t646.length co57] from (k34_mkF _ _ (⟨(⟨t642, t643⟩ : S32), t646⟩ : S34) (Kd.R_reads' (Kd.R_mono (ok' := (fun _ => True)) (HO645.out) (fun k_ hk => trivial))).2.1 (Kd.R_F (Kd.R_mono (ok' := (fun _ => True)) (HO645.out) (fun k_ hk => trivial))) (Kd.R_reads' (Kd.R_mono (ok' := (fun _ => True)) (HO648.out) (fun k_ hk => trivial))).2.1 (Kd.R_F (Kd.R_mono (ok' := (fun _ => True)) (HO648.out) (fun k_ hk => trivial))))) (Reps.none _ _)))); intro v650 w58 ho59 hb hg_ hnew_; clear hg_ hnew_; (first | rw [← Ny649.out] at ho59 | (simp only [Int.reduceToNat] at ho59; rw [← Ny649.out] at ho59)); have HO651 := Aside0.mk (Kd.N_lower ho59 (below_size (Bx HB.out))); replace HB := Aside0.mk (below_step (Bx HB.out) hb); clear HO638 HO641 HO645 HO648; clear hb ho59) | ((with_reducible refine gate_callee (f := 13) rfl ?_); refine goesx (some 7) Try.func13 #[.int .i64 3] ?_; (with_reducible refine (rat_Of.calls k 3 t652 t653 t656 _ A3.out).mono ?_); rintro e w60 ⟨v654, v657, rfl, ho0, ho1, hb⟩; refine ⟨_, rfl, ?_⟩; replace HO651 := Aside0.mk (Kd.N_mono (Kd.N_told (Kd.N_told (Kd.N_old (by (with_reducible repeat (first | apply Kd.N_alloc | apply Kd.N_drewN | apply Kd.N_drew)); exact HO651.out) hb) (Kd.R_base ho0)) (Kd.R_base ho1)) (fun _ h_ => h_.1)); have HO655 := Aside0.mk (Kd.R_lower ho0 (below_size (Bx HB.out))); have HO658 := Aside0.mk (Kd.R_lower ho1 (below_size (Bx HB.out))); replace HB := Aside0.mk (below_step (Bx HB.out) hb); (try clear hb); (try clear hb2); (try clear hk); (try clear hi); (try clear ho0); (try clear ho1)) | ((with_reducible refine gate_callee (f := 13) rfl ?_); refine goesx (some 8) Try.func13 #[.int .i64 4] ?_; (with_reducible refine (rat_Of.calls k 4 t659 t660 t663 _ A4.out).mono ?_); rintro e w61 ⟨v661, v664, rfl, ho0, ho1, hb⟩; refine ⟨_, rfl, ?_⟩; replace HO651 := Aside0.mk (Kd.N_mono (Kd.N_told (Kd.N_told (Kd.N_old (by (with_reducible repeat (first | apply Kd.N_alloc | apply Kd.N_drewN | apply Kd.N_drew)); exact HO651.out) hb) (Kd.R_base ho0)) (Kd.R_base ho1)) (fun _ h_ => h_.1)); have HO662 := Aside0.mk (Kd.R_lower (Kd.R_new' (Kd.R_new' ho0 (Kd.R_lt (Kd.Rx HO655.out))) (Kd.R_lt (Kd.Rx HO658.out))) (below_size (Bx HB.out))); have HO665 := Aside0.mk (Kd.R_lower (Kd.R_new' (Kd.R_new' ho1 (Kd.R_lt (Kd.Rx HO655.out))) (Kd.R_lt (Kd.Rx HO658.out))) (below_size (Bx HB.out))); replace HO655 := Aside0.mk (Kd.R_mono (Kd.R_told (Kd.R_told (Kd.R_old (Kd.Rx HO655.out) hb) (Kd.R_base ho0)) (Kd.R_base ho1)) (fun _ h_ => h_.1)); replace HO658 := Aside0.mk (Kd.R_mono (Kd.R_told (Kd.R_told (Kd.R_old (Kd.Rx HO658.out) hb) (Kd.R_base ho0)) (Kd.R_base ho1)) (fun _ h_ => h_.1)); replace HB := Aside0.mk (below_step (Bx HB.out) hb); (try clear hb); (try clear hb2); (try clear hk); (try clear hi); (try clear ho0); (try clear ho1); obtain ⟨Ao62, co62, eo62⟩ := Kd.R_slice HO655.out; subst eo62; obtain ⟨Ao63, co63, eo63⟩ := Kd.R_slice HO658.out; subst eo63; obtain ⟨Ao64, co64, eo64⟩ := Kd.R_slice HO662.out; subst eo64; obtain ⟨Ao65, co65, eo65⟩ := Kd.R_slice HO665.out; subst eo65) | ((with_reducible refine gate_dst (N := 9) rfl ?_); (try (refine gate_guard (by rfl) ?_; dsimp only)); refine Kd.N_lit k34 _ 34 ?hg (N' := 9) ?hd (xs := ([(⟨(⟨t652, t653⟩ : S32), t656⟩ : S34), (⟨(⟨t659, t660⟩ : S32), t663⟩ : S34)] : List (S34))) (inner := [.bool t652, .slice Ao62 t653.length co62, .slice Ao63 t656.length co63, .bool t659, .slice Ao64 t660.length co64, .slice Ao65 t663.length co65]) (ok := (fun k_ => nb k_ v650)) (okp := (fun k_ => nb k_ v650)) ?hr ?hp (fun _ hk => hk) ((show ∀ k_, w61.heap.size ≤ k_ → (fun k_ => nb k_ v650) k_ from fun k_ hk => Kd.fresh' (Kd.N_lt (by (with_reducible repeat (first | apply Kd.N_alloc | apply Kd.N_drewN | apply Kd.N_drew)); exact HO651.out)) k_ hk) _ (Nat.le_refl _)) (Below.refl _ _) (Nat.le_refl _) (by simp) ?_; (case hd => rfl); (case hg => rfl); (case hr => first | (go_simp; done) | (go_simp; rfl)); (case hp => exact (Reps.c3 (show Kd.FK k34 _ _ (⟨(⟨t652, t653⟩ : S32), t656⟩ : S34) [.bool t652, .slice Ao62 t653.length co62, .slice Ao63 t656.length co63] from (k34_mkF _ _ (⟨(⟨t652, t653⟩ : S32), t656⟩ : S34) (Kd.R_reads' (Kd.R_mono (ok' := (fun k_ => nb k_ v650)) (Kd.R_apart' (HO655.out) (Kd.N_typed HO651.out) (by decide)) (fun k_ hk => hk.2))).2.1 (Kd.R_F (Kd.R_mono (ok' := (fun k_ => nb k_ v650)) (Kd.R_apart' (HO655.out) (Kd.N_typed HO651.out) (by decide)) (fun k_ hk => hk.2))) (Kd.R_reads' (Kd.R_mono (ok' := (fun k_ => nb k_ v650)) (Kd.R_apart' (HO658.out) (Kd.N_typed HO651.out) (by decide)) (fun k_ hk => hk.2))).2.1 (Kd.R_F (Kd.R_mono (ok' := (fun k_ => nb k_ v650)) (Kd.R_apart' (HO658.out) (Kd.N_typed HO651.out) (by decide)) (fun k_ hk => hk.2))))) (Reps.c3 (show Kd.FK k34 _ _ (⟨(⟨t659, t660⟩ : S32), t663⟩ : S34) [.bool t659, .slice Ao64 t660.length co64, .slice Ao65 t663.length co65] from (k34_mkF _ _ (⟨(⟨t659, t660⟩ : S32), t663⟩ : S34) (Kd.R_reads' (Kd.R_mono (ok' := (fun k_ => nb k_ v650)) (Kd.R_apart' (HO662.out) (Kd.N_typed HO651.out) (by decide)) (fun k_ hk => hk.2))).2.1 (Kd.R_F (Kd.R_mono (ok' := (fun k_ => nb k_ v650)) (Kd.R_apart' (HO662.out) (Kd.N_typed HO651.out) (by decide)) (fun k_ hk => hk.2))) (Kd.R_reads' (Kd.R_mono (ok' := (fun k_ => nb k_ v650)) (Kd.R_apart' (HO665.out) (Kd.N_typed HO651.out) (by decide)) (fun k_ hk => hk.2))).2.1 (Kd.R_F (Kd.R_mono (ok' := (fun k_ => nb k_ v650)) (Kd.R_apart' (HO665.out) (Kd.N_typed HO651.out) (by decide)) (fun k_ hk => hk.2))))) (Reps.none _ _)))); intro v667 w66 ho67 hb hg_ hnew_; clear hg_ hnew_; (first | rw [← Ny666.out] at ho67 | (simp only [Int.reduceToNat] at ho67; rw [← Ny666.out] at ho67)); replace HO651 := Aside0.mk (Kd.N_elder' (by (with_reducible repeat (first | apply Kd.N_alloc | apply Kd.N_drewN | apply Kd.N_drew)); exact HO651.out) (Kd.N_base ho67) hb); have HO668 := Aside0.mk (Kd.N_lower ho67 (below_size (Bx HB.out))); replace HB := Aside0.mk (below_step (Bx HB.out) hb); clear HO655 HO658 HO662 HO665; clear hb ho67; obtain ⟨Ao68, co68, eo68⟩ := Kd.N_slice HO651.out; subst eo68; obtain ⟨Ao69, co69, eo69⟩ := Kd.N_slice HO668.out; subst eo69) | ((with_reducible refine gate_callee (f := 19) rfl ?_); refine goesx (some 10) Try.func19 #[.slice Ao68 y649.length co68, .slice Ao69 y666.length co69] ?_; (with_reducible refine (vect_Dot.calls k _ _ y649 _ _ y666 t669 t670 t673 t676 _ ?side1 ?side2 ?side3 ?side4 A5.out).mono ?_); (case side1 => exact Kd.Cx (Kd.N_reads' HO651.out).2.2); (case side2 => exact (Kd.N_reads' HO651.out).2.1); (case side3 => exact Kd.Cx (Kd.N_reads' HO668.out).2.2); (case side4 => exact (Kd.N_reads' HO668.out).2.1); rintro e w70 ⟨v671, v674, rfl, ho0, ho1, hb⟩; refine ⟨_, rfl, ?_⟩; replace HO651 := Aside0.mk (Kd.N_mono (Kd.N_told (Kd.N_told (Kd.N_old (by (with_reducible repeat (first | apply Kd.N_alloc | apply Kd.N_drewN | apply Kd.N_drew)); exact HO651.out) hb) (Kd.R_base ho0)) (Kd.R_base ho1)) (fun _ h_ => h_.1)); replace HO668 := Aside0.mk (Kd.N_mono (Kd.N_told (Kd.N_told (Kd.N_old (by (with_reducible repeat (first | apply Kd.N_alloc | apply Kd.N_drewN | apply Kd.N_drew)); exact HO668.out) hb) (Kd.R_base ho0)) (Kd.R_base ho1)) (fun _ h_ => h_.1)); have HO672 := Aside0.mk (Kd.R_lower ho0 (below_size (Bx HB.out))); have HO675 := Aside0.mk (Kd.R_lower ho1 (below_size (Bx HB.out))); replace HB := Aside0.mk (below_step (Bx HB.out) hb); (try clear hb); (try clear hb2); (try clear hk); (try clear hi); (try clear ho0); (try clear ho1)) | ((with_reducible refine gate_dst (N := 1) rfl ?_); (try (refine gate_guard (by rfl) ?_; dsimp only)); refine box_event ?hg (N := 1) ?hd (cs := #[.bool false, .slice none 0 0, .slice none 0 0]) (t := 34) ?hr ?_; (case hd => rfl); (case hg => rfl); (case hr => first | (go_simp; done) | (go_simp; rfl)); intro gb677 hg w71 hbox hb; replace HO651 := Aside0.mk (Kd.N_below (Kd.N_elderB (by (with_reducible repeat (first | apply Kd.N_alloc | apply Kd.N_drewN | apply Kd.N_drew)); exact HO651.out) gb677 (Nat.le_of_eq hg.symm)) hb); replace HO668 := Aside0.mk (Kd.N_below (Kd.N_elderB (by (with_reducible repeat (first | apply Kd.N_alloc | apply Kd.N_drewN | apply Kd.N_drew)); exact HO668.out) gb677 (Nat.le_of_eq hg.symm)) hb); replace HO672 := Aside0.mk (Kd.R_below (Kd.Rx HO672.out) hb); replace HO675 := Aside0.mk (Kd.R_below (Kd.Rx HO675.out) hb); have BK677 := Aside0.mk (hbox); have GW677 := Aside0.mk ((by rw [hg]; exact (below_size (Bx HB.out)) : w.heap.size ≤ gb677)); have GE677 := Aside0.mk ((by rw [hg]; exact (below_size (Bx HB.out)) : w.heap.size ≤ gb677)); replace HB := Aside0.mk (below_step (Bx HB.out) hb); clear hb hbox hg; have hcz72_0 : w71.cell? ⟨gb677, 0, none⟩ = some (.bool false) := (blk_cell BK677.out 0).trans rfl; have hcz72_1 : w71.cell? ⟨gb677, 1, none⟩ = some (.slice none 0 0) := (blk_cell BK677.out 1).trans rfl; have hcz72_2 : w71.cell? ⟨gb677, 2, none⟩ = some (.slice none 0 0) := (blk_cell BK677.out 2).trans rfl; have hfz72_0 := blk_frozen BK677.out 0; have hfz72_1 := blk_frozen BK677.out 1; have hfz72_2 := blk_frozen BK677.out 2; obtain ⟨Ao73, co73, eo73⟩ := Kd.R_slice HO672.out; subst eo73; obtain ⟨Ao74, co74, eo74⟩ := Kd.R_slice HO675.out; subst eo74))
   have n0_ : Aside0 (Kd.N k34 34 (((w71.setCell ⟨gb677, 0, none⟩ (.bool t669)).setCell ⟨gb677, 1, none⟩ (.slice Ao73 t670.length co73)).setCell ⟨gb677, 2, none⟩ (.slice Ao74 t673.length co74)) w.heap.size (fun k_ => nb k_ (.slice Ao69 y666.length co69) ∧ nb k_ (.slice Ao73 t670.length co73) ∧ nb k_ (.slice Ao74 t673.length co74) ∧ k_ ≠ gb677) (.slice Ao68 y649.length co68) y649) := ⟨by (with_reducible repeat (first | apply Kd.N_alloc | apply Kd.N_drewN | apply Kd.N_drew)); exact Kd.N_mono (Kd.N_far (p := ⟨gb677, 2, none⟩) (Kd.N_far (p := ⟨gb677, 1, none⟩) (Kd.N_far (p := ⟨gb677, 0, none⟩) (Kd.N_mono HO651.out (fun k_ hk => (⟨hk, hk.2⟩ : _ ∧ k_ ≠ gb677))) (fun _ hk => hk.2) (.bool t669)) (fun _ hk => hk.2) (.slice Ao73 t670.length co73)) (fun _ hk => hk.2) (.slice Ao74 t673.length co74)) (fun _ hk => ⟨hk.1.1.1.1.2, ⟨hk.1.1.1.2, ⟨hk.1.1.2, hk.1.2⟩⟩⟩)⟩
   have n1_ : Aside0 (Kd.N k34 34 (((w71.setCell ⟨gb677, 0, none⟩ (.bool t669)).setCell ⟨gb677, 1, none⟩ (.slice Ao73 t670.length co73)).setCell ⟨gb677, 2, none⟩ (.slice Ao74 t673.length co74)) w.heap.size (fun k_ => nb k_ (.slice Ao68 y649.length co68) ∧ nb k_ (.slice Ao73 t670.length co73) ∧ nb k_ (.slice Ao74 t673.length co74) ∧ k_ ≠ gb677) (.slice Ao69 y666.length co69) y666) := ⟨by (with_reducible repeat (first | apply Kd.N_alloc | apply Kd.N_drewN | apply Kd.N_drew)); exact Kd.N_mono (Kd.N_far (p := ⟨gb677, 2, none⟩) (Kd.N_far (p := ⟨gb677, 1, none⟩) (Kd.N_far (p := ⟨gb677, 0, none⟩) (Kd.N_mono HO668.out (fun k_ hk => (⟨hk, hk.2⟩ : _ ∧ k_ ≠ gb677))) (fun _ hk => hk.2) (.bool t669)) (fun _ hk => hk.2) (.slice Ao73 t670.length co73)) (fun _ hk => hk.2) (.slice Ao74 t673.length co74)) (fun _ hk => ⟨hk.1.1.1.1, ⟨hk.1.1.1.2, ⟨hk.1.1.2, hk.1.2⟩⟩⟩)⟩
   have n2_ : Aside0 (Kd.R (Kd.int .u64) 96 (((w71.setCell ⟨gb677, 0, none⟩ (.bool t669)).setCell ⟨gb677, 1, none⟩ (.slice Ao73 t670.length co73)).setCell ⟨gb677, 2, none⟩ (.slice Ao74 t673.length co74)) w.heap.size (fun k_ => nb k_ (.slice Ao74 t673.length co74)) (.slice Ao73 t670.length co73) t670) := ⟨by exact Kd.Rx (Kd.R_mono (Kd.R_far (p := ⟨gb677, 2, none⟩) (Kd.R_far (p := ⟨gb677, 1, none⟩) (Kd.R_far (p := ⟨gb677, 0, none⟩) (Kd.R_types HO672.out BK677.out (by decide)) (fun _ hk => hk.2) (.bool t669)) (fun _ hk => hk.2) (.slice Ao73 t670.length co73)) (fun _ hk => hk.2) (.slice Ao74 t673.length co74)) (fun _ hk => hk.1))⟩
   have n3_ : Aside0 (Kd.R (Kd.int .u64) 96 (((w71.setCell ⟨gb677, 0, none⟩ (.bool t669)).setCell ⟨gb677, 1, none⟩ (.slice Ao73 t670.length co73)).setCell ⟨gb677, 2, none⟩ (.slice Ao74 t673.length co74)) w.heap.size (fun k_ => nb k_ (.slice Ao73 t670.length co73)) (.slice Ao74 t673.length co74) t673) := ⟨by exact Kd.Rx (Kd.R_mono (Kd.R_far (p := ⟨gb677, 2, none⟩) (Kd.R_far (p := ⟨gb677, 1, none⟩) (Kd.R_far (p := ⟨gb677, 0, none⟩) (Kd.R_types HO675.out BK677.out (by decide)) (fun _ hk => hk.2) (.bool t669)) (fun _ hk => hk.2) (.slice Ao73 t670.length co73)) (fun _ hk => hk.2) (.slice Ao74 t673.length co74)) (fun _ hk => hk.1))⟩
   have n4_ : Aside0 ((((w71.setCell ⟨gb677, 0, none⟩ (.bool t669)).setCell ⟨gb677, 1, none⟩ (.slice Ao73 t670.length co73)).setCell ⟨gb677, 2, none⟩ (.slice Ao74 t673.length co74)).heap[gb677]? = some (.cells #[.bool t669, .slice Ao73 t670.length co73, .slice Ao74 t673.length co74] 34 (0, 0))) := ⟨by (with_reducible repeat (first | refine blk_drewN ?_ _ | refine blk_drew ?_ | refine blk_alloc ?_ _)); refine blk_put (cs := #[.bool t669, .slice Ao73 t670.length co73, .slice none 0 0]) ?_ 2 _ rfl; (with_reducible repeat (first | refine blk_drewN ?_ _ | refine blk_drew ?_ | refine blk_alloc ?_ _)); refine blk_put (cs := #[.bool t669, .slice none 0 0, .slice none 0 0]) ?_ 1 _ rfl; (with_reducible repeat (first | refine blk_drewN ?_ _ | refine blk_drew ?_ | refine blk_alloc ?_ _)); refine blk_put (cs := #[.bool false, .slice none 0 0, .slice none 0 0]) ?_ 0 _ rfl; (with_reducible repeat (first | refine blk_drewN ?_ _ | refine blk_drew ?_ | refine blk_alloc ?_ _)); exact BK677.out⟩
   have n5_ : Aside0 (Below w.heap.size w (((w71.setCell ⟨gb677, 0, none⟩ (.bool t669)).setCell ⟨gb677, 1, none⟩ (.slice Ao73 t670.length co73)).setCell ⟨gb677, 2, none⟩ (.slice Ao74 t673.length co74))) := ⟨Bs⟩
   (try clear HO651)
   (try clear HO668)
   (try clear HO672)
   (try clear HO675)
   (try clear BK677)
   (try clear HB)
   generalize (((w71.setCell ⟨gb677, 0, none⟩ (.bool t669)).setCell ⟨gb677, 1, none⟩ (.slice Ao73 t670.length co73)).setCell ⟨gb677, 2, none⟩ (.slice Ao74 t673.length co74)) = w75 at n0_ n1_ n2_ n3_ n4_ n5_ ⊢
   have HO651 := n0_
   have HO668 := n1_
   have HO672 := n2_
   have HO675 := n3_
   have BK677 := n4_
   have HB := n5_
   clear n0_ n1_ n2_ n3_ n4_ n5_
   replace HO651 := Aside0.mk (Kd.N_drew HO651.out)
   replace HO668 := Aside0.mk (Kd.N_drew HO668.out)
   replace HO672 := Aside0.mk (Kd.R_drew HO672.out)
   replace HO675 := Aside0.mk (Kd.R_drew HO675.out)
   replace BK677 := Aside0.mk (blk_drew BK677.out)
   replace HB := Aside0.mk (below_drew1 HB.out)
   refine start_ (n := 15) (S := fun w' => w'.cell? ⟨gb677, 0, none⟩ = some (.bool t669) ∧ w'.cell? ⟨gb677, 1, none⟩ = some (.slice Ao73 t670.length co73) ∧ w'.cell? ⟨gb677, 2, none⟩ = some (.slice Ao74 t673.length co74)) (ds := []) #[false, false, false, false, false, false, false, false, false, false, false, false, false, false, false] (by kernel_rfl) rfl rfl ⟨(blk_cell BK677.out 0).trans rfl, (blk_cell BK677.out 1).trans rfl, (blk_cell BK677.out 2).trans rfl⟩ (fun hHeld => ?_); refine with_tabW triviumlaw11_works.tab2 triviumlaw11_works.bits2 (fun HT_ HW_ => ?_)
   generalize w75.drew = w76 at HO651 HO668 HO672 HO675 BK677 HB hHeld ⊢
   refine pure_ (i := 0) (N := some 13) (v := ?_) (a' := ?_) #[true, false, false, false, false, false, false, false, false, false, false, false, false, false, false] rfl rfl (any_of HT_.out (by kernel_rfl)) (fun _ _ _ h => h) (Or.inl ⟨by rfl, ?_⟩) ?_ ?_
   rotate_left
   ·
    intro w'
    go_simp
    with_reducible rfl
   rotate_left
   ·
    simp only [Act.put, List.setIfInBounds_toArray, List.set_cons_zero, List.set_cons_succ, i64_w, i32_w]
    rfl
   refine pure_ (i := 1) (N := some 14) (v := ?_) (a' := ?_) #[true, true, false, false, false, false, false, false, false, false, false, false, false, false, false] rfl rfl (any_of HT_.out (by kernel_rfl)) (fun _ _ _ h => h) (Or.inl ⟨by rfl, ?_⟩) ?_ ?_
   rotate_left
   ·
    intro w'
    go_simp
    with_reducible rfl
   rotate_left
   ·
    simp only [Act.put, List.setIfInBounds_toArray, List.set_cons_zero, List.set_cons_succ, i64_w, i32_w]
    rfl
   refine pure_ (i := 2) (N := some 15) (v := ?_) (a' := ?_) #[true, true, true, false, false, false, false, false, false, false, false, false, false, false, false] rfl rfl (any_of HT_.out (by kernel_rfl)) (fun _ _ _ h => h) (Or.inl ⟨by rfl, ?_⟩) ?_ ?_
   rotate_left
   ·
    intro w'
    go_simp
    with_reducible rfl
   rotate_left
   ·
    simp only [Act.put, List.setIfInBounds_toArray, List.set_cons_zero, List.set_cons_succ, i64_w, i32_w]
    rfl
   refine take_ (i := 3) (N := some 16) (v := ?_) (a' := ?_) #[true, true, true, true, false, false, false, false, false, false, false, false, false, false, false] rfl rfl (take_ofW HT_.out HW_.out (by kernel_rfl)) (fun _ _ _ h => h) (Or.inl ⟨by rfl, ?_⟩) hHeld ?_ ?_
   rotate_left
   ·
    rintro w' ⟨s0, s1, s2⟩
    go_simp
    with_reducible rfl
   rotate_left
   ·
    simp only [Act.put, List.setIfInBounds_toArray, List.set_cons_zero, List.set_cons_succ, i64_w, i32_w]
    rfl
   refine one_ (i := 4) (N := some 17) #[true, true, true, true, true, false, false, false, false, false, false, false, false, false, false] rfl rfl (one_of HT_.out (by kernel_rfl)) (by decide) (fun K hK => ?_)
   refine goes_ Try.func13 (by kernel_rfl) rfl #[.int .i64 11] (by rfl) rfl rfl (by (try simp only [List.map_toArray, List.map_cons, List.map_nil]); first | done | rfl | (simp only [List.length_drop, List.length_take]; rfl)) ?_
   with_reducible refine (rat_Of.calls k 11 t678 t679 t682 _ A7.out).mono ?_
   rintro e w77 ⟨v680, v683, rfl, ho0, ho1, hb⟩
   refine ⟨_, rfl, ?_⟩
   replace HO651 := Aside0.mk (Kd.N_mono (Kd.N_told (Kd.N_told (Kd.N_old (by (with_reducible repeat (first | apply Kd.N_alloc | apply Kd.N_drewN | apply Kd.N_drew)); exact HO651.out) hb) (Kd.R_base ho0)) (Kd.R_base ho1)) (fun _ h_ => h_.1))
   replace HO668 := Aside0.mk (Kd.N_mono (Kd.N_told (Kd.N_told (Kd.N_old (by (with_reducible repeat (first | apply Kd.N_alloc | apply Kd.N_drewN | apply Kd.N_drew)); exact HO668.out) hb) (Kd.R_base ho0)) (Kd.R_base ho1)) (fun _ h_ => h_.1))
   have HO681 := Aside0.mk (Kd.R_lower (Kd.R_new' (Kd.R_new' ho0 (Kd.R_lt (Kd.Rx HO672.out))) (Kd.R_lt (Kd.Rx HO675.out))) (below_size (Bs)))
   have HO684 := Aside0.mk (Kd.R_lower (Kd.R_new' (Kd.R_new' ho1 (Kd.R_lt (Kd.Rx HO672.out))) (Kd.R_lt (Kd.Rx HO675.out))) (below_size (Bs)))
   replace HO672 := Aside0.mk (Kd.R_mono (Kd.R_told (Kd.R_told (Kd.R_old (Kd.Rx HO672.out) hb) (Kd.R_base ho0)) (Kd.R_base ho1)) (fun _ h_ => h_.1))
   replace HO675 := Aside0.mk (Kd.R_mono (Kd.R_told (Kd.R_told (Kd.R_old (Kd.Rx HO675.out) hb) (Kd.R_base ho0)) (Kd.R_base ho1)) (fun _ h_ => h_.1))
   replace BK677 := Aside0.mk (blk_below (Kx BK677.out) hb)
   replace HB := Aside0.mk (below_step (Bs) hb)
   (try clear hb)
   (try clear hb2)
   (try clear hk)
   (try clear hi)
   (try clear ho0)
   (try clear ho1)
   obtain ⟨Ao78, co78, eo78⟩ := Kd.R_slice HO681.out
   (first | subst eo78 | (injection eo78 with f1_ f2_ f3_; have f4_ := f1_.symm; have f5_ := f3_.symm; clear f1_ f2_ f3_; subst f4_; subst f5_))
   obtain ⟨Ao79, co79, eo79⟩ := Kd.R_slice HO684.out
   (first | subst eo79 | (injection eo79 with f1_ f2_ f3_; have f4_ := f1_.symm; have f5_ := f3_.symm; clear f1_ f2_ f3_; subst f4_; subst f5_))
   refine hK.out _ _ ⟨(blk_cell BK677.out 0).trans rfl, (blk_cell BK677.out 1).trans rfl, (blk_cell BK677.out 2).trans rfl⟩ (fun hHeld => ?_)
   clear hK K
   refine norm_ (a' := ?_) ?_ ?_
   rotate_left
   ·
    show Act.put _ (some 17) _ = _
    simp only [Act.put, List.setIfInBounds_toArray, List.set_cons_zero, List.set_cons_succ, i64_w, i32_w]
    rfl
   refine one_ (i := 5) (N := some 18) #[true, true, true, true, true, true, false, false, false, false, false, false, false, false, false] rfl rfl (one_of HT_.out (by kernel_rfl)) (by decide) (fun K hK => ?_)
   refine goes_ Try.func12 (by kernel_rfl) rfl #[.agg #[.bool t669, .slice Ao73 t670.length co73, .slice Ao74 t673.length co74], .agg #[.bool t678, .slice Ao78 t679.length co78, .slice Ao79 t682.length co79]] (by rfl) rfl rfl (by (try simp only [List.map_toArray, List.map_cons, List.map_nil]); first | done | rfl | (simp only [List.length_drop, List.length_take]; rfl)) ?_
   with_reducible refine (rat_Same.calls k t669 _ _ t670 _ _ t673 t678 _ _ t679 _ _ t682 false _ ?side1 ?side2 ?side3 ?side4 ?side5 ?side6 ?side7 ?side8 A8.out).mono ?_
   (case side1 => exact Kd.Cx (Kd.R_reads' HO672.out).2.2)
   (case side2 => exact (Kd.R_reads' HO672.out).2.1)
   (case side3 => exact Kd.Cx (Kd.R_reads' HO675.out).2.2)
   (case side4 => exact (Kd.R_reads' HO675.out).2.1)
   (case side5 => exact Kd.Cx (Kd.R_reads' HO681.out).2.2)
   (case side6 => exact (Kd.R_reads' HO681.out).2.1)
   (case side7 => exact Kd.Cx (Kd.R_reads' HO684.out).2.2)
   (case side8 => exact (Kd.R_reads' HO684.out).2.1)
   rintro e w80 ⟨rfl, hb⟩
   refine ⟨_, rfl, ?_⟩
   replace HO651 := Aside0.mk (Kd.N_below (by (with_reducible repeat (first | apply Kd.N_alloc | apply Kd.N_drewN | apply Kd.N_drew)); exact HO651.out) hb)
   replace HO668 := Aside0.mk (Kd.N_below (by (with_reducible repeat (first | apply Kd.N_alloc | apply Kd.N_drewN | apply Kd.N_drew)); exact HO668.out) hb)
   replace HO672 := Aside0.mk (Kd.R_below (Kd.Rx HO672.out) hb)
   replace HO675 := Aside0.mk (Kd.R_below (Kd.Rx HO675.out) hb)
   replace HO681 := Aside0.mk (Kd.R_below (Kd.Rx HO681.out) hb)
   replace HO684 := Aside0.mk (Kd.R_below (Kd.Rx HO684.out) hb)
   replace BK677 := Aside0.mk (blk_below (Kx BK677.out) hb)
   replace HB := Aside0.mk (below_step (Bs) hb)
   (try clear hb)
   (try clear hb2)
   (try clear hk)
   (try clear hi)
   refine hK.out _ _ ⟨(blk_cell BK677.out 0).trans rfl, (blk_cell BK677.out 1).trans rfl, (blk_cell BK677.out 2).trans rfl⟩ (fun hHeld => ?_)
   clear hK K
   refine norm_ (a' := ?_) ?_ ?_
   rotate_left
   ·
    show Act.put _ (some 18) _ = _
    simp only [Act.put, List.setIfInBounds_toArray, List.set_cons_zero, List.set_cons_succ, i64_w, i32_w]
    rfl
   refine pure_ (i := 6) (N := some 19) (v := ?_) (a' := ?_) #[true, true, true, true, true, true, true, false, false, false, false, false, false, false, false] rfl rfl (any_of HT_.out (by kernel_rfl)) (fun _ _ _ h => h) (Or.inl ⟨by rfl, ?_⟩) ?_ ?_
   rotate_left
   ·
    intro w'
    go_simp
    with_reducible rfl
   rotate_left
   ·
    simp only [Act.put, List.setIfInBounds_toArray, List.set_cons_zero, List.set_cons_succ, i64_w, i32_w]
    rfl
   refine pure_ (i := 7) (N := some 20) (v := ?_) (a' := ?_) #[true, true, true, true, true, true, true, true, false, false, false, false, false, false, false] rfl rfl (any_of HT_.out (by kernel_rfl)) (fun _ _ _ h => h) (Or.inl ⟨by rfl, ?_⟩) ?_ ?_
   rotate_left
   ·
    intro w'
    go_simp
    with_reducible rfl
   rotate_left
   ·
    simp only [Act.put, List.setIfInBounds_toArray, List.set_cons_zero, List.set_cons_succ, i64_w, i32_w]
    rfl
   refine pure_ (i := 8) (N := some 21) (v := undef) (a' := ?_) #[true, true, true, true, true, true, true, true, true, false, false, false, false, false, false] rfl rfl (any_of HT_.out (by kernel_rfl)) (fun _ _ _ h => h) (Or.inr ⟨by rfl, rfl⟩) ?_ ?_
   rotate_left
   ·
    simp only [Act.put, List.setIfInBounds_toArray, List.set_cons_zero, List.set_cons_succ, i64_w, i32_w]
    rfl
   refine pure_ (i := 9) (N := some 22) (v := undef) (a' := ?_) #[true, true, true, true, true, true, true, true, true, true, false, false, false, false, false] rfl rfl (any_of HT_.out (by kernel_rfl)) (fun _ _ _ h => h) (Or.inr ⟨by rfl, rfl⟩) ?_ ?_
   rotate_left
   ·
    simp only [Act.put, List.setIfInBounds_toArray, List.set_cons_zero, List.set_cons_succ, i64_w, i32_w]
    rfl
   refine pure_ (i := 10) (N := some 23) (v := undef) (a' := ?_) #[true, true, true, true, true, true, true, true, true, true, true, false, false, false, false] rfl rfl (any_of HT_.out (by kernel_rfl)) (fun _ _ _ h => h) (Or.inr ⟨by rfl, rfl⟩) ?_ ?_
   rotate_left
   ·
    simp only [Act.put, List.setIfInBounds_toArray, List.set_cons_zero, List.set_cons_succ, i64_w, i32_w]
    rfl
   refine pure_ (i := 11) (N := some 24) (v := undef) (a' := ?_) #[true, true, true, true, true, true, true, true, true, true, true, true, false, false, false] rfl rfl (any_of HT_.out (by kernel_rfl)) (fun _ _ _ h => h) (Or.inr ⟨by rfl, rfl⟩) ?_ ?_
   rotate_left
   ·
    simp only [Act.put, List.setIfInBounds_toArray, List.set_cons_zero, List.set_cons_succ, i64_w, i32_w]
    rfl
   refine pure_ (i := 12) (N := some 25) (v := undef) (a' := ?_) #[true, true, true, true, true, true, true, true, true, true, true, true, true, false, false] rfl rfl (any_of HT_.out (by kernel_rfl)) (fun _ _ _ h => h) (Or.inr ⟨by rfl, rfl⟩) ?_ ?_
   rotate_left
   ·
    simp only [Act.put, List.setIfInBounds_toArray, List.set_cons_zero, List.set_cons_succ, i64_w, i32_w]
    rfl
   refine pure_ (i := 13) (N := some 26) (v := ?_) (a' := ?_) #[true, true, true, true, true, true, true, true, true, true, true, true, true, true, false] rfl rfl (any_of HT_.out (by kernel_rfl)) (fun _ _ _ h => h) (Or.inl ⟨by rfl, ?_⟩) ?_ ?_
   rotate_left
   ·
    intro w'
    go_simp
    with_reducible rfl
   rotate_left
   ·
    simp only [Act.put, List.setIfInBounds_toArray, List.set_cons_zero, List.set_cons_succ, i64_w, i32_w]
    rfl
   refine pure_ (i := 14) (N := some 0) (v := ?_) (a' := ?_) #[true, true, true, true, true, true, true, true, true, true, true, true, true, true, true] rfl rfl (any_of HT_.out (by kernel_rfl)) (fun _ _ _ h => h) (Or.inl ⟨by rfl, ?_⟩) ?_ ?_
   rotate_left
   ·
    intro w'
    go_simp
    with_reducible rfl
   rotate_left
   ·
    simp only [Act.put, List.setIfInBounds_toArray, List.set_cons_zero, List.set_cons_succ, i64_w, i32_w]
    rfl
   refine done_ (done_of HT_.out (by kernel_rfl)) ?_
   try go_wp2
   go_ret
   exact ⟨by first | rfl | (simp only [u64_u32_] <;> rfl) | (simp [errW_none, errW_some] <;> rfl) | (simp [*, errW_none, errW_some] <;> rfl), Bs⟩
 ·
  rw [if_neg c6] at H
  have c6b0 : (t676 == 0) = false := beq_eq_false_iff_ne.mpr c6
  have c6b1 : (t676 != 0) = true := bne_iff_ne.mpr c6
  obtain rfl := Option.some.inj H
  go_enter Try.func11, Try.ntmps11
  try go_wp2_with (first | ((with_reducible refine gate_callee (f := 13) rfl ?_); refine goesx (some 4) Try.func13 #[.int .i64 1] ?_; (with_reducible refine (rat_Of.calls k 1 t635 t636 t639 _ A1.out).mono ?_); rintro e w81 ⟨v637, v640, rfl, ho0, ho1, hb⟩; refine ⟨_, rfl, ?_⟩; have HO638 := Aside0.mk (Kd.R_lower ho0 (below_size (Bx HB.out))); have HO641 := Aside0.mk (Kd.R_lower ho1 (below_size (Bx HB.out))); replace HB := Aside0.mk (below_step (Bx HB.out) hb); (try clear hb); (try clear hb2); (try clear hk); (try clear hi); (try clear ho0); (try clear ho1)) | ((with_reducible refine gate_callee (f := 13) rfl ?_); refine goesx (some 5) Try.func13 #[.int .i64 2] ?_; (with_reducible refine (rat_Of.calls k 2 t642 t643 t646 _ A2.out).mono ?_); rintro e w82 ⟨v644, v647, rfl, ho0, ho1, hb⟩; refine ⟨_, rfl, ?_⟩; have HO645 := Aside0.mk (Kd.R_lower (Kd.R_new' (Kd.R_new' ho0 (Kd.R_lt (Kd.Rx HO638.out))) (Kd.R_lt (Kd.Rx HO641.out))) (below_size (Bx HB.out))); have HO648 := Aside0.mk (Kd.R_lower (Kd.R_new' (Kd.R_new' ho1 (Kd.R_lt (Kd.Rx HO638.out))) (Kd.R_lt (Kd.Rx HO641.out))) (below_size (Bx HB.out))); replace HO638 := Aside0.mk (Kd.R_mono (Kd.R_told (Kd.R_told (Kd.R_old (Kd.Rx HO638.out) hb) (Kd.R_base ho0)) (Kd.R_base ho1)) (fun _ h_ => h_.1)); replace HO641 := Aside0.mk (Kd.R_mono (Kd.R_told (Kd.R_told (Kd.R_old (Kd.Rx HO641.out) hb) (Kd.R_base ho0)) (Kd.R_base ho1)) (fun _ h_ => h_.1)); replace HB := Aside0.mk (below_step (Bx HB.out) hb); (try clear hb); (try clear hb2); (try clear hk); (try clear hi); (try clear ho0); (try clear ho1); obtain ⟨Ao83, co83, eo83⟩ := Kd.R_slice HO638.out; subst eo83; obtain ⟨Ao84, co84, eo84⟩ := Kd.R_slice HO641.out; subst eo84; obtain ⟨Ao85, co85, eo85⟩ := Kd.R_slice HO645.out; subst eo85; obtain ⟨Ao86, co86, eo86⟩ := Kd.R_slice HO648.out; subst eo86) | ((with_reducible refine gate_dst (N := 6) rfl ?_); (try (refine gate_guard (by rfl) ?_; dsimp only)); refine Kd.N_lit k34 _ 34 ?hg (N' := 6) ?hd (xs := ([(⟨(⟨t635, t636⟩ : S32), t639⟩ : S34), (⟨(⟨t642, t643⟩ : S32), t646⟩ : S34)] : List (S34))) (inner := [.bool t635, .slice Ao83 t636.length co83, .slice Ao84 t639.length co84, .bool t642, .slice Ao85 t643.length co85, .slice Ao86 t646.length co86]) (ok := (fun _ => True)) (okp := (fun _ => True)) ?hr ?hp (fun _ hk => hk) ((show ∀ k_, w82.heap.size ≤ k_ → (fun _ => True) k_ from fun k_ hk => trivial) _ (Nat.le_refl _)) (Below.refl _ _) (Nat.le_refl _) (by simp) ?_; (case hd => rfl); (case hg => rfl); (case hr => first | (go_simp; done) | (go_simp; rfl)); (case hp => exact (Reps.c3 (show Kd.FK k34 _ _ (⟨(⟨t635, t636⟩ : S32), t639⟩ : S34) [.bool t635, .slice Ao83 t636.length co83, .slice Ao84 t639.length co84] from (k34_mkF _ _ (⟨(⟨t635, t636⟩ : S32), t639⟩ : S34) (Kd.R_reads' (Kd.R_mono (ok' := (fun _ => True)) (HO638.out) (fun k_ hk => trivial))).2.1 (Kd.R_F (Kd.R_mono (ok' := (fun _ => True)) (HO638.out) (fun k_ hk => trivial))) (Kd.R_reads' (Kd.R_mono (ok' := (fun _ => True)) (HO641.out) (fun k_ hk => trivial))).2.1 (Kd.R_F (Kd.R_mono (ok' := (fun _ => True)) (HO641.out) (fun k_ hk => trivial))))) (Reps.c3 (show Kd.FK k34 _ _ (⟨(⟨t642, t643⟩ : S32), t646⟩ : S34) [.bool t642, .slice Ao85 t643.length co85, .slice Ao86 t646.length co86] from (k34_mkF _ _ (⟨(⟨t642, t643⟩ : S32), t646⟩ : S34) (Kd.R_reads' (Kd.R_mono (ok' := (fun _ => True)) (HO645.out) (fun k_ hk => trivial))).2.1 (Kd.R_F (Kd.R_mono (ok' := (fun _ => True)) (HO645.out) (fun k_ hk => trivial))) (Kd.R_reads' (Kd.R_mono (ok' := (fun _ => True)) (HO648.out) (fun k_ hk => trivial))).2.1 (Kd.R_F (Kd.R_mono (ok' := (fun _ => True)) (HO648.out) (fun k_ hk => trivial))))) (Reps.none _ _)))); intro v650 w87 ho88 hb hg_ hnew_; clear hg_ hnew_; (first | rw [← Ny649.out] at ho88 | (simp only [Int.reduceToNat] at ho88; rw [← Ny649.out] at ho88)); have HO651 := Aside0.mk (Kd.N_lower ho88 (below_size (Bx HB.out))); replace HB := Aside0.mk (below_step (Bx HB.out) hb); clear HO638 HO641 HO645 HO648; clear hb ho88) | ((with_reducible refine gate_callee (f := 13) rfl ?_); refine goesx (some 7) Try.func13 #[.int .i64 3] ?_; (with_reducible refine (rat_Of.calls k 3 t652 t653 t656 _ A3.out).mono ?_); rintro e w89 ⟨v654, v657, rfl, ho0, ho1, hb⟩; refine ⟨_, rfl, ?_⟩; replace HO651 := Aside0.mk (Kd.N_mono (Kd.N_told (Kd.N_told (Kd.N_old (by (with_reducible repeat (first | apply Kd.N_alloc | apply Kd.N_drewN | apply Kd.N_drew)); exact HO651.out) hb) (Kd.R_base ho0)) (Kd.R_base ho1)) (fun _ h_ => h_.1)); have HO655 := Aside0.mk (Kd.R_lower ho0 (below_size (Bx HB.out))); have HO658 := Aside0.mk (Kd.R_lower ho1 (below_size (Bx HB.out))); replace HB := Aside0.mk (below_step (Bx HB.out) hb); (try clear hb); (try clear hb2); (try clear hk); (try clear hi); (try clear ho0); (try clear ho1)) | ((with_reducible refine gate_callee (f := 13) rfl ?_); refine goesx (some 8) Try.func13 #[.int .i64 4] ?_; (with_reducible refine (rat_Of.calls k 4 t659 t660 t663 _ A4.out).mono ?_); rintro e w90 ⟨v661, v664, rfl, ho0, ho1, hb⟩; refine ⟨_, rfl, ?_⟩; replace HO651 := Aside0.mk (Kd.N_mono (Kd.N_told (Kd.N_told (Kd.N_old (by (with_reducible repeat (first | apply Kd.N_alloc | apply Kd.N_drewN | apply Kd.N_drew)); exact HO651.out) hb) (Kd.R_base ho0)) (Kd.R_base ho1)) (fun _ h_ => h_.1)); have HO662 := Aside0.mk (Kd.R_lower (Kd.R_new' (Kd.R_new' ho0 (Kd.R_lt (Kd.Rx HO655.out))) (Kd.R_lt (Kd.Rx HO658.out))) (below_size (Bx HB.out))); have HO665 := Aside0.mk (Kd.R_lower (Kd.R_new' (Kd.R_new' ho1 (Kd.R_lt (Kd.Rx HO655.out))) (Kd.R_lt (Kd.Rx HO658.out))) (below_size (Bx HB.out))); replace HO655 := Aside0.mk (Kd.R_mono (Kd.R_told (Kd.R_told (Kd.R_old (Kd.Rx HO655.out) hb) (Kd.R_base ho0)) (Kd.R_base ho1)) (fun _ h_ => h_.1)); replace HO658 := Aside0.mk (Kd.R_mono (Kd.R_told (Kd.R_told (Kd.R_old (Kd.Rx HO658.out) hb) (Kd.R_base ho0)) (Kd.R_base ho1)) (fun _ h_ => h_.1)); replace HB := Aside0.mk (below_step (Bx HB.out) hb); (try clear hb); (try clear hb2); (try clear hk); (try clear hi); (try clear ho0); (try clear ho1); obtain ⟨Ao91, co91, eo91⟩ := Kd.R_slice HO655.out; subst eo91; obtain ⟨Ao92, co92, eo92⟩ := Kd.R_slice HO658.out; subst eo92; obtain ⟨Ao93, co93, eo93⟩ := Kd.R_slice HO662.out; subst eo93; obtain ⟨Ao94, co94, eo94⟩ := Kd.R_slice HO665.out; subst eo94) | ((with_reducible refine gate_dst (N := 9) rfl ?_); (try (refine gate_guard (by rfl) ?_; dsimp only)); refine Kd.N_lit k34 _ 34 ?hg (N' := 9) ?hd (xs := ([(⟨(⟨t652, t653⟩ : S32), t656⟩ : S34), (⟨(⟨t659, t660⟩ : S32), t663⟩ : S34)] : List (S34))) (inner := [.bool t652, .slice Ao91 t653.length co91, .slice Ao92 t656.length co92, .bool t659, .slice Ao93 t660.length co93, .slice Ao94 t663.length co94]) (ok := (fun k_ => nb k_ v650)) (okp := (fun k_ => nb k_ v650)) ?hr ?hp (fun _ hk => hk) ((show ∀ k_, w90.heap.size ≤ k_ → (fun k_ => nb k_ v650) k_ from fun k_ hk => Kd.fresh' (Kd.N_lt (by (with_reducible repeat (first | apply Kd.N_alloc | apply Kd.N_drewN | apply Kd.N_drew)); exact HO651.out)) k_ hk) _ (Nat.le_refl _)) (Below.refl _ _) (Nat.le_refl _) (by simp) ?_; (case hd => rfl); (case hg => rfl); (case hr => first | (go_simp; done) | (go_simp; rfl)); (case hp => exact (Reps.c3 (show Kd.FK k34 _ _ (⟨(⟨t652, t653⟩ : S32), t656⟩ : S34) [.bool t652, .slice Ao91 t653.length co91, .slice Ao92 t656.length co92] from (k34_mkF _ _ (⟨(⟨t652, t653⟩ : S32), t656⟩ : S34) (Kd.R_reads' (Kd.R_mono (ok' := (fun k_ => nb k_ v650)) (Kd.R_apart' (HO655.out) (Kd.N_typed HO651.out) (by decide)) (fun k_ hk => hk.2))).2.1 (Kd.R_F (Kd.R_mono (ok' := (fun k_ => nb k_ v650)) (Kd.R_apart' (HO655.out) (Kd.N_typed HO651.out) (by decide)) (fun k_ hk => hk.2))) (Kd.R_reads' (Kd.R_mono (ok' := (fun k_ => nb k_ v650)) (Kd.R_apart' (HO658.out) (Kd.N_typed HO651.out) (by decide)) (fun k_ hk => hk.2))).2.1 (Kd.R_F (Kd.R_mono (ok' := (fun k_ => nb k_ v650)) (Kd.R_apart' (HO658.out) (Kd.N_typed HO651.out) (by decide)) (fun k_ hk => hk.2))))) (Reps.c3 (show Kd.FK k34 _ _ (⟨(⟨t659, t660⟩ : S32), t663⟩ : S34) [.bool t659, .slice Ao93 t660.length co93, .slice Ao94 t663.length co94] from (k34_mkF _ _ (⟨(⟨t659, t660⟩ : S32), t663⟩ : S34) (Kd.R_reads' (Kd.R_mono (ok' := (fun k_ => nb k_ v650)) (Kd.R_apart' (HO662.out) (Kd.N_typed HO651.out) (by decide)) (fun k_ hk => hk.2))).2.1 (Kd.R_F (Kd.R_mono (ok' := (fun k_ => nb k_ v650)) (Kd.R_apart' (HO662.out) (Kd.N_typed HO651.out) (by decide)) (fun k_ hk => hk.2))) (Kd.R_reads' (Kd.R_mono (ok' := (fun k_ => nb k_ v650)) (Kd.R_apart' (HO665.out) (Kd.N_typed HO651.out) (by decide)) (fun k_ hk => hk.2))).2.1 (Kd.R_F (Kd.R_mono (ok' := (fun k_ => nb k_ v650)) (Kd.R_apart' (HO665.out) (Kd.N_typed HO651.out) (by decide)) (fun k_ hk => hk.2))))) (Reps.none _ _)))); intro v667 w95 ho96 hb hg_ hnew_; clear hg_ hnew_; (first | rw [← Ny666.out] at ho96 | (simp only [Int.reduceToNat] at ho96; rw [← Ny666.out] at ho96)); replace HO651 := Aside0.mk (Kd.N_elder' (by (with_reducible repeat (first | apply Kd.N_alloc | apply Kd.N_drewN | apply Kd.N_drew)); exact HO651.out) (Kd.N_base ho96) hb); have HO668 := Aside0.mk (Kd.N_lower ho96 (below_size (Bx HB.out))); replace HB := Aside0.mk (below_step (Bx HB.out) hb); clear HO655 HO658 HO662 HO665; clear hb ho96; obtain ⟨Ao97, co97, eo97⟩ := Kd.N_slice HO651.out; subst eo97; obtain ⟨Ao98, co98, eo98⟩ := Kd.N_slice HO668.out; subst eo98) | ((with_reducible refine gate_callee (f := 19) rfl ?_); refine goesx (some 10) Try.func19 #[.slice Ao97 y649.length co97, .slice Ao98 y666.length co98] ?_; (with_reducible refine (vect_Dot.calls k _ _ y649 _ _ y666 t669 t670 t673 t676 _ ?side1 ?side2 ?side3 ?side4 A5.out).mono ?_); (case side1 => exact Kd.Cx (Kd.N_reads' HO651.out).2.2); (case side2 => exact (Kd.N_reads' HO651.out).2.1); (case side3 => exact Kd.Cx (Kd.N_reads' HO668.out).2.2); (case side4 => exact (Kd.N_reads' HO668.out).2.1); rintro e w99 ⟨v671, v674, rfl, ho0, ho1, hb⟩; refine ⟨_, rfl, ?_⟩; replace HO651 := Aside0.mk (Kd.N_mono (Kd.N_told (Kd.N_told (Kd.N_old (by (with_reducible repeat (first | apply Kd.N_alloc | apply Kd.N_drewN | apply Kd.N_drew)); exact HO651.out) hb) (Kd.R_base ho0)) (Kd.R_base ho1)) (fun _ h_ => h_.1)); replace HO668 := Aside0.mk (Kd.N_mono (Kd.N_told (Kd.N_told (Kd.N_old (by (with_reducible repeat (first | apply Kd.N_alloc | apply Kd.N_drewN | apply Kd.N_drew)); exact HO668.out) hb) (Kd.R_base ho0)) (Kd.R_base ho1)) (fun _ h_ => h_.1)); have HO672 := Aside0.mk (Kd.R_lower ho0 (below_size (Bx HB.out))); have HO675 := Aside0.mk (Kd.R_lower ho1 (below_size (Bx HB.out))); replace HB := Aside0.mk (below_step (Bx HB.out) hb); (try clear hb); (try clear hb2); (try clear hk); (try clear hi); (try clear ho0); (try clear ho1)) | ((with_reducible refine gate_dst (N := 1) rfl ?_); (try (refine gate_guard (by rfl) ?_; dsimp only)); refine box_event ?hg (N := 1) ?hd (cs := #[.bool false, .slice none 0 0, .slice none 0 0]) (t := 34) ?hr ?_; (case hd => rfl); (case hg => rfl); (case hr => first | (go_simp; done) | (go_simp; rfl)); intro gb677 hg w100 hbox hb; replace HO651 := Aside0.mk (Kd.N_below (Kd.N_elderB (by (with_reducible repeat (first | apply Kd.N_alloc | apply Kd.N_drewN | apply Kd.N_drew)); exact HO651.out) gb677 (Nat.le_of_eq hg.symm)) hb); replace HO668 := Aside0.mk (Kd.N_below (Kd.N_elderB (by (with_reducible repeat (first | apply Kd.N_alloc | apply Kd.N_drewN | apply Kd.N_drew)); exact HO668.out) gb677 (Nat.le_of_eq hg.symm)) hb); replace HO672 := Aside0.mk (Kd.R_below (Kd.Rx HO672.out) hb); replace HO675 := Aside0.mk (Kd.R_below (Kd.Rx HO675.out) hb); have BK677 := Aside0.mk (hbox); have GW677 := Aside0.mk ((by rw [hg]; exact (below_size (Bx HB.out)) : w.heap.size ≤ gb677)); have GE677 := Aside0.mk ((by rw [hg]; exact (below_size (Bx HB.out)) : w.heap.size ≤ gb677)); replace HB := Aside0.mk (below_step (Bx HB.out) hb); clear hb hbox hg; have hcz101_0 : w100.cell? ⟨gb677, 0, none⟩ = some (.bool false) := (blk_cell BK677.out 0).trans rfl; have hcz101_1 : w100.cell? ⟨gb677, 1, none⟩ = some (.slice none 0 0) := (blk_cell BK677.out 1).trans rfl; have hcz101_2 : w100.cell? ⟨gb677, 2, none⟩ = some (.slice none 0 0) := (blk_cell BK677.out 2).trans rfl; have hfz101_0 := blk_frozen BK677.out 0; have hfz101_1 := blk_frozen BK677.out 1; have hfz101_2 := blk_frozen BK677.out 2; obtain ⟨Ao102, co102, eo102⟩ := Kd.R_slice HO672.out; subst eo102; obtain ⟨Ao103, co103, eo103⟩ := Kd.R_slice HO675.out; subst eo103))
  have n0_ : Aside0 (Kd.N k34 34 (((w100.setCell ⟨gb677, 0, none⟩ (.bool t669)).setCell ⟨gb677, 1, none⟩ (.slice Ao102 t670.length co102)).setCell ⟨gb677, 2, none⟩ (.slice Ao103 t673.length co103)) w.heap.size (fun k_ => nb k_ (.slice Ao98 y666.length co98) ∧ nb k_ (.slice Ao102 t670.length co102) ∧ nb k_ (.slice Ao103 t673.length co103) ∧ k_ ≠ gb677) (.slice Ao97 y649.length co97) y649) := ⟨by (with_reducible repeat (first | apply Kd.N_alloc | apply Kd.N_drewN | apply Kd.N_drew)); exact Kd.N_mono (Kd.N_far (p := ⟨gb677, 2, none⟩) (Kd.N_far (p := ⟨gb677, 1, none⟩) (Kd.N_far (p := ⟨gb677, 0, none⟩) (Kd.N_mono HO651.out (fun k_ hk => (⟨hk, hk.2⟩ : _ ∧ k_ ≠ gb677))) (fun _ hk => hk.2) (.bool t669)) (fun _ hk => hk.2) (.slice Ao102 t670.length co102)) (fun _ hk => hk.2) (.slice Ao103 t673.length co103)) (fun _ hk => ⟨hk.1.1.1.1.2, ⟨hk.1.1.1.2, ⟨hk.1.1.2, hk.1.2⟩⟩⟩)⟩
  have n1_ : Aside0 (Kd.N k34 34 (((w100.setCell ⟨gb677, 0, none⟩ (.bool t669)).setCell ⟨gb677, 1, none⟩ (.slice Ao102 t670.length co102)).setCell ⟨gb677, 2, none⟩ (.slice Ao103 t673.length co103)) w.heap.size (fun k_ => nb k_ (.slice Ao97 y649.length co97) ∧ nb k_ (.slice Ao102 t670.length co102) ∧ nb k_ (.slice Ao103 t673.length co103) ∧ k_ ≠ gb677) (.slice Ao98 y666.length co98) y666) := ⟨by (with_reducible repeat (first | apply Kd.N_alloc | apply Kd.N_drewN | apply Kd.N_drew)); exact Kd.N_mono (Kd.N_far (p := ⟨gb677, 2, none⟩) (Kd.N_far (p := ⟨gb677, 1, none⟩) (Kd.N_far (p := ⟨gb677, 0, none⟩) (Kd.N_mono HO668.out (fun k_ hk => (⟨hk, hk.2⟩ : _ ∧ k_ ≠ gb677))) (fun _ hk => hk.2) (.bool t669)) (fun _ hk => hk.2) (.slice Ao102 t670.length co102)) (fun _ hk => hk.2) (.slice Ao103 t673.length co103)) (fun _ hk => ⟨hk.1.1.1.1, ⟨hk.1.1.1.2, ⟨hk.1.1.2, hk.1.2⟩⟩⟩)⟩
  have n2_ : Aside0 (Kd.R (Kd.int .u64) 96 (((w100.setCell ⟨gb677, 0, none⟩ (.bool t669)).setCell ⟨gb677, 1, none⟩ (.slice Ao102 t670.length co102)).setCell ⟨gb677, 2, none⟩ (.slice Ao103 t673.length co103)) w.heap.size (fun k_ => nb k_ (.slice Ao103 t673.length co103)) (.slice Ao102 t670.length co102) t670) := ⟨by exact Kd.Rx (Kd.R_mono (Kd.R_far (p := ⟨gb677, 2, none⟩) (Kd.R_far (p := ⟨gb677, 1, none⟩) (Kd.R_far (p := ⟨gb677, 0, none⟩) (Kd.R_types HO672.out BK677.out (by decide)) (fun _ hk => hk.2) (.bool t669)) (fun _ hk => hk.2) (.slice Ao102 t670.length co102)) (fun _ hk => hk.2) (.slice Ao103 t673.length co103)) (fun _ hk => hk.1))⟩
  have n3_ : Aside0 (Kd.R (Kd.int .u64) 96 (((w100.setCell ⟨gb677, 0, none⟩ (.bool t669)).setCell ⟨gb677, 1, none⟩ (.slice Ao102 t670.length co102)).setCell ⟨gb677, 2, none⟩ (.slice Ao103 t673.length co103)) w.heap.size (fun k_ => nb k_ (.slice Ao102 t670.length co102)) (.slice Ao103 t673.length co103) t673) := ⟨by exact Kd.Rx (Kd.R_mono (Kd.R_far (p := ⟨gb677, 2, none⟩) (Kd.R_far (p := ⟨gb677, 1, none⟩) (Kd.R_far (p := ⟨gb677, 0, none⟩) (Kd.R_types HO675.out BK677.out (by decide)) (fun _ hk => hk.2) (.bool t669)) (fun _ hk => hk.2) (.slice Ao102 t670.length co102)) (fun _ hk => hk.2) (.slice Ao103 t673.length co103)) (fun _ hk => hk.1))⟩
  have n4_ : Aside0 ((((w100.setCell ⟨gb677, 0, none⟩ (.bool t669)).setCell ⟨gb677, 1, none⟩ (.slice Ao102 t670.length co102)).setCell ⟨gb677, 2, none⟩ (.slice Ao103 t673.length co103)).heap[gb677]? = some (.cells #[.bool t669, .slice Ao102 t670.length co102, .slice Ao103 t673.length co103] 34 (0, 0))) := ⟨by (with_reducible repeat (first | refine blk_drewN ?_ _ | refine blk_drew ?_ | refine blk_alloc ?_ _)); refine blk_put (cs := #[.bool t669, .slice Ao102 t670.length co102, .slice none 0 0]) ?_ 2 _ rfl; (with_reducible repeat (first | refine blk_drewN ?_ _ | refine blk_drew ?_ | refine blk_alloc ?_ _)); refine blk_put (cs := #[.bool t669, .slice none 0 0, .slice none 0 0]) ?_ 1 _ rfl; (with_reducible repeat (first | refine blk_drewN ?_ _ | refine blk_drew ?_ | refine blk_alloc ?_ _)); refine blk_put (cs := #[.bool false, .slice none 0 0, .slice none 0 0]) ?_ 0 _ rfl; (with_reducible repeat (first | refine blk_drewN ?_ _ | refine blk_drew ?_ | refine blk_alloc ?_ _)); exact BK677.out⟩
  have n5_ : Aside0 (Below w.heap.size w (((w100.setCell ⟨gb677, 0, none⟩ (.bool t669)).setCell ⟨gb677, 1, none⟩ (.slice Ao102 t670.length co102)).setCell ⟨gb677, 2, none⟩ (.slice Ao103 t673.length co103))) := ⟨Bs⟩
  (try clear HO651)
  (try clear HO668)
  (try clear HO672)
  (try clear HO675)
  (try clear BK677)
  (try clear HB)
  generalize (((w100.setCell ⟨gb677, 0, none⟩ (.bool t669)).setCell ⟨gb677, 1, none⟩ (.slice Ao102 t670.length co102)).setCell ⟨gb677, 2, none⟩ (.slice Ao103 t673.length co103)) = w104 at n0_ n1_ n2_ n3_ n4_ n5_ ⊢
  have HO651 := n0_
  have HO668 := n1_
  have HO672 := n2_
  have HO675 := n3_
  have BK677 := n4_
  have HB := n5_
  clear n0_ n1_ n2_ n3_ n4_ n5_
  replace HO651 := Aside0.mk (Kd.N_drew HO651.out)
  replace HO668 := Aside0.mk (Kd.N_drew HO668.out)
  replace HO672 := Aside0.mk (Kd.R_drew HO672.out)
  replace HO675 := Aside0.mk (Kd.R_drew HO675.out)
  replace BK677 := Aside0.mk (blk_drew BK677.out)
  replace HB := Aside0.mk (below_drew1 HB.out)
  refine start_ (n := 15) (S := fun w' => True) (ds := []) #[false, false, false, false, false, false, false, false, false, false, false, false, false, false, false] (by kernel_rfl) rfl rfl trivial (fun hHeld => ?_); refine with_tabW triviumlaw11_works.tab2 triviumlaw11_works.bits2 (fun HT_ HW_ => ?_)
  generalize w104.drew = w105 at HO651 HO668 HO672 HO675 BK677 HB hHeld ⊢
  refine pure_ (i := 0) (N := some 13) (v := ?_) (a' := ?_) #[true, false, false, false, false, false, false, false, false, false, false, false, false, false, false] rfl rfl (any_of HT_.out (by kernel_rfl)) (fun _ _ _ h => h) (Or.inl ⟨by rfl, ?_⟩) ?_ ?_
  rotate_left
  ·
   intro w'
   go_simp
   with_reducible rfl
  rotate_left
  ·
   simp only [Act.put, List.setIfInBounds_toArray, List.set_cons_zero, List.set_cons_succ, i64_w, i32_w]
   rfl
  refine pure_ (i := 1) (N := some 14) (v := ?_) (a' := ?_) #[true, true, false, false, false, false, false, false, false, false, false, false, false, false, false] rfl rfl (any_of HT_.out (by kernel_rfl)) (fun _ _ _ h => h) (Or.inl ⟨by rfl, ?_⟩) ?_ ?_
  rotate_left
  ·
   intro w'
   go_simp
   with_reducible rfl
  rotate_left
  ·
   simp only [Act.put, List.setIfInBounds_toArray, List.set_cons_zero, List.set_cons_succ, i64_w, i32_w]
   rfl
  refine pure_ (i := 2) (N := some 15) (v := ?_) (a' := ?_) #[true, true, true, false, false, false, false, false, false, false, false, false, false, false, false] rfl rfl (any_of HT_.out (by kernel_rfl)) (fun _ _ _ h => h) (Or.inl ⟨by rfl, ?_⟩) ?_ ?_
  rotate_left
  ·
   intro w'
   go_simp
   with_reducible rfl
  rotate_left
  ·
   simp only [Act.put, List.setIfInBounds_toArray, List.set_cons_zero, List.set_cons_succ, i64_w, i32_w]
   rfl
  refine pure_ (i := 3) (N := some 16) (v := undef) (a' := ?_) #[true, true, true, true, false, false, false, false, false, false, false, false, false, false, false] rfl rfl (any_of HT_.out (by kernel_rfl)) (fun _ _ _ h => h) (Or.inr ⟨by rfl, rfl⟩) ?_ ?_
  rotate_left
  ·
   simp only [Act.put, List.setIfInBounds_toArray, List.set_cons_zero, List.set_cons_succ, i64_w, i32_w]
   rfl
  refine pure_ (i := 4) (N := some 17) (v := undef) (a' := ?_) #[true, true, true, true, true, false, false, false, false, false, false, false, false, false, false] rfl rfl (any_of HT_.out (by kernel_rfl)) (fun _ _ _ h => h) (Or.inr ⟨by rfl, rfl⟩) ?_ ?_
  rotate_left
  ·
   simp only [Act.put, List.setIfInBounds_toArray, List.set_cons_zero, List.set_cons_succ, i64_w, i32_w]
   rfl
  refine pure_ (i := 5) (N := some 18) (v := undef) (a' := ?_) #[true, true, true, true, true, true, false, false, false, false, false, false, false, false, false] rfl rfl (any_of HT_.out (by kernel_rfl)) (fun _ _ _ h => h) (Or.inr ⟨by rfl, rfl⟩) ?_ ?_
  rotate_left
  ·
   simp only [Act.put, List.setIfInBounds_toArray, List.set_cons_zero, List.set_cons_succ, i64_w, i32_w]
   rfl
  refine pure_ (i := 6) (N := some 19) (v := ?_) (a' := ?_) #[true, true, true, true, true, true, true, false, false, false, false, false, false, false, false] rfl rfl (any_of HT_.out (by kernel_rfl)) (fun _ _ _ h => h) (Or.inl ⟨by rfl, ?_⟩) ?_ ?_
  rotate_left
  ·
   intro w'
   go_simp
   with_reducible rfl
  rotate_left
  ·
   simp only [Act.put, List.setIfInBounds_toArray, List.set_cons_zero, List.set_cons_succ, i64_w, i32_w]
   rfl
  refine pure_ (i := 7) (N := some 20) (v := ?_) (a' := ?_) #[true, true, true, true, true, true, true, true, false, false, false, false, false, false, false] rfl rfl (any_of HT_.out (by kernel_rfl)) (fun _ _ _ h => h) (Or.inl ⟨by rfl, ?_⟩) ?_ ?_
  rotate_left
  ·
   intro w'
   go_simp
   with_reducible rfl
  rotate_left
  ·
   simp only [Act.put, List.setIfInBounds_toArray, List.set_cons_zero, List.set_cons_succ, i64_w, i32_w]
   rfl
  refine pure_ (i := 8) (N := some 21) (v := undef) (a' := ?_) #[true, true, true, true, true, true, true, true, true, false, false, false, false, false, false] rfl rfl (any_of HT_.out (by kernel_rfl)) (fun _ _ _ h => h) (Or.inr ⟨by rfl, rfl⟩) ?_ ?_
  rotate_left
  ·
   simp only [Act.put, List.setIfInBounds_toArray, List.set_cons_zero, List.set_cons_succ, i64_w, i32_w]
   rfl
  refine pure_ (i := 9) (N := some 22) (v := undef) (a' := ?_) #[true, true, true, true, true, true, true, true, true, true, false, false, false, false, false] rfl rfl (any_of HT_.out (by kernel_rfl)) (fun _ _ _ h => h) (Or.inr ⟨by rfl, rfl⟩) ?_ ?_
  rotate_left
  ·
   simp only [Act.put, List.setIfInBounds_toArray, List.set_cons_zero, List.set_cons_succ, i64_w, i32_w]
   rfl
  refine pure_ (i := 10) (N := some 23) (v := undef) (a' := ?_) #[true, true, true, true, true, true, true, true, true, true, true, false, false, false, false] rfl rfl (any_of HT_.out (by kernel_rfl)) (fun _ _ _ h => h) (Or.inr ⟨by rfl, rfl⟩) ?_ ?_
  rotate_left
  ·
   simp only [Act.put, List.setIfInBounds_toArray, List.set_cons_zero, List.set_cons_succ, i64_w, i32_w]
   rfl
  refine pure_ (i := 11) (N := some 24) (v := undef) (a' := ?_) #[true, true, true, true, true, true, true, true, true, true, true, true, false, false, false] rfl rfl (any_of HT_.out (by kernel_rfl)) (fun _ _ _ h => h) (Or.inr ⟨by rfl, rfl⟩) ?_ ?_
  rotate_left
  ·
   simp only [Act.put, List.setIfInBounds_toArray, List.set_cons_zero, List.set_cons_succ, i64_w, i32_w]
   rfl
  refine pure_ (i := 12) (N := some 25) (v := undef) (a' := ?_) #[true, true, true, true, true, true, true, true, true, true, true, true, true, false, false] rfl rfl (any_of HT_.out (by kernel_rfl)) (fun _ _ _ h => h) (Or.inr ⟨by rfl, rfl⟩) ?_ ?_
  rotate_left
  ·
   simp only [Act.put, List.setIfInBounds_toArray, List.set_cons_zero, List.set_cons_succ, i64_w, i32_w]
   rfl
  refine pure_ (i := 13) (N := some 26) (v := ?_) (a' := ?_) #[true, true, true, true, true, true, true, true, true, true, true, true, true, true, false] rfl rfl (any_of HT_.out (by kernel_rfl)) (fun _ _ _ h => h) (Or.inl ⟨by rfl, ?_⟩) ?_ ?_
  rotate_left
  ·
   intro w'
   go_simp
   with_reducible rfl
  rotate_left
  ·
   simp only [Act.put, List.setIfInBounds_toArray, List.set_cons_zero, List.set_cons_succ, i64_w, i32_w]
   rfl
  refine pure_ (i := 14) (N := some 0) (v := ?_) (a' := ?_) #[true, true, true, true, true, true, true, true, true, true, true, true, true, true, true] rfl rfl (any_of HT_.out (by kernel_rfl)) (fun _ _ _ h => h) (Or.inl ⟨by rfl, ?_⟩) ?_ ?_
  rotate_left
  ·
   intro w'
   go_simp
   with_reducible rfl
  rotate_left
  ·
   simp only [Act.put, List.setIfInBounds_toArray, List.set_cons_zero, List.set_cons_succ, i64_w, i32_w]
   rfl
  refine done_ (done_of HT_.out (by kernel_rfl)) ?_
  try go_wp2
  go_ret
  exact ⟨by first | rfl | (simp only [u64_u32_] <;> rfl) | (simp [errW_none, errW_some] <;> rfl) | (simp [*, errW_none, errW_some] <;> rfl), Bs⟩
end Go.Proofs.Ytpmbcdakpmceiaa.F

end
section
namespace Go.Proofs.Ytpmbcdakpmceiaa.F
open Go.RowKit Go.Proofs.YtpmbcdakpmceiaaW.PrintWords Go.Proofs.YtpmbcdakpmceiaaW.PrintLast Go.Proofs.YtpmbcdakpmceiaaW.PrintMore
attribute [local go_sem] max2_int min2_int max_two min_two max_three min_three max_four min_four
set_option linter.unusedVariables false
set_option linter.unusedSimpArgs false
def rat_One.f (k : Nat) (a0_0 : Bool) (l0_1 : List Int) (l0_2 : List Int) : Option (Bool) := (rat_Of.f k 1).bind fun bt705 => ((rat_Same.f k a0_0 l0_1 l0_2 bt705.1 bt705.2.1 bt705.2.2).bind fun t712 => (some t712))
theorem rat_One.mono : ∀ a0 a1 a2 k, LeO (rat_One.f k a0 a1 a2) (rat_One.f (k + 1) a0 a1 a2) := by
 intro a0 a1 a2 k
 unfold rat_One.f
 repeat' first
   | (with_reducible exact rat_Of.mono _ _)
   | (with_reducible exact rat_Same.mono _ _ _ _ _ _ _)
   | (with_reducible exact LeO.refl _)
   | (with_reducible exact LeO.none _)
   | (with_reducible refine LeO.ite ?_ ?_)
   | (with_reducible refine LeO.bind ?_ (fun _ => ?_))
   | exact rat_Of.mono _ _
   | exact rat_Same.mono _ _ _ _ _ _ _
   | exact LeO.none _
   | refine LeO.ite ?_ ?_
   | refine LeO.bind ?_ (fun _ => ?_)
end Go.Proofs.Ytpmbcdakpmceiaa.F

end
section
namespace Go.Proofs.Ytpmbcdakpmceiaa.F
open Go.RowKit Go.Proofs.YtpmbcdakpmceiaaW.PrintWords Go.Proofs.YtpmbcdakpmceiaaW.PrintLast Go.Proofs.YtpmbcdakpmceiaaW.PrintMore
attribute [local go_sem] max2_int min2_int max_two min_two max_three min_three max_four min_four
set_option linter.unusedVariables false
set_option linter.unusedSimpArgs false
set_option maxHeartbeats 8000000 in
set_option maxRecDepth 100000 in
theorem rat_One.calls (k : Nat) (a0_0 : Bool) (A0_1 : Option Addr) (c0_1 : Nat) (l0_1 : List Int) (A0_2 : Option Addr) (c0_2 : Nat) (l0_2 : List Int) (r : Bool) (w : World) (hr0_1 : Kd.C (Kd.int .u64) w A0_1 l0_1.length l0_1) (hc0_1 : l0_1.length ≤ c0_1) (hr0_2 : Kd.C (Kd.int .u64) w A0_2 l0_2.length l0_2) (hc0_2 : l0_2.length ≤ c0_2) (h : rat_One.f k a0_0 l0_1 l0_2 = some r) :
  Calls Try.prog 15 #[.agg #[.bool a0_0, .slice A0_1 l0_1.length c0_1, .slice A0_2 l0_2.length c0_2]] w fun e w' => e = .returned (.bool r) ∧ Below w.heap.size w w' := by
 have hu34 := Try.underlying34
 have HR0_1 := Aside0.mk hr0_1
 have HC0_1 := Aside0.mk hc0_1
 clear hr0_1 hc0_1
 have HR0_2 := Aside0.mk hr0_2
 have HC0_2 := Aside0.mk hc0_2
 clear hr0_2 hc0_2
 have HB := Aside0.mk (Below.refl w.heap.size w)
 have H : ((rat_Of.f k 1).bind fun bt705 => ((rat_Same.f k a0_0 l0_1 l0_2 bt705.1 bt705.2.1 bt705.2.2).bind fun t712 => (some t712))) = some r := h
 clear h
 replace H := Option.bind_eq_some_iff.mp H
 obtain ⟨⟨t705, t706, t709⟩, A20, H⟩ := H
 replace H : ((rat_Same.f k a0_0 l0_1 l0_2 t705 t706 t709).bind fun t712 => (some t712)) = some r := H
 have A2 := Aside0.mk A20
 clear A20
 replace H := Option.bind_eq_some_iff.mp H
 obtain ⟨t712, A30, H⟩ := H
 replace H : (some t712) = some r := H
 have A3 := Aside0.mk A30
 clear A30
 obtain rfl := Option.some.inj H
 go_enter Try.func15, Try.ntmps15
 try go_wp2_with (first | ((with_reducible refine gate_dst (N := 1) rfl ?_); refine box_event ?hg (N := 1) ?hd (cs := #[.bool a0_0, .slice A0_1 l0_1.length c0_1, .slice A0_2 l0_2.length c0_2]) (t := 34) ?hr ?_; (case hd => rfl); (case hg => rfl); (case hr => first | (go_simp; done) | (go_simp; rfl)); intro gb704 hg w4 hbox hb; have BK704 := Aside0.mk (hbox); have GW704 := Aside0.mk ((by rw [hg]; exact (below_size (Bx HB.out)) : w.heap.size ≤ gb704)); have GE704 := Aside0.mk ((by rw [hg]; exact (below_size (Bx HB.out)) : w.heap.size ≤ gb704)); replace HB := Aside0.mk (below_step (Bx HB.out) hb); clear hb hbox hg))
 replace BK704 := Aside0.mk (blk_drew BK704.out)
 replace HB := Aside0.mk (below_drew1 HB.out)
 refine start_ (n := 4) (S := fun w' => w'.cell? ⟨gb704, 0, none⟩ = some (.bool a0_0) ∧ w'.cell? ⟨gb704, 1, none⟩ = some (.slice A0_1 l0_1.length c0_1) ∧ w'.cell? ⟨gb704, 2, none⟩ = some (.slice A0_2 l0_2.length c0_2)) (ds := []) #[false, false, false, false] (by kernel_rfl) rfl rfl ⟨(blk_cell BK704.out 0).trans rfl, (blk_cell BK704.out 1).trans rfl, (blk_cell BK704.out 2).trans rfl⟩ (fun hHeld => ?_)
 generalize w4.drew = w5 at BK704 HB hHeld ⊢
 refine take_ (i := 0) (N := some 3) (v := ?_) (a' := ?_) #[true, false, false, false] rfl rfl (by kernel_rfl) (fun _ _ _ h => h) (Or.inl ⟨by rfl, ?_⟩) hHeld ?_ ?_
 rotate_left
 ·
  rintro w' ⟨s0, s1, s2⟩
  go_simp
  with_reducible rfl
 rotate_left
 ·
  simp only [Act.put, List.setIfInBounds_toArray, List.set_cons_zero, List.set_cons_succ, i64_w, i32_w]
  rfl
 refine one_ (i := 1) (N := some 4) #[true, true, false, false] rfl rfl (by kernel_rfl) (by decide) (fun K hK => ?_)
 refine goes_ Try.func13 (by kernel_rfl) rfl #[.int .i64 1] (by rfl) rfl rfl (by (try simp only [List.map_toArray, List.map_cons, List.map_nil]); first | done | rfl | (simp only [List.length_drop, List.length_take]; rfl)) ?_
 with_reducible refine (rat_Of.calls k 1 t705 t706 t709 _ A2.out).mono ?_
 rintro e w6 ⟨v707, v710, rfl, ho0, ho1, hb⟩
 refine ⟨_, rfl, ?_⟩
 have HO708 := Aside0.mk (Kd.R_lower ho0 (below_size (Bs)))
 have HO711 := Aside0.mk (Kd.R_lower ho1 (below_size (Bs)))
 replace BK704 := Aside0.mk (blk_below (Kx BK704.out) hb)
 replace HB := Aside0.mk (below_step (Bs) hb)
 (try clear hb)
 (try clear hb2)
 (try clear hk)
 (try clear hi)
 (try clear ho0)
 (try clear ho1)
 obtain ⟨Ao7, co7, eo7⟩ := Kd.R_slice HO708.out
 (first | subst eo7 | (injection eo7 with f1_ f2_ f3_; have f4_ := f1_.symm; have f5_ := f3_.symm; clear f1_ f2_ f3_; subst f4_; subst f5_))
 obtain ⟨Ao8, co8, eo8⟩ := Kd.R_slice HO711.out
 (first | subst eo8 | (injection eo8 with f1_ f2_ f3_; have f4_ := f1_.symm; have f5_ := f3_.symm; clear f1_ f2_ f3_; subst f4_; subst f5_))
 refine hK.out _ _ ⟨(blk_cell BK704.out 0).trans rfl, (blk_cell BK704.out 1).trans rfl, (blk_cell BK704.out 2).trans rfl⟩ (fun hHeld => ?_)
 clear hK K
 refine norm_ (a' := ?_) ?_ ?_
 rotate_left
 ·
  show Act.put _ (some 4) _ = _
  simp only [Act.put, List.setIfInBounds_toArray, List.set_cons_zero, List.set_cons_succ, i64_w, i32_w]
  rfl
 refine one_ (i := 2) (N := some 5) #[true, true, true, false] rfl rfl (by kernel_rfl) (by decide) (fun K hK => ?_)
 refine goes_ Try.func12 (by kernel_rfl) rfl #[.agg #[.bool a0_0, .slice A0_1 l0_1.length c0_1, .slice A0_2 l0_2.length c0_2], .agg #[.bool t705, .slice Ao7 t706.length co7, .slice Ao8 t709.length co8]] (by rfl) rfl rfl (by (try simp only [List.map_toArray, List.map_cons, List.map_nil]); first | done | rfl | (simp only [List.length_drop, List.length_take]; rfl)) ?_
 with_reducible refine (rat_Same.calls k a0_0 _ _ l0_1 _ _ l0_2 t705 _ _ t706 _ _ t709 t712 _ ?side1 ?side2 ?side3 ?side4 ?side5 ?side6 ?side7 ?side8 A3.out).mono ?_
 (case side1 => exact Kd.Cx (Kd.C_below HR0_1.out HB.out))
 (case side2 => exact HC0_1.out)
 (case side3 => exact Kd.Cx (Kd.C_below HR0_2.out HB.out))
 (case side4 => exact HC0_2.out)
 (case side5 => exact Kd.Cx (Kd.R_reads' HO708.out).2.2)
 (case side6 => exact (Kd.R_reads' HO708.out).2.1)
 (case side7 => exact Kd.Cx (Kd.R_reads' HO711.out).2.2)
 (case side8 => exact (Kd.R_reads' HO711.out).2.1)
 rintro e w9 ⟨rfl, hb⟩
 refine ⟨_, rfl, ?_⟩
 replace HO708 := Aside0.mk (Kd.R_below (Kd.Rx HO708.out) hb)
 replace HO711 := Aside0.mk (Kd.R_below (Kd.Rx HO711.out) hb)
 replace BK704 := Aside0.mk (blk_below (Kx BK704.out) hb)
 replace HB := Aside0.mk (below_step (Bs) hb)
 (try clear hb)
 (try clear hb2)
 (try clear hk)
 (try clear hi)
 refine hK.out _ _ ⟨(blk_cell BK704.out 0).trans rfl, (blk_cell BK704.out 1).trans rfl, (blk_cell BK704.out 2).trans rfl⟩ (fun hHeld => ?_)
 clear hK K
 refine norm_ (a' := ?_) ?_ ?_
 rotate_left
 ·
  show Act.put _ (some 5) _ = _
  simp only [Act.put, List.setIfInBounds_toArray, List.set_cons_zero, List.set_cons_succ, i64_w, i32_w]
  rfl
 refine pure_ (i := 3) (N := some 2) (v := ?_) (a' := ?_) #[true, true, true, true] rfl rfl (by kernel_rfl) (fun _ _ _ h => h) (Or.inl ⟨by rfl, ?_⟩) ?_ ?_
 rotate_left
 ·
  intro w'
  go_simp
  with_reducible rfl
 rotate_left
 ·
  simp only [Act.put, List.setIfInBounds_toArray, List.set_cons_zero, List.set_cons_succ, i64_w, i32_w]
  rfl
 refine done_ (by kernel_rfl) ?_
 try go_wp2
 go_ret
 exact ⟨by first | rfl | (simp only [u64_u32_] <;> rfl) | (simp [errW_none, errW_some] <;> rfl) | (simp [*, errW_none, errW_some] <;> rfl), Bs⟩
end Go.Proofs.Ytpmbcdakpmceiaa.F

end
