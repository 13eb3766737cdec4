/- A part of the proof of the law MatrixTurns: an abstract machine for the functions' code with its soundness, words, lemmas (assembled by a program). -/
import Derived.Test.YtpmbcdakpmceiaaGreatProg
import Derived.KernelRfl
import Derived.Test.YtpmbcdakpmceiaaGreatCMatrixTurns2
set_option linter.unusedVariables false
set_option linter.unusedSimpArgs false
set_option linter.unusedSectionVars false
section
set_option linter.unusedVariables false
set_option linter.unusedSimpArgs false
set_option maxRecDepth 100000
namespace Go.S
open Go Go.AM Go.RowKit Go.K
theorem e_triviumref02_Trim {k : Nat} {l0 : List Int} {r : List Int} (H : triviumref02_Trim.f k l0 = some r) : CP (CL F) 116 [(.lst (ui l0))] = some (.lst (ui r)) := by
  refine CP_X (F := F) (f := 116) rfl rfl ?_
  unfold triviumref02_Trim.f at H
  repeat' with_reducible (first | (refine none_some H; done) | (refine ite_e H ?_ ?_ <;> clear H <;> intro c H <;> (try simp only [int_beq, decide_eq_true_eq] at c) <;> first | (have : (_ : Bool) = _ := c; clear this) | (have : ¬ (_ : Bool) = _ := c; clear this) | (replace c := eq_false c; try simp only [List.length_replicate, List.length_set, List.length_nil, List.length_cons, Nat.zero_add] at c) | (replace c := eq_true c; try simp only [List.length_replicate, List.length_set, List.length_nil, List.length_cons, Nat.zero_add] at c)) | (refine bind_k (by assumption) H ?_; clear H; intro H) | (refine bind_e H ?_; clear H; intro _ q H; first | (replace q := Option.some.inj q; subst q) | skip))
  all_goals with_reducible (first | (replace H := Option.some.inj H; subst H) | skip)
  all_goals (try simp only [List.length_replicate, List.length_set] at H)
  all_goals (refine go2 ?_)
  all_goals (first | trivial | skip)
  all_goals first
   |
      (refine X_fuel3 (L := fun n (y : List Int × Int) => triviumref02_Trim.l0 n y.1 y.2) (S := fun y s => ∃ j2 j15 g, s = ⟨[(0, (.lst (ui y.1))), (2, j2), (3, (.int .i64 y.2)), (15, j15)], g⟩) (fun _ => by simp only [triviumref02_Trim.l0]) _ ?_ _ (Nat.le_refl _) (_, _) _ H ⟨_, _, _, rfl⟩
       clear H
       rintro nl0 hnl0 ⟨x0, x3⟩ s H ⟨j2, j15, g, rfl⟩ recl0
       simp only [triviumref02_Trim.l0] at H
       repeat' with_reducible (first | (refine none_some H; done) | (refine ite_e H ?_ ?_ <;> clear H <;> intro c H <;> (try simp only [int_beq, decide_eq_true_eq] at c) <;> first | (have : (_ : Bool) = _ := c; clear this) | (have : ¬ (_ : Bool) = _ := c; clear this) | (replace c := eq_false c; try simp only [List.length_replicate, List.length_set, List.length_nil, List.length_cons, Nat.zero_add] at c) | (replace c := eq_true c; try simp only [List.length_replicate, List.length_set, List.length_nil, List.length_cons, Nat.zero_add] at c)) | (refine bind_k (by assumption) H ?_; clear H; intro H) | (refine bind_e H ?_; clear H; intro _ q H; first | (replace q := Option.some.inj q; subst q) | skip))
       all_goals with_reducible (first | (replace H := Option.some.inj H; subst H) | skip)
       all_goals (try simp only [List.length_replicate, List.length_set] at H)
       all_goals (refine go2 ?_)
       all_goals (first | (trivial) | (exact recl0 _ (by omega) (_, _) _ H ⟨_, _, _, rfl⟩) | skip))
   | skip
theorem e_triviumref02_MulAdd {k : Nat} {l0 : List Int} {a1 : Int} {a2 : Int} {r : List Int} (H : triviumref02_MulAdd.f k l0 a1 a2 = some r) : CP (CL F) 99 [(.lst (ui l0)), (.int .i64 a1), (.int .i64 a2)] = some (.lst (ui r)) := by
  refine CP_X (F := F) (f := 99) rfl rfl ?_
  unfold triviumref02_MulAdd.f at H
  repeat' with_reducible (first | (refine none_some H; done) | (refine ite_e H ?_ ?_ <;> clear H <;> intro c H <;> (try simp only [int_beq, decide_eq_true_eq] at c) <;> first | (have : (_ : Bool) = _ := c; clear this) | (have : ¬ (_ : Bool) = _ := c; clear this) | (replace c := eq_false c; try simp only [List.length_replicate, List.length_set, List.length_nil, List.length_cons, Nat.zero_add] at c) | (replace c := eq_true c; try simp only [List.length_replicate, List.length_set, List.length_nil, List.length_cons, Nat.zero_add] at c)) | (refine bind_k (by assumption) H ?_; clear H; intro H) | (refine bind_e H ?_; clear H; intro _ q H; first | (have q' := e_triviumref02_Trim q; try simp only [u_nil, ui_nil, List.length_replicate, List.length_set, List.cons_append, List.nil_append] at q') | (replace q := Option.some.inj q; subst q) | skip))
  all_goals with_reducible (first | (replace H := Option.some.inj H; subst H) | skip)
  all_goals (try simp only [List.length_replicate, List.length_set] at H)
  all_goals (refine go2 ?_)
  all_goals (first | trivial | skip)
  all_goals first
   |
      (refine X_fuel3 (L := fun n (y : List Int × Int × Int × List Int × Int) => triviumref02_MulAdd.l0 n y.1 y.2.1 y.2.2.1 y.2.2.2.1 y.2.2.2.2) (S := fun y s => ∃ j6 m0 j13 j32 v0 g, s = ⟨[(0, (.lst (ui y.1))), (1, (.int .i64 y.2.1)), (2, (.int .i64 y.2.2.1)), (6, j6), (7, .ref 0 v0 1 0 m0), (8, (.int .i64 y.2.2.2.2)), (13, j13), (32, j32)], some ⟨v0, 1, ui y.2.2.2.1⟩ :: g⟩ ∧ m0 = y.2.2.2.1.length) (fun _ => by simp only [triviumref02_MulAdd.l0]) _ ?_ _ (Nat.le_refl _) (_, _, _, _, _) _ H ⟨_, _, _, _, _, _, rfl, by simp⟩
       clear H
       rintro nl0 hnl0 ⟨x0, x1, x2, x7, x8⟩ s H ⟨j6, m0, j13, j32, v0, g, rfl, rfl⟩ recl0
       simp only [triviumref02_MulAdd.l0] at H
       repeat' with_reducible (first | (refine none_some H; done) | (refine ite_e H ?_ ?_ <;> clear H <;> intro c H <;> (try simp only [int_beq, decide_eq_true_eq] at c) <;> first | (have : (_ : Bool) = _ := c; clear this) | (have : ¬ (_ : Bool) = _ := c; clear this) | (replace c := eq_false c; try simp only [List.length_replicate, List.length_set, List.length_nil, List.length_cons, Nat.zero_add] at c) | (replace c := eq_true c; try simp only [List.length_replicate, List.length_set, List.length_nil, List.length_cons, Nat.zero_add] at c)) | (refine bind_k (by assumption) H ?_; clear H; intro H) | (refine bind_e H ?_; clear H; intro _ q H; first | (have q' := e_triviumref02_Trim q; try simp only [u_nil, ui_nil, List.length_replicate, List.length_set, List.cons_append, List.nil_append] at q') | (replace q := Option.some.inj q; subst q) | skip))
       all_goals with_reducible (first | (replace H := Option.some.inj H; subst H) | skip)
       all_goals (try simp only [List.length_replicate, List.length_set] at H)
       all_goals (refine go2 ?_)
       all_goals (first | (trivial) | (exact recl0 _ (by omega) (_, _, _, _, _) _ H ⟨_, _, _, _, _, _, rfl, by simp⟩) | skip)
       all_goals first
        |
          (refine X_fuel3 (L := fun n (y : Int × List Int) => triviumref02_MulAdd.l1 n y.1 y.2) (S := fun y s => ∃ j0 j1 j6 m0 j8 j13 j32 v0 g, s = ⟨[(0, j0), (1, j1), (2, (.int .i64 y.1)), (6, j6), (7, .ref 0 v0 1 0 m0), (8, j8), (13, j13), (32, j32)], some ⟨v0, 1, ui y.2⟩ :: g⟩ ∧ m0 = y.2.length) (fun _ => by simp only [triviumref02_MulAdd.l1]) _ ?_ _ (Nat.le_refl _) (_, _) _ H ⟨_, _, _, _, _, _, _, _, _, rfl, by simp⟩
           clear H
           rintro nl1 hnl1 ⟨x2, x7⟩ s H ⟨j0, j1, j6, m0, j8, j13, j32, v0, g, rfl, rfl⟩ recl1
           simp only [triviumref02_MulAdd.l1] at H
           repeat' with_reducible (first | (refine none_some H; done) | (refine ite_e H ?_ ?_ <;> clear H <;> intro c H <;> (try simp only [int_beq, decide_eq_true_eq] at c) <;> first | (have : (_ : Bool) = _ := c; clear this) | (have : ¬ (_ : Bool) = _ := c; clear this) | (replace c := eq_false c; try simp only [List.length_replicate, List.length_set, List.length_nil, List.length_cons, Nat.zero_add] at c) | (replace c := eq_true c; try simp only [List.length_replicate, List.length_set, List.length_nil, List.length_cons, Nat.zero_add] at c)) | (refine bind_k (by assumption) H ?_; clear H; intro H) | (refine bind_e H ?_; clear H; intro _ q H; first | (have q' := e_triviumref02_Trim q; try simp only [u_nil, ui_nil, List.length_replicate, List.length_set, List.cons_append, List.nil_append] at q') | (replace q := Option.some.inj q; subst q) | skip))
           all_goals with_reducible (first | (replace H := Option.some.inj H; subst H) | skip)
           all_goals (try simp only [List.length_replicate, List.length_set] at H)
           all_goals (refine go2 ?_)
           all_goals (first | (trivial) | (exact recl1 _ (by omega) (_, _) _ H ⟨_, _, _, _, _, _, _, _, _, rfl, by simp⟩) | skip)))
   | skip
theorem e_triviumref02_Of {k : Nat} {l0 : List Int} {r : List Int} (H : triviumref02_Of.f k l0 = some r) : CP (CL F) 73 [(.lst (u l0))] = some (.lst (ui r)) := by
  refine CP_X (F := F) (f := 73) rfl rfl ?_
  unfold triviumref02_Of.f at H
  repeat' with_reducible (first | (refine none_some H; done) | (refine ite_e H ?_ ?_ <;> clear H <;> intro c H <;> (try simp only [int_beq, decide_eq_true_eq] at c) <;> first | (have : (_ : Bool) = _ := c; clear this) | (have : ¬ (_ : Bool) = _ := c; clear this) | (replace c := eq_false c; try simp only [List.length_replicate, List.length_set, List.length_nil, List.length_cons, Nat.zero_add] at c) | (replace c := eq_true c; try simp only [List.length_replicate, List.length_set, List.length_nil, List.length_cons, Nat.zero_add] at c)) | (refine bind_k (by assumption) H ?_; clear H; intro H) | (refine bind_e H ?_; clear H; intro _ q H; first | (have q' := e_triviumref02_MulAdd q; try simp only [u_nil, ui_nil, List.length_replicate, List.length_set, List.cons_append, List.nil_append] at q') | (replace q := Option.some.inj q; subst q) | skip))
  all_goals with_reducible (first | (replace H := Option.some.inj H; subst H) | skip)
  all_goals (try simp only [List.length_replicate, List.length_set] at H)
  all_goals (refine go2 ?_)
  all_goals (first | trivial | skip)
  all_goals first
   |
      (refine X_fuel3 (L := fun n (y : List Int × List Int × Int) => triviumref02_Of.l0 n y.1 y.2.1 y.2.2) (S := fun y s => ∃ j2 j10 g, s = ⟨[(0, (.lst (u y.1))), (2, j2), (3, (.lst (ui y.2.1))), (4, (.int .i64 y.2.2)), (10, j10)], g⟩) (fun _ => by simp only [triviumref02_Of.l0]) _ ?_ _ (Nat.le_refl _) (_, _, _) _ H ⟨_, _, _, rfl⟩
       clear H
       rintro nl0 hnl0 ⟨x0, x3, x4⟩ s H ⟨j2, j10, g, rfl⟩ recl0
       simp only [triviumref02_Of.l0] at H
       repeat' with_reducible (first | (refine none_some H; done) | (refine ite_e H ?_ ?_ <;> clear H <;> intro c H <;> (try simp only [int_beq, decide_eq_true_eq] at c) <;> first | (have : (_ : Bool) = _ := c; clear this) | (have : ¬ (_ : Bool) = _ := c; clear this) | (replace c := eq_false c; try simp only [List.length_replicate, List.length_set, List.length_nil, List.length_cons, Nat.zero_add] at c) | (replace c := eq_true c; try simp only [List.length_replicate, List.length_set, List.length_nil, List.length_cons, Nat.zero_add] at c)) | (refine bind_k (by assumption) H ?_; clear H; intro H) | (refine bind_e H ?_; clear H; intro _ q H; first | (have q' := e_triviumref02_MulAdd q; try simp only [u_nil, ui_nil, List.length_replicate, List.length_set, List.cons_append, List.nil_append] at q') | (replace q := Option.some.inj q; subst q) | skip))
       all_goals with_reducible (first | (replace H := Option.some.inj H; subst H) | skip)
       all_goals (try simp only [List.length_replicate, List.length_set] at H)
       all_goals (refine go2 ?_)
       all_goals (first | (trivial) | (exact recl0 _ (by omega) (_, _, _) _ H ⟨_, _, _, rfl⟩) | skip))
   | skip
theorem e_triviumref02_Same {k : Nat} {l0 : List Int} {l1 : List Int} {r : Bool} (H : triviumref02_Same.f k l0 l1 = some r) : CP (CL F) 108 [(.lst (u l0)), (.lst (u l1))] = some (.bool r) := by
  refine CP_X (F := F) (f := 108) rfl rfl ?_
  unfold triviumref02_Same.f at H
  repeat' with_reducible (first | (refine none_some H; done) | (refine ite_e H ?_ ?_ <;> clear H <;> intro c H <;> (try simp only [int_beq, decide_eq_true_eq] at c) <;> first | (have : (_ : Bool) = _ := c; clear this) | (have : ¬ (_ : Bool) = _ := c; clear this) | (replace c := eq_false c; try simp only [List.length_replicate, List.length_set, List.length_nil, List.length_cons, Nat.zero_add] at c) | (replace c := eq_true c; try simp only [List.length_replicate, List.length_set, List.length_nil, List.length_cons, Nat.zero_add] at c)) | (refine bind_k (by assumption) H ?_; clear H; intro H) | (refine bind_e H ?_; clear H; intro _ q H; first | (replace q := Option.some.inj q; subst q) | skip))
  all_goals with_reducible (first | (replace H := Option.some.inj H; subst H) | skip)
  all_goals (try simp only [List.length_replicate, List.length_set] at H)
  all_goals (refine go2 ?_)
  all_goals (first | trivial | skip)
  all_goals first
   |
      (refine X_fuel3 (L := fun n (y : List Int × List Int × Int) => triviumref02_Same.l0 n y.1 y.2.1 y.2.2) (S := fun y s => ∃ j4 j10 j14 j25 g, s = ⟨[(0, (.lst (u y.1))), (1, (.lst (u y.2.1))), (4, j4), (5, (.int .i64 y.2.2)), (10, j10), (14, j14), (25, j25)], g⟩) (fun _ => by simp only [triviumref02_Same.l0]) _ ?_ _ (Nat.le_refl _) (_, _, _) _ H ⟨_, _, _, _, _, rfl⟩
       clear H
       rintro nl0 hnl0 ⟨x0, x1, x5⟩ s H ⟨j4, j10, j14, j25, g, rfl⟩ recl0
       simp only [triviumref02_Same.l0] at H
       repeat' with_reducible (first | (refine none_some H; done) | (refine ite_e H ?_ ?_ <;> clear H <;> intro c H <;> (try simp only [int_beq, decide_eq_true_eq] at c) <;> first | (have : (_ : Bool) = _ := c; clear this) | (have : ¬ (_ : Bool) = _ := c; clear this) | (replace c := eq_false c; try simp only [List.length_replicate, List.length_set, List.length_nil, List.length_cons, Nat.zero_add] at c) | (replace c := eq_true c; try simp only [List.length_replicate, List.length_set, List.length_nil, List.length_cons, Nat.zero_add] at c)) | (refine bind_k (by assumption) H ?_; clear H; intro H) | (refine bind_e H ?_; clear H; intro _ q H; first | (replace q := Option.some.inj q; subst q) | skip))
       all_goals with_reducible (first | (replace H := Option.some.inj H; subst H) | skip)
       all_goals (try simp only [List.length_replicate, List.length_set] at H)
       all_goals (refine go2 ?_)
       all_goals (first | (trivial) | (exact recl0 _ (by omega) (_, _, _) _ H ⟨_, _, _, _, _, rfl⟩) | skip))
   | skip
theorem e_triviumref02_DivSmall {k : Nat} {l0 : List Int} {a1 : Int} {r : List Int × Int} (H : triviumref02_DivSmall.f k l0 a1 = some r) : CP (CL F) 119 [(.lst (ui l0)), (.int .i64 a1)] = some (.tup [(.lst (ui r.1)), (.int .i64 r.2)]) := by
  refine CP_X (F := F) (f := 119) rfl rfl ?_
  unfold triviumref02_DivSmall.f at H
  repeat' with_reducible (first | (refine none_some H; done) | (refine ite_e H ?_ ?_ <;> clear H <;> intro c H <;> (try simp only [int_beq, decide_eq_true_eq] at c) <;> first | (have : (_ : Bool) = _ := c; clear this) | (have : ¬ (_ : Bool) = _ := c; clear this) | (replace c := eq_false c; try simp only [List.length_replicate, List.length_set, List.length_nil, List.length_cons, Nat.zero_add] at c) | (replace c := eq_true c; try simp only [List.length_replicate, List.length_set, List.length_nil, List.length_cons, Nat.zero_add] at c)) | (refine bind_k (by assumption) H ?_; clear H; intro H) | (refine bind_e H ?_; clear H; intro _ q H; first | (have q' := e_triviumref02_Trim q; try simp only [u_nil, ui_nil, List.length_replicate, List.length_set, List.cons_append, List.nil_append] at q') | (replace q := Option.some.inj q; subst q) | skip))
  all_goals with_reducible (first | (replace H := Option.some.inj H; subst H) | skip)
  all_goals (try simp only [List.length_replicate, List.length_set] at H)
  all_goals (refine go2 ?_)
  all_goals (first | trivial | skip)
  all_goals first
   |
      (refine X_fuel3 (L := fun n (y : List Int × Int × List Int × Int × Int) => triviumref02_DivSmall.l0 n y.1 y.2.1 y.2.2.1 y.2.2.2.1 y.2.2.2.2) (S := fun y s => ∃ j4 j5 m0 j16 v0 g, s = ⟨[(0, (.lst (ui y.1))), (1, (.int .i64 y.2.1)), (4, j4), (5, j5), (6, .ref 0 v0 1 0 m0), (7, (.int .i64 y.2.2.2.1)), (8, (.int .i64 y.2.2.2.2)), (16, j16)], some ⟨v0, 1, ui y.2.2.1⟩ :: g⟩ ∧ m0 = y.2.2.1.length) (fun _ => by simp only [triviumref02_DivSmall.l0]) _ ?_ _ (Nat.le_refl _) (_, _, _, _, _) _ H ⟨_, _, _, _, _, _, rfl, by simp⟩
       clear H
       rintro nl0 hnl0 ⟨x0, x1, x6, x7, x8⟩ s H ⟨j4, j5, m0, j16, v0, g, rfl, rfl⟩ recl0
       simp only [triviumref02_DivSmall.l0] at H
       repeat' with_reducible (first | (refine none_some H; done) | (refine ite_e H ?_ ?_ <;> clear H <;> intro c H <;> (try simp only [int_beq, decide_eq_true_eq] at c) <;> first | (have : (_ : Bool) = _ := c; clear this) | (have : ¬ (_ : Bool) = _ := c; clear this) | (replace c := eq_false c; try simp only [List.length_replicate, List.length_set, List.length_nil, List.length_cons, Nat.zero_add] at c) | (replace c := eq_true c; try simp only [List.length_replicate, List.length_set, List.length_nil, List.length_cons, Nat.zero_add] at c)) | (refine bind_k (by assumption) H ?_; clear H; intro H) | (refine bind_e H ?_; clear H; intro _ q H; first | (have q' := e_triviumref02_Trim q; try simp only [u_nil, ui_nil, List.length_replicate, List.length_set, List.cons_append, List.nil_append] at q') | (replace q := Option.some.inj q; subst q) | skip))
       all_goals with_reducible (first | (replace H := Option.some.inj H; subst H) | skip)
       all_goals (try simp only [List.length_replicate, List.length_set] at H)
       all_goals (refine go2 ?_)
       all_goals (first | (trivial) | (exact recl0 _ (by omega) (_, _, _, _, _) _ H ⟨_, _, _, _, _, _, rfl, by simp⟩) | skip))
   | skip
theorem e_triviumref02_Back {k : Nat} {l0 : List Int} {r : List Int} (H : triviumref02_Back.f k l0 = some r) : CP (CL F) 101 [(.lst (ui l0))] = some (.lst (u r)) := by
  refine CP_X (F := F) (f := 101) rfl rfl ?_
  unfold triviumref02_Back.f at H
  repeat' with_reducible (first | (refine none_some H; done) | (refine ite_e H ?_ ?_ <;> clear H <;> intro c H <;> (try simp only [int_beq, decide_eq_true_eq] at c) <;> first | (have : (_ : Bool) = _ := c; clear this) | (have : ¬ (_ : Bool) = _ := c; clear this) | (replace c := eq_false c; try simp only [List.length_replicate, List.length_set, List.length_nil, List.length_cons, Nat.zero_add] at c) | (replace c := eq_true c; try simp only [List.length_replicate, List.length_set, List.length_nil, List.length_cons, Nat.zero_add] at c)) | (refine bind_k (by assumption) H ?_; clear H; intro H) | (refine bind_e H ?_; clear H; intro _ q H; first | (have q' := e_triviumref02_DivSmall q; try simp only [u_nil, ui_nil, List.length_replicate, List.length_set, List.cons_append, List.nil_append] at q') | (replace q := Option.some.inj q; subst q) | skip))
  all_goals with_reducible (first | (replace H := Option.some.inj H; subst H) | skip)
  all_goals (try simp only [List.length_replicate, List.length_set] at H)
  all_goals (refine go2 ?_)
  all_goals (first | trivial | skip)
  all_goals first
   |
      (refine X_fuel3 (L := fun n (y : List Int × List Int) => triviumref02_Back.l0 n y.1 y.2) (S := fun y s => ∃ j2 m0 j4 j5 j9 v0 g, s = ⟨[(0, (.lst (ui y.1))), (2, j2), (3, .ref 0 v0 1 0 m0), (4, j4), (5, j5), (9, j9)], some ⟨v0, 1, u y.2⟩ :: g⟩ ∧ m0 = y.2.length) (fun _ => by simp only [triviumref02_Back.l0]) _ ?_ _ (Nat.le_refl _) (_, _) _ H ⟨_, _, _, _, _, _, _, rfl, by simp⟩
       clear H
       rintro nl0 hnl0 ⟨x0, x3⟩ s H ⟨j2, m0, j4, j5, j9, v0, g, rfl, rfl⟩ recl0
       simp only [triviumref02_Back.l0] at H
       repeat' with_reducible (first | (refine none_some H; done) | (refine ite_e H ?_ ?_ <;> clear H <;> intro c H <;> (try simp only [int_beq, decide_eq_true_eq] at c) <;> first | (have : (_ : Bool) = _ := c; clear this) | (have : ¬ (_ : Bool) = _ := c; clear this) | (replace c := eq_false c; try simp only [List.length_replicate, List.length_set, List.length_nil, List.length_cons, Nat.zero_add] at c) | (replace c := eq_true c; try simp only [List.length_replicate, List.length_set, List.length_nil, List.length_cons, Nat.zero_add] at c)) | (refine bind_k (by assumption) H ?_; clear H; intro H) | (refine bind_e H ?_; clear H; intro _ q H; first | (have q' := e_triviumref02_DivSmall q; try simp only [u_nil, ui_nil, List.length_replicate, List.length_set, List.cons_append, List.nil_append] at q') | (replace q := Option.some.inj q; subst q) | skip))
       all_goals with_reducible (first | (replace H := Option.some.inj H; subst H) | skip)
       all_goals (try simp only [List.length_replicate, List.length_set] at H)
       all_goals (refine go2 ?_)
       all_goals (first | (trivial) | (exact recl0 _ (by omega) (_, _) _ H ⟨_, _, _, _, _, _, _, rfl, by simp⟩) | skip))
   | skip
theorem e_triviumref02_Cmp {k : Nat} {l0 : List Int} {l1 : List Int} {r : Int} (H : triviumref02_Cmp.f k l0 l1 = some r) : CP (CL F) 117 [(.lst (ui l0)), (.lst (ui l1))] = some (.int .i64 r) := by
  refine CP_X (F := F) (f := 117) rfl rfl ?_
  unfold triviumref02_Cmp.f at H
  repeat' with_reducible (first | (refine none_some H; done) | (refine ite_e H ?_ ?_ <;> clear H <;> intro c H <;> (try simp only [int_beq, decide_eq_true_eq] at c) <;> first | (have : (_ : Bool) = _ := c; clear this) | (have : ¬ (_ : Bool) = _ := c; clear this) | (replace c := eq_false c; try simp only [List.length_replicate, List.length_set, List.length_nil, List.length_cons, Nat.zero_add] at c) | (replace c := eq_true c; try simp only [List.length_replicate, List.length_set, List.length_nil, List.length_cons, Nat.zero_add] at c)) | (refine bind_k (by assumption) H ?_; clear H; intro H) | (refine bind_e H ?_; clear H; intro _ q H; first | (replace q := Option.some.inj q; subst q) | skip))
  all_goals with_reducible (first | (replace H := Option.some.inj H; subst H) | skip)
  all_goals (try simp only [List.length_replicate, List.length_set] at H)
  all_goals (refine go2 ?_)
  all_goals (first | trivial | skip)
  all_goals first
   |
      (refine X_fuel3 (L := fun n (y : List Int × List Int × Int) => triviumref02_Cmp.l0 n y.1 y.2.1 y.2.2) (S := fun y s => ∃ j4 j10 j15 j20 j31 j40 g, s = ⟨[(0, (.lst (ui y.1))), (1, (.lst (ui y.2.1))), (4, j4), (5, (.int .i64 y.2.2)), (10, j10), (15, j15), (20, j20), (31, j31), (40, j40)], g⟩) (fun _ => by simp only [triviumref02_Cmp.l0]) _ ?_ _ (Nat.le_refl _) (_, _, _) _ H ⟨_, _, _, _, _, _, _, rfl⟩
       clear H
       rintro nl0 hnl0 ⟨x0, x1, x5⟩ s H ⟨j4, j10, j15, j20, j31, j40, g, rfl⟩ recl0
       simp only [triviumref02_Cmp.l0] at H
       repeat' with_reducible (first | (refine none_some H; done) | (refine ite_e H ?_ ?_ <;> clear H <;> intro c H <;> (try simp only [int_beq, decide_eq_true_eq] at c) <;> first | (have : (_ : Bool) = _ := c; clear this) | (have : ¬ (_ : Bool) = _ := c; clear this) | (replace c := eq_false c; try simp only [List.length_replicate, List.length_set, List.length_nil, List.length_cons, Nat.zero_add] at c) | (replace c := eq_true c; try simp only [List.length_replicate, List.length_set, List.length_nil, List.length_cons, Nat.zero_add] at c)) | (refine bind_k (by assumption) H ?_; clear H; intro H) | (refine bind_e H ?_; clear H; intro _ q H; first | (replace q := Option.some.inj q; subst q) | skip))
       all_goals with_reducible (first | (replace H := Option.some.inj H; subst H) | skip)
       all_goals (try simp only [List.length_replicate, List.length_set] at H)
       all_goals (refine go2 ?_)
       all_goals (first | (trivial) | (exact recl0 _ (by omega) (_, _, _) _ H ⟨_, _, _, _, _, _, _, rfl⟩) | skip))
   | skip
theorem e_triviumref02_Sub {k : Nat} {l0 : List Int} {l1 : List Int} {r : List Int} (H : triviumref02_Sub.f k l0 l1 = some r) : CP (CL F) 118 [(.lst (ui l0)), (.lst (ui l1))] = some (.lst (ui r)) := by
  refine CP_X (F := F) (f := 118) rfl rfl ?_
  unfold triviumref02_Sub.f at H
  repeat' with_reducible (first | (refine none_some H; done) | (refine ite_e H ?_ ?_ <;> clear H <;> intro c H <;> (try simp only [int_beq, decide_eq_true_eq] at c) <;> first | (have : (_ : Bool) = _ := c; clear this) | (have : ¬ (_ : Bool) = _ := c; clear this) | (replace c := eq_false c; try simp only [List.length_replicate, List.length_set, List.length_nil, List.length_cons, Nat.zero_add] at c) | (replace c := eq_true c; try simp only [List.length_replicate, List.length_set, List.length_nil, List.length_cons, Nat.zero_add] at c)) | (refine bind_k (by assumption) H ?_; clear H; intro H) | (refine bind_e H ?_; clear H; intro _ q H; first | (have q' := e_triviumref02_Trim q; try simp only [u_nil, ui_nil, List.length_replicate, List.length_set, List.cons_append, List.nil_append] at q') | (replace q := Option.some.inj q; subst q) | skip))
  all_goals with_reducible (first | (replace H := Option.some.inj H; subst H) | skip)
  all_goals (try simp only [List.length_replicate, List.length_set] at H)
  all_goals (refine go2 ?_)
  all_goals (first | trivial | skip)
  all_goals first
   |
      (refine X_fuel3 (L := fun n (y : List Int × List Int × List Int × Int × Int) => triviumref02_Sub.l0 n y.1 y.2.1 y.2.2.1 y.2.2.2.1 y.2.2.2.2) (S := fun y s => ∃ j4 m0 j8 j13 j25 j33 v0 g, s = ⟨[(0, (.lst (ui y.1))), (1, (.lst (ui y.2.1))), (4, j4), (5, .ref 0 v0 1 0 m0), (6, (.int .i64 y.2.2.2.1)), (7, (.int .i64 y.2.2.2.2)), (8, j8), (13, j13), (25, j25), (33, j33)], some ⟨v0, 1, ui y.2.2.1⟩ :: g⟩ ∧ m0 = y.2.2.1.length) (fun _ => by simp only [triviumref02_Sub.l0]) _ ?_ _ (Nat.le_refl _) (_, _, _, _, _) _ H ⟨_, _, _, _, _, _, _, _, rfl, by simp⟩
       clear H
       rintro nl0 hnl0 ⟨x0, x1, x5, x6, x7⟩ s H ⟨j4, m0, j8, j13, j25, j33, v0, g, rfl, rfl⟩ recl0
       simp only [triviumref02_Sub.l0] at H
       repeat' with_reducible (first | (refine none_some H; done) | (refine ite_e H ?_ ?_ <;> clear H <;> intro c H <;> (try simp only [int_beq, decide_eq_true_eq] at c) <;> first | (have : (_ : Bool) = _ := c; clear this) | (have : ¬ (_ : Bool) = _ := c; clear this) | (replace c := eq_false c; try simp only [List.length_replicate, List.length_set, List.length_nil, List.length_cons, Nat.zero_add] at c) | (replace c := eq_true c; try simp only [List.length_replicate, List.length_set, List.length_nil, List.length_cons, Nat.zero_add] at c)) | (refine bind_k (by assumption) H ?_; clear H; intro H) | (refine bind_e H ?_; clear H; intro _ q H; first | (have q' := e_triviumref02_Trim q; try simp only [u_nil, ui_nil, List.length_replicate, List.length_set, List.cons_append, List.nil_append] at q') | (replace q := Option.some.inj q; subst q) | skip))
       all_goals with_reducible (first | (replace H := Option.some.inj H; subst H) | skip)
       all_goals (try simp only [List.length_replicate, List.length_set] at H)
       all_goals (refine go2 ?_)
       all_goals (first | (trivial) | (exact recl0 _ (by omega) (_, _, _, _, _) _ H ⟨_, _, _, _, _, _, _, _, rfl, by simp⟩) | skip))
   | skip
theorem e_triviumref02_Div {k : Nat} {l0 : List Int} {l1 : List Int} {r : List Int × List Int} (H : triviumref02_Div.f k l0 l1 = some r) : CP (CL F) 97 [(.lst (ui l0)), (.lst (ui l1))] = some (.tup [(.lst (ui r.1)), (.lst (ui r.2))]) := by
  refine CP_X (F := F) (f := 97) rfl rfl ?_
  unfold triviumref02_Div.f at H
  repeat' with_reducible (first | (refine none_some H; done) | (refine ite_e H ?_ ?_ <;> clear H <;> intro c H <;> (try simp only [int_beq, decide_eq_true_eq] at c) <;> first | (have : (_ : Bool) = _ := c; clear this) | (have : ¬ (_ : Bool) = _ := c; clear this) | (replace c := eq_false c; try simp only [List.length_replicate, List.length_set, List.length_nil, List.length_cons, Nat.zero_add] at c) | (replace c := eq_true c; try simp only [List.length_replicate, List.length_set, List.length_nil, List.length_cons, Nat.zero_add] at c)) | (refine bind_k (by assumption) H ?_; clear H; intro H) | (refine bind_e H ?_; clear H; intro _ q H; first | (have q' := e_triviumref02_Cmp q; try simp only [u_nil, ui_nil, List.length_replicate, List.length_set, List.cons_append, List.nil_append] at q') | (have q' := e_triviumref02_MulAdd q; try simp only [u_nil, ui_nil, List.length_replicate, List.length_set, List.cons_append, List.nil_append] at q') | (have q' := e_triviumref02_Sub q; try simp only [u_nil, ui_nil, List.length_replicate, List.length_set, List.cons_append, List.nil_append] at q') | (have q' := e_triviumref02_Trim q; try simp only [u_nil, ui_nil, List.length_replicate, List.length_set, List.cons_append, List.nil_append] at q') | (replace q := Option.some.inj q; subst q) | skip))
  all_goals with_reducible (first | (replace H := Option.some.inj H; subst H) | skip)
  all_goals (try simp only [List.length_replicate, List.length_set] at H)
  all_goals (refine go2 ?_)
  all_goals (first | trivial | skip)
  all_goals first
   |
      (refine X_fuel3 (L := fun n (y : List Int × List Int × List Int × List Int × Int) => triviumref02_Div.l0 n y.1 y.2.1 y.2.2.1 y.2.2.2.1 y.2.2.2.2) (S := fun y s => ∃ j4 j5 m0 j9 j10 j11 j20 j34 j44 v0 g, s = ⟨[(0, (.lst (ui y.1))), (1, (.lst (ui y.2.1))), (4, j4), (5, j5), (6, .ref 0 v0 1 0 m0), (7, (.lst (ui y.2.2.2.1))), (8, (.int .i64 y.2.2.2.2)), (9, j9), (10, j10), (11, j11), (20, j20), (34, j34), (44, j44)], some ⟨v0, 1, ui y.2.2.1⟩ :: g⟩ ∧ m0 = y.2.2.1.length) (fun _ => by simp only [triviumref02_Div.l0]) _ ?_ _ (Nat.le_refl _) (_, _, _, _, _) _ H ⟨_, _, _, _, _, _, _, _, _, _, _, rfl, by simp⟩
       clear H
       rintro nl0 hnl0 ⟨x0, x1, x6, x7, x8⟩ s H ⟨j4, j5, m0, j9, j10, j11, j20, j34, j44, v0, g, rfl, rfl⟩ recl0
       simp only [triviumref02_Div.l0] at H
       repeat' with_reducible (first | (refine none_some H; done) | (refine ite_e H ?_ ?_ <;> clear H <;> intro c H <;> (try simp only [int_beq, decide_eq_true_eq] at c) <;> first | (have : (_ : Bool) = _ := c; clear this) | (have : ¬ (_ : Bool) = _ := c; clear this) | (replace c := eq_false c; try simp only [List.length_replicate, List.length_set, List.length_nil, List.length_cons, Nat.zero_add] at c) | (replace c := eq_true c; try simp only [List.length_replicate, List.length_set, List.length_nil, List.length_cons, Nat.zero_add] at c)) | (refine bind_k (by assumption) H ?_; clear H; intro H) | (refine bind_e H ?_; clear H; intro _ q H; first | (have q' := e_triviumref02_Cmp q; try simp only [u_nil, ui_nil, List.length_replicate, List.length_set, List.cons_append, List.nil_append] at q') | (have q' := e_triviumref02_MulAdd q; try simp only [u_nil, ui_nil, List.length_replicate, List.length_set, List.cons_append, List.nil_append] at q') | (have q' := e_triviumref02_Sub q; try simp only [u_nil, ui_nil, List.length_replicate, List.length_set, List.cons_append, List.nil_append] at q') | (have q' := e_triviumref02_Trim q; try simp only [u_nil, ui_nil, List.length_replicate, List.length_set, List.cons_append, List.nil_append] at q') | (replace q := Option.some.inj q; subst q) | skip))
       all_goals with_reducible (first | (replace H := Option.some.inj H; subst H) | skip)
       all_goals (try simp only [List.length_replicate, List.length_set] at H)
       all_goals (refine go2 ?_)
       all_goals (first | (trivial) | skip)
       all_goals first
        |
          (refine X_fuel3 (L := fun n (y : List Int × List Int × List Int × List Int × Int × Int × Int) => triviumref02_Div.l1 n y.1 y.2.1 y.2.2.1 y.2.2.2.1 y.2.2.2.2.1 y.2.2.2.2.2.1 y.2.2.2.2.2.2) (S := fun y s => ∃ j4 j5 m0 j11 j20 j34 j44 v0 g, s = ⟨[(0, (.lst (ui y.1))), (1, (.lst (ui y.2.1))), (4, j4), (5, j5), (6, .ref 0 v0 1 0 m0), (7, (.lst (ui y.2.2.2.1))), (8, (.int .i64 y.2.2.2.2.1)), (9, (.int .i64 y.2.2.2.2.2.1)), (10, (.int .i64 y.2.2.2.2.2.2)), (11, j11), (20, j20), (34, j34), (44, j44)], some ⟨v0, 1, ui y.2.2.1⟩ :: g⟩ ∧ m0 = y.2.2.1.length) (fun _ => by simp only [triviumref02_Div.l1]) _ ?_ _ (Nat.le_refl _) (_, _, _, _, _, _, _) _ H ⟨_, _, _, _, _, _, _, _, _, rfl, by simp⟩
           clear H
           rintro nl1 hnl1 ⟨x0, x1, x6, x7, x8, x9, x10⟩ s H ⟨j4, j5, m0, j11, j20, j34, j44, v0, g, rfl, rfl⟩ recl1
           simp only [triviumref02_Div.l1] at H
           repeat' with_reducible (first | (refine none_some H; done) | (refine ite_e H ?_ ?_ <;> clear H <;> intro c H <;> (try simp only [int_beq, decide_eq_true_eq] at c) <;> first | (have : (_ : Bool) = _ := c; clear this) | (have : ¬ (_ : Bool) = _ := c; clear this) | (replace c := eq_false c; try simp only [List.length_replicate, List.length_set, List.length_nil, List.length_cons, Nat.zero_add] at c) | (replace c := eq_true c; try simp only [List.length_replicate, List.length_set, List.length_nil, List.length_cons, Nat.zero_add] at c)) | (refine bind_k (by assumption) H ?_; clear H; intro H) | (refine bind_e H ?_; clear H; intro _ q H; first | (have q' := e_triviumref02_Cmp q; try simp only [u_nil, ui_nil, List.length_replicate, List.length_set, List.cons_append, List.nil_append] at q') | (have q' := e_triviumref02_MulAdd q; try simp only [u_nil, ui_nil, List.length_replicate, List.length_set, List.cons_append, List.nil_append] at q') | (have q' := e_triviumref02_Sub q; try simp only [u_nil, ui_nil, List.length_replicate, List.length_set, List.cons_append, List.nil_append] at q') | (have q' := e_triviumref02_Trim q; try simp only [u_nil, ui_nil, List.length_replicate, List.length_set, List.cons_append, List.nil_append] at q') | (replace q := Option.some.inj q; subst q) | skip))
           all_goals with_reducible (first | (replace H := Option.some.inj H; subst H) | skip)
           all_goals (try simp only [List.length_replicate, List.length_set] at H)
           all_goals (refine go2 ?_)
           all_goals (first | (trivial) | (exact recl0 _ (by omega) (_, _, _, _, _) _ H ⟨_, _, _, _, _, _, _, _, _, _, _, rfl, by simp⟩) | (exact recl1 _ (by omega) (_, _, _, _, _, _, _) _ H ⟨_, _, _, _, _, _, _, _, _, rfl, by simp⟩) | skip)))
   | skip
theorem e_triviumref02_Gcd {k : Nat} {l0 : List Int} {l1 : List Int} {r : List Int} (H : triviumref02_Gcd.f k l0 l1 = some r) : CP (CL F) 96 [(.lst (ui l0)), (.lst (ui l1))] = some (.lst (ui r)) := by
  refine CP_X (F := F) (f := 96) rfl rfl ?_
  unfold triviumref02_Gcd.f at H
  repeat' with_reducible (first | (refine none_some H; done) | (refine ite_e H ?_ ?_ <;> clear H <;> intro c H <;> (try simp only [int_beq, decide_eq_true_eq] at c) <;> first | (have : (_ : Bool) = _ := c; clear this) | (have : ¬ (_ : Bool) = _ := c; clear this) | (replace c := eq_false c; try simp only [List.length_replicate, List.length_set, List.length_nil, List.length_cons, Nat.zero_add] at c) | (replace c := eq_true c; try simp only [List.length_replicate, List.length_set, List.length_nil, List.length_cons, Nat.zero_add] at c)) | (refine bind_k (by assumption) H ?_; clear H; intro H) | (refine bind_e H ?_; clear H; intro _ q H; first | (have q' := e_triviumref02_Div q; try simp only [u_nil, ui_nil, List.length_replicate, List.length_set, List.cons_append, List.nil_append] at q') | (replace q := Option.some.inj q; subst q) | skip))
  all_goals with_reducible (first | (replace H := Option.some.inj H; subst H) | skip)
  all_goals (try simp only [List.length_replicate, List.length_set] at H)
  all_goals (refine go2 ?_)
  all_goals (first | trivial | skip)
  all_goals first
   |
      (refine X_fuel3 (L := fun n (y : List Int × List Int) => triviumref02_Gcd.l0 n y.1 y.2) (S := fun y s => ∃ j4 j6 j9 g, s = ⟨[(0, (.lst (ui y.1))), (1, (.lst (ui y.2))), (4, j4), (6, j6), (9, j9)], g⟩) (fun _ => by simp only [triviumref02_Gcd.l0]) _ ?_ _ (Nat.le_refl _) (_, _) _ H ⟨_, _, _, _, rfl⟩
       clear H
       rintro nl0 hnl0 ⟨x0, x1⟩ s H ⟨j4, j6, j9, g, rfl⟩ recl0
       simp only [triviumref02_Gcd.l0] at H
       repeat' with_reducible (first | (refine none_some H; done) | (refine ite_e H ?_ ?_ <;> clear H <;> intro c H <;> (try simp only [int_beq, decide_eq_true_eq] at c) <;> first | (have : (_ : Bool) = _ := c; clear this) | (have : ¬ (_ : Bool) = _ := c; clear this) | (replace c := eq_false c; try simp only [List.length_replicate, List.length_set, List.length_nil, List.length_cons, Nat.zero_add] at c) | (replace c := eq_true c; try simp only [List.length_replicate, List.length_set, List.length_nil, List.length_cons, Nat.zero_add] at c)) | (refine bind_k (by assumption) H ?_; clear H; intro H) | (refine bind_e H ?_; clear H; intro _ q H; first | (have q' := e_triviumref02_Div q; try simp only [u_nil, ui_nil, List.length_replicate, List.length_set, List.cons_append, List.nil_append] at q') | (replace q := Option.some.inj q; subst q) | skip))
       all_goals with_reducible (first | (replace H := Option.some.inj H; subst H) | skip)
       all_goals (try simp only [List.length_replicate, List.length_set] at H)
       all_goals (refine go2 ?_)
       all_goals (first | (trivial) | (exact recl0 _ (by omega) (_, _) _ H ⟨_, _, _, _, rfl⟩) | skip))
   | skip
end Go.S

end
section
set_option linter.unusedVariables false
set_option linter.unusedSimpArgs false
set_option maxRecDepth 100000
namespace Go.S
open Go Go.AM Go.RowKit Go.K
theorem triviumref02_Clean_j1_e {n : Nat} {x5 : List Int} {r} {p : Prop} (h : triviumref02_Clean.j1 n x5 = some r) (h1 : ∀ m, m < n → triviumref02_Clean.j1 (m + 1) x5 = some r → p) : p := by
  cases n with
  | zero => simp [triviumref02_Clean.j1] at h
  | succ m => exact h1 m (by omega) h
theorem rd_take (l : List Int) (m : Nat) (i : Int) (h0 : 0 ≤ i) (h1 : i < (m : Int)) : rd (l.take m) i = rd l i := by
  unfold rd
  simp only [List.getD_eq_getElem?_getD]
  rw [List.getElem?_take_of_lt (by omega)]
theorem e_triviumref02_Clean {k : Nat} {l0 : List Int} {a1 : Int} {r : List Int} (H : triviumref02_Clean.f k l0 a1 = some r) : CP (CL F) 69 [(.lst (u l0)), (.int .i64 a1)] = some (.lst (u r)) := by
  refine CP_X (F := F) (f := 69) rfl rfl ?_
  unfold triviumref02_Clean.f at H
  refine go2 ?_
  refine X_fuel3 (L := fun n (y : List Int × Int) => triviumref02_Clean.l0 n l0 a1 y.1 y.2) (S := fun y s => ∃ j4 m0 j16 j38 v0 g, s = ⟨[(0, (.lst (u l0))), (1, (.int .i64 a1)), (4, j4), (5, .ref 0 v0 1 0 m0), (6, (.int .i64 y.2)), (16, j16), (38, j38)], some ⟨v0, 1, u y.1⟩ :: g⟩ ∧ m0 = y.1.length) (fun _ => by simp only [triviumref02_Clean.l0]) _ ?_ _ (Nat.le_refl _) (_, _) _ H ⟨_, _, _, _, _, _, rfl, by simp⟩
  clear H
  rintro nl0 hnl0 ⟨x5, x6⟩ s H ⟨j4, m0, j16, j38, v0, g, rfl, rfl⟩ recl0
  simp only [triviumref02_Clean.l0] at H
  repeat' with_reducible (first | (refine none_some H; done) | (refine ite_e H ?_ ?_ <;> clear H <;> intro c H <;> (try simp only [int_beq, decide_eq_true_eq] at c) <;> first | (have : (_ : Bool) = _ := c; clear this) | (have : ¬ (_ : Bool) = _ := c; clear this) | (replace c := eq_false c; try simp only [List.length_replicate, List.length_set, List.length_nil, List.length_cons, Nat.zero_add] at c) | (replace c := eq_true c; try simp only [List.length_replicate, List.length_set, List.length_nil, List.length_cons, Nat.zero_add] at c)) | (refine bind_k (by assumption) H ?_; clear H; intro H) | (refine bind_e H ?_; clear H; intro _ q H; first | (replace q := Option.some.inj q; subst q) | skip) | (refine triviumref02_Clean_j1_e H ?_; clear H; intro _ _ H; simp only [triviumref02_Clean.j1] at H))
  all_goals with_reducible (first | (replace H := Option.some.inj H; subst H) | skip)
  all_goals (try simp only [List.length_replicate, List.length_set] at H)
  all_goals (refine go2 ?_)
  all_goals (try exact recl0 _ (by omega) (_, _) _ H ⟨_, _, _, _, _, _, rfl, by simp⟩)
  all_goals (clear recl0; refine X_fuel3 (L := fun n (y : List Int) => triviumref02_Clean.l1 n y) (S := fun y s => ∃ j4 m0 j6 j16 j38 v0 g b, s = ⟨[(0, (.lst (u l0))), (1, (.int .i64 a1)), (4, j4), (5, .ref 0 v0 1 0 m0), (6, j6), (16, j16), (38, j38)], some ⟨v0, 1, u b⟩ :: g⟩ ∧ m0 ≤ b.length ∧ y = b.take m0) (fun _ => by simp only [triviumref02_Clean.l1]) _ ?_ _ (Nat.le_refl _) _ _ H ⟨_, _, _, _, _, _, _, _, rfl, by simp, by simp⟩)
  all_goals clear H
  all_goals rintro nl1 hnl1 y s H ⟨j4, m0, j6, j16, j38, v0, g, b, rfl, hm, rfl⟩ recl1
  all_goals simp only [triviumref02_Clean.l1] at H
  all_goals have hl : (List.take m0 b).length = m0 := by rw [List.length_take]; omega
  all_goals rw [hl] at H
  all_goals replace hm := eq_true hm
  repeat' with_reducible (first | (refine none_some H; done) | (rw [rd_take b m0 _ (of_eq_true (by assumption)) (of_eq_true (by assumption))] at H) | (refine ite_e H ?_ ?_ <;> clear H <;> intro c H <;> (try simp only [int_beq, decide_eq_true_eq] at c) <;> first | (have : (_ : Bool) = _ := c; clear this) | (have : ¬ (_ : Bool) = _ := c; clear this) | (replace c := eq_false c; try simp only [List.length_replicate, List.length_set, List.length_nil, List.length_cons, Nat.zero_add] at c) | (replace c := eq_true c; try simp only [List.length_replicate, List.length_set, List.length_nil, List.length_cons, Nat.zero_add] at c)) | (refine bind_k (by assumption) H ?_; clear H; intro H) | (refine bind_e H ?_; clear H; intro _ q H; first | (replace q := Option.some.inj q; subst q) | skip))
  all_goals with_reducible (first | (replace H := Option.some.inj H; subst H) | skip)
  all_goals (try simp only [List.length_replicate, List.length_set] at H)
  all_goals have hg := fun i h0 (h1 : i < (m0 : Int)) => u_get b i h0 (by have := of_eq_true hm; omega)
  all_goals (refine go2 ?_)
  all_goals (first | trivial | exact recl1 _ (by omega) _ _ H ⟨_, _, _, _, _, _, _, _, rfl, by have h1 := of_eq_true hm; have h2 : wrap64 ((m0 : Int) - 1) < (m0 : Int) := of_eq_true (by assumption); omega, by have h2 : wrap64 ((m0 : Int) - 1) < (m0 : Int) := of_eq_true (by assumption); rw [List.take_take]; congr 1; omega⟩)
end Go.S

end
section
set_option linter.unusedVariables false
set_option linter.unusedSimpArgs false
set_option maxRecDepth 100000
namespace Go.S
open Go Go.AM Go.RowKit Go.K
theorem ev_cp {α : Type} {g : Nat → Option α} {r : α} {p : Prop} (h : Ev g r) (k : ∀ n, g n = some r → p) : p := by
  obtain ⟨K, hK⟩ := h
  exact k K (hK K (Nat.le_refl _))
theorem qn {q : Rat} : 0 ≤ (q.den : Int) := Int.natCast_nonneg _
theorem rat_ext_iff (a b : Rat) : a = b ↔ a.num = b.num ∧ a.den = b.den := ⟨fun h => by subst h; exact ⟨rfl, rfl⟩, fun h => Rat.ext h.1 h.2⟩
end Go.S

end
section
set_option linter.unusedVariables false
set_option linter.unusedSimpArgs false
set_option maxRecDepth 100000
namespace Go.S
open Go Go.AM Go.RowKit Go.K
theorem dvd_div_ab {p g : Int} (hg : 0 < g) (h : g ∣ p) : p / g < 0 ↔ p < 0 := by
  obtain ⟨c, rfl⟩ := h
  rw [Int.mul_ediv_cancel_left _ (by omega)]
  constructor
  · intro h1; exact Int.mul_neg_of_pos_of_neg hg h1
  · intro h1
    apply Int.lt_of_not_ge
    intro h2
    have := Int.mul_nonneg (Int.le_of_lt hg) h2
    omega
theorem dz : dg D 0 = [] := dg_zero _
theorem bz : dg B 0 = [] := dg_zero _
theorem lenD_pos' {x : Int} (hx : 0 ≤ x) (h : x ≠ 0) : (0 : Int) < ((dg D x).length : Int) := by have := (lenD_pos hx).2 h; omega
theorem lenB_pos' {x : Int} (hx : 0 ≤ x) (h : x ≠ 0) : (0 : Int) < ((dg B x).length : Int) := by have := (dg_len_pos hx).2 h; omega
theorem sg_nonneg_ab (b : Bool) {n : Int} (hn : 0 ≤ n) : ab (sg b n) = n := by unfold sg ab; split <;> omega
theorem sg_lt (b : Bool) {n : Int} (hn : 0 ≤ n) : sg b n < 0 ↔ b = true ∧ n ≠ 0 := by unfold sg; split <;> simp_all <;> omega
theorem rZ_sg (b : Bool) {n : Int} (hn : 0 ≤ n) : rZ (sg b n) = .agg [.bool (b && decide (n ≠ 0)), rN n] := by
  unfold rZ
  rw [sg_nonneg_ab b hn]
  congr 3
  rw [Bool.eq_iff_iff]
  simp [sg_lt b hn]
theorem s_r02_Of {x : Int} (hx : 0 ≤ x) (h1 : L x < 100000000) : CP (CL F) 73 [eN x] = some (rN x) :=
  ev_cp (of_ev hx (by rw [L_nat hx]; omega)) fun _ h => e_triviumref02_Of h
theorem s_r02_Back {x : Int} (hx : 0 ≤ x) (h1 : L x < 100000000) : CP (CL F) 101 [rN x] = some (eN x) :=
  ev_cp (back_ev hx (by have := L_Dn hx; omega)) fun _ h => e_triviumref02_Back h
theorem s_r02_Div {x y : Int} (hx : 0 ≤ x) (hy : 0 < y) (h1 : L x < 1000000000) (h2 : L y < 1000000000) : CP (CL F) 97 [rN x, rN y] = some (.tup [rN (x / y), rN (x % y)]) :=
  ev_cp (rdiv_ev hx hy (by have := L_Dn hx; omega) (by have := L_Dn (x := y) (by omega); omega)) fun _ h => e_triviumref02_Div h
theorem s_r02_Gcd {x y : Int} (hx : 0 ≤ x) (hy : 0 ≤ y) (h1 : L x < 1000000000) (h2 : L y < 1000000000) : CP (CL F) 96 [rN x, rN y] = some (rN (gg x y)) := by
  obtain ⟨m, rfl⟩ := Int.eq_ofNat_of_zero_le hx
  obtain ⟨n, rfl⟩ := Int.eq_ofNat_of_zero_le hy
  have e : Ev (fun k => triviumref02_Gcd.f k (dg D (m : Int)) (dg D (n : Int))) (dg D (gg (m : Int) (n : Int))) := by
    have := rgcd_l0 n m (by have := L_Dn hx; omega) (by have := L_Dn hy; omega)
    unfold triviumref02_Gcd.f gg
    simpa using this
  exact ev_cp e fun _ h => e_triviumref02_Gcd h
theorem s_r02_Same (xs ys : List Int) (h : xs.length < 17592186044416) : CP (CL F) 108 [.lst (u xs), .lst (u ys)] = some (.bool (decide (xs = ys))) :=
  ev_cp (same_ev xs ys h) fun _ h => e_triviumref02_Same h
theorem s_r02_Clean (xs : List Int) (m : Nat) (hu : ∀ x ∈ xs, 0 ≤ x) (hl : xs.length < 17592186044416) : CP (CL F) 69 [.lst (u xs), .int .i64 (m : Int)] = some (eN (cl xs m)) :=
  ev_cp (clean_ev xs m hu hl) fun _ h => e_triviumref02_Clean h
theorem L_cl (xs : List Int) (m : Nat) : L (cl xs m) ≤ m := L_le (by rw [ab_of_nonneg (cl_nonneg xs m)]; exact cl_lt xs m)
theorem s_r07_made (b : Bool) {n : Int} (hn : 0 ≤ n) : CP (CL F) 98 [.bool b, rN n] = some (rZ (sg b n)) := by
  rw [rZ_sg b hn]
  refine CP_X (F := F) (f := 98) rfl rfl ?_
  by_cases h0 : n = 0
  · subst h0
    have hz := dz
    cases b <;> (refine go3 ?_; simp [dz, ui])
  · have hp := lenD_pos' hn h0
    cases b
    · refine go3 ?_; trivial
    · refine go3 ?_
      simp [h0]
theorem s_r07_Of {z : Int} (h : L z < 100000000) : CP (CL F) 71 [eZ z] = some (rZ z) := by
  refine CP_X (F := F) (f := 71) rfl rfl ?_
  have h1 := s_r02_Of (ab_nonneg z) (by rw [← L_nat (ab_nonneg z)]; exact h)
  have h2 := s_r07_made (decide (z < 0)) (ab_nonneg z)
  rw [sg_wz] at h2
  clear h
  refine go3 ?_
  trivial
theorem s_r07_Back {z : Int} (h : L z < 100000000) : CP (CL F) 100 [rZ z] = some (eZ z) := by
  refine CP_X (F := F) (f := 100) rfl rfl ?_
  have h1 := s_r02_Back (ab_nonneg z) (by rw [← L_nat (ab_nonneg z)]; exact h)
  clear h
  refine go3 ?_
  trivial
theorem s_r07_Clean (b : Bool) (xs : List Int) (m : Nat) (hu : ∀ x ∈ xs, 0 ≤ x) (hl : xs.length < 17592186044416) : CP (CL F) 72 [.agg [.bool b, .lst (u xs)], .int .i64 (m : Int)] = some (eZ (sg b (cl xs m))) := by
  have hz : eZ (sg b (cl xs m)) = .agg [.bool (b && decide (cl xs m ≠ 0)), eN (cl xs m)] := by
    unfold eZ
    rw [sg_nonneg_ab b (cl_nonneg xs m)]
    congr 3
    rw [Bool.eq_iff_iff]
    simp [sg_lt b (cl_nonneg xs m)]
  rw [hz]
  refine CP_X (F := F) (f := 72) rfl rfl ?_
  have h1 := s_r02_Clean xs m hu hl
  have hn := cl_nonneg xs m
  clear hz hu hl
  generalize cl xs m = n at *
  by_cases h0 : n = 0
  · subst h0
    have hz := bz
    cases b <;> (refine go3 ?_; simp [bz, u])
  · have hp := lenB_pos' hn h0
    cases b
    · refine go3 ?_; trivial
    · refine go3 ?_
      simp [h0]
theorem dg_inj {x y : Int} (hx : 0 ≤ x) (hy : 0 ≤ y) : dg B x = dg B y ↔ x = y := ⟨fun h => by rw [← val_dg hB x hx, ← val_dg hB y hy, h], fun h => by rw [h]⟩
theorem s_r07_Same {x y : Int} (h : L x < 1000000000) : CP (CL F) 107 [eZ x, eZ y] = some (.bool (decide (x = y))) := by
  refine CP_X (F := F) (f := 107) rfl rfl ?_
  have h1 := s_r02_Same (dg B (ab x)) (dg B (ab y)) (by have := L_def x; omega)
  have e : decide (x = y) = ((decide (x < 0) == decide (y < 0)) && decide (dg B (ab x) = dg B (ab y))) := by
    rw [Bool.eq_iff_iff]
    simp only [decide_eq_true_eq, Bool.and_eq_true, beq_iff_eq, decide_eq_decide, dg_inj (ab_nonneg x) (ab_nonneg y)]
    unfold ab; omega
  rw [e]
  clear e h
  by_cases hb : (decide (x < 0) == decide (y < 0)) = true
  · refine go3 ?_; trivial
  · have hb' : (decide (x < 0) == decide (y < 0)) = false := by simpa using hb
    clear hb
    refine go3 ?_; trivial
theorem s_r08_Low {p d : Int} (hd : 0 < d) (h1 : L p < 1000000000) (h2 : L d < 1000000000) : CP (CL F) 66 [rZ p, rN d] = some (rQ (Rat.divInt p d)) := by
  refine CP_X (F := F) (f := 66) rfl rfl ?_
  have hg := gg_pos (p := p) (d := d) (by omega)
  have egg : gg (ab p) d = gg p d := by unfold gg ab; simp
  have lg : L (gg p d) < 1000000000 := by have := L_dvd (gg_dvd_right p d) (by omega); omega
  have g1 := s_r02_Gcd (ab_nonneg p) (Int.le_of_lt hd) (by rw [← L_nat (ab_nonneg p)]; exact h1) h2
  rw [egg] at g1
  have d1 := s_r02_Div (ab_nonneg p) hg (by rw [← L_nat (ab_nonneg p)]; exact h1) lg
  have d2 := s_r02_Div (Int.le_of_lt hd) hg h2 lg
  have e := nq_rat (p := p) hd
  unfold nq wz at e
  simp only [Prod.mk.injEq] at e
  obtain ⟨e1, e2, e3⟩ := e
  have hq := dvd_div_ab hg (gg_dvd_left p d)
  have e2' : ab p / gg p d = ab (Rat.divInt p d).num := by
    rw [← ab_div hg (gg_dvd_left p d)]
    exact (dg_inj (ab_nonneg _) (ab_nonneg _)).1 e2
  have e3' : d / gg p d = ((Rat.divInt p d).den : Int) := (dg_inj (Int.ediv_nonneg (Int.le_of_lt hd) (Int.le_of_lt hg)) (Int.natCast_nonneg _)).1 e3
  rw [e2'] at d1
  rw [e3'] at d2
  have e4 : (p < 0) = ((Rat.divInt p d).num < 0) := by
    rw [decide_eq_decide] at e1
    rw [← propext e1]
    exact propext hq.symm
  clear e1 e2 e3 e2' e3' hq egg lg h1 h2
  by_cases hp : p < 0
  · have hn : (Rat.divInt p d).num ≠ 0 := by rw [e4] at hp; omega
    have hl := lenD_pos' (ab_nonneg (Rat.divInt p d).num) (by unfold ab; omega)
    have hp' := e4 ▸ hp
    unfold rQ
    clear e4 hd hg
    refine go3 ?_
    trivial
  · have hp' := e4 ▸ hp
    unfold rQ
    clear e4 hd hg
    refine go3 ?_
    trivial
end Go.S

end
section
set_option linter.unusedVariables false
set_option linter.unusedSimpArgs false
set_option maxRecDepth 100000
namespace Go.S
open Go Go.AM Go.RowKit Go.K
theorem s_r08_Of {q : Rat} (h : Lq q < 100000000) : CP (CL F) 37 [eQ q] = some (rQ q) := by
  refine CP_X (F := F) (f := 37) rfl rfl ?_
  have h1 := s_r07_Of (z := q.num) (by have := Lq_num q; omega)
  have h2 := s_r02_Of (x := (q.den : Int)) qn (by have := Lq_den q; omega)
  clear h
  refine go3 ?_
  trivial
theorem s_r08_Back {q : Rat} (h : Lq q < 100000000) : CP (CL F) 70 [rQ q] = some (eQ q) := by
  refine CP_X (F := F) (f := 70) rfl rfl ?_
  have h1 := s_r07_Back (z := q.num) (by have := Lq_num q; omega)
  have h2 := s_r02_Back (x := (q.den : Int)) qn (by have := Lq_den q; omega)
  clear h
  refine go3 ?_
  trivial
theorem s_r08_Same {a b : Rat} (h1 : Lq a < 100000000) : CP (CL F) 79 [eQ a, eQ b] = some (.bool (decide (a = b))) := by
  refine CP_X (F := F) (f := 79) rfl rfl ?_
  have k1 := s_r07_Same (x := a.num) (y := b.num) (by have := Lq_num a; omega)
  have k2 := s_r02_Same (dg B (a.den : Int)) (dg B (b.den : Int)) (by have := Lq_den a; have := L_nat (x := (a.den : Int)) qn; omega)
  have e : decide (a = b) = (decide (a.num = b.num) && decide (dg B (a.den : Int) = dg B (b.den : Int))) := by
    rw [Bool.eq_iff_iff]
    simp only [decide_eq_true_eq, Bool.and_eq_true, dg_inj qn qn, rat_ext_iff]
    omega
  rw [e]
  clear e h1
  by_cases hb : a.num = b.num
  · have hb' : decide (a.num = b.num) = true := by simp [hb]
    rw [hb'] at k1 ⊢
    clear hb hb'
    refine go3 ?_; trivial
  · have hb' : decide (a.num = b.num) = false := by simp [hb]
    rw [hb'] at k1 ⊢
    clear hb hb'
    refine go3 ?_; trivial
theorem s_r08_Clean (b : Bool) (xs ys : List Int) (hx : ∀ x ∈ xs, 0 ≤ x) (hy : ∀ y ∈ ys, 0 ≤ y) (lx : xs.length < 17592186044416) (ly : ys.length < 17592186044416) (m : Nat) (hm : m < 1000000) (hm1 : 1 ≤ m) :
    ∃ q : Rat, Lq q ≤ m ∧ CP (CL F) 34 [.agg [.bool b, .lst (u xs), .lst (u ys)], .int .i64 (m : Int)] = some (eQ q) := by
  let d := if cl ys m = 0 then 1 else cl ys m
  have hd : 0 < d := by have := cl_nonneg ys m; show 0 < (if cl ys m = 0 then 1 else cl ys m); split <;> omega
  have Ld : L d ≤ m := by show L (if cl ys m = 0 then 1 else cl ys m) ≤ m; split; have := L_one; omega; exact L_cl ys m
  have Ln : L (sg b (cl xs m)) ≤ m := by have := L_cl xs m; unfold L at *; rw [sg_nonneg_ab b (cl_nonneg xs m)]; rwa [ab_of_nonneg (cl_nonneg xs m)] at this
  have hq : Lq (Rat.divInt (sg b (cl xs m)) d) ≤ m := by
    have := Lq_divInt (p := sg b (cl xs m)) (d := d) (by omega)
    omega
  refine ⟨Rat.divInt (sg b (cl xs m)) d, hq, ?_⟩
  refine CP_X (F := F) (f := 34) rfl rfl ?_
  have k1 := s_r02_Clean ys m hy ly
  have k2 := s_r07_Clean b xs m hx lx
  have k3 := s_r07_Of (z := sg b (cl xs m)) (by omega)
  have k4 := s_r02_Of (x := d) (Int.le_of_lt hd) (by omega)
  have k5 := s_r08_Low (p := sg b (cl xs m)) (d := d) hd (by omega) (by omega)
  have k6 := s_r08_Back (q := Rat.divInt (sg b (cl xs m)) d) (by omega)
  have hn := cl_nonneg ys m
  clear hx hy lx ly Ld Ln hq
  by_cases h0 : cl ys m = 0
  · have ed : d = 1 := by show (if cl ys m = 0 then 1 else cl ys m) = 1; rw [if_pos h0]
    rw [ed] at k4 k5 k6 hd ⊢
    rw [h0] at k1
    clear_value d
    have e1 : dg K.B 1 = [1] := by rw [dg_pos hB (by decide)]; rw [show (1 : Int) / K.B = 0 from rfl, bz]; rfl
    have hz := bz
    unfold eN at k4
    rw [e1] at k4
    clear h0 hd hn e1
    refine go3 ?_
    trivial
  · have ed : d = cl ys m := by show (if cl ys m = 0 then 1 else cl ys m) = _; rw [if_neg h0]
    have hp := lenB_pos' hn h0
    have hp2 : ¬ ((dg B (cl ys m)).length : Int) = 0 := by omega
    rw [← ed] at k1 hp hp2
    clear_value d
    clear h0 hd hn ed
    refine go3 ?_
    trivial
end Go.S

end
section
set_option linter.unusedVariables false
set_option linter.unusedSimpArgs false
namespace Go.S
open Go Go.AM Go.RowKit Go.K
theorem X_up {F : Nat → Option AFunc} {ks : List Nat} {Q : Ex → St → Prop} {k : Kt} {a : ACode} (N : Nat) (S : Nat → St → Prop)
    (step : ∀ i s, i < N → S i s → (∀ s', S (i + 1) s' → X F ks Q (.loop a) s' k) → X F ks Q a s (.seq (.loop a) k))
    (stop : ∀ s, S N s → X F ks Q a s (.seq (.loop a) k)) : ∀ i, i ≤ N → ∀ s, S i s → X F ks Q (.loop a) s k := by
  have H : ∀ d i, N - i = d → i ≤ N → ∀ s, S i s → X F ks Q (.loop a) s k := by
    intro d
    induction d with
    | zero =>
      intro i hd hi s hs
      obtain rfl : i = N := by omega
      exact X_round (stop s hs)
    | succ d ih =>
      intro i hd hi s hs
      exact X_round (step i s (by omega) hs fun s' hs' => ih (i + 1) (by omega) (by omega) s' hs')
  exact fun i hi s hs => H _ i rfl hi s hs
theorem X_upto {F : Nat → Option AFunc} {ks : List Nat} {Q : Ex → St → Prop} {k : Kt} {a : ACode} (N : Nat) (S : Nat → St → Prop)
    (step : ∀ i s, i ≤ N → S i s → (∀ s', i < N → S (i + 1) s' → X F ks Q (.loop a) s' k) → X F ks Q a s (.seq (.loop a) k)) : ∀ i, i ≤ N → ∀ s, S i s → X F ks Q (.loop a) s k := by
  have H : ∀ d i, N - i = d → i ≤ N → ∀ s, S i s → X F ks Q (.loop a) s k := by
    intro d
    induction d with
    | zero =>
      intro i hd hi s hs
      exact X_round (step i s hi hs fun s' h _ => by omega)
    | succ d ih =>
      intro i hd hi s hs
      exact X_round (step i s hi hs fun s' h hs' => ih (i + 1) (by omega) (by omega) s' hs')
  exact fun i hi s hs => H _ i rfl hi s hs
section
variable {α : Type} {f : α → AV}
theorem fill_get (l : List α) (n : Nat) (z : AV) : (em f l ++ List.replicate (n + 1) z)[l.length]? = some z := by
  rw [List.getElem?_append_right (by rw [em_len]; omega), em_len]
  simp
theorem fill_set (l : List α) (n : Nat) (z : AV) (x : α) : (em f l ++ List.replicate (n + 1) z).set l.length (f x) = em f (l ++ [x]) ++ List.replicate n z := by
  rw [List.set_append_right _ _ (by rw [em_len]; omega), em_len]
  simp [em, List.replicate_succ]
theorem em_getN [Inhabited α] (l : List α) (i : Nat) (h : i < l.length) : (em f l)[i]? = some (f (l.getD i default)) := by
  simp [em, List.getElem?_eq_getElem h, List.getD]
end
theorem getD_mem {α : Type} [Inhabited α] {l : List α} {i : Nat} (h : i < l.length) : l.getD i default ∈ l := by
  simp [List.getD, List.getElem?_eq_getElem h]
theorem take_succ_getD {α : Type} [Inhabited α] (l : List α) (i : Nat) (h : i < l.length) : l.take (i + 1) = l.take i ++ [l.getD i default] := by
  rw [List.take_add_one, List.getElem?_eq_getElem h]
  simp [List.getD, List.getElem?_eq_getElem h]
theorem lt_c {i n : Nat} (h : i < n) : ((i : Int) < (n : Int)) := by omega
theorem nlt_c {n : Nat} : ¬ ((n : Int) < (n : Int)) := by omega
theorem CP_raw {F : Nat → Option AFunc} {f : Nat} {args : List AV} {r : AV} {h : Heap} {x : AV} (h1 : CL F f args [] = some (r, h)) (h2 : fz h r = some x) : CP (CL F) f args = some x := CP_of h1 h2
end Go.S

end
section
set_option linter.unusedVariables false
set_option linter.unusedSimpArgs false
set_option maxRecDepth 100000
namespace Go.S
open Go Go.AM Go.RowKit Go.K
abbrev zQ : AV := .agg [.bool false, .nil, .nil]
abbrev eR (l : List Rat) : AV := .lst (em eQ l)
abbrev rR (l : List Rat) : AV := .lst (em rQ l)
theorem s_clone {l : List Rat} (hl : l.length ≤ 1000000) (h : Heap) (hn : l ≠ []) : CL F 63 [eR l] h = some (.ref h.length 0 3 0 l.length, h ++ [some ⟨0, 3, em eQ l⟩]) := by
  refine CL_X (F := F) (f := 63) rfl rfl ?_
  cases l with
  | nil => exact absurd rfl hn
  | cons x l =>
    have hl' : (em eQ (x :: l)).isEmpty = false := rfl
    have h2 : l.length < 2513169434916 := by simp at hl; omega
    have he : eqA 3 (eR (x :: l)) .nil = some false := rfl
    clear hl hn
    refine go3 ?_
    trivial
theorem s_clone_nil (h : Heap) : cloneA (CL F) 63 (.lst []) h = some (.zero, h) := by
  refine clone_nil ?_ ?_
  · refine CL_X (F := F) (f := 63) rfl rfl ?_
    refine go3 ?_
    trivial
  · refine CL_X (F := F) (f := 63) rfl rfl ?_
    refine go3 ?_
    trivial
theorem s_clone' {l : List Rat} (hl : l.length ≤ 1000000) (h : Heap) (hn : l ≠ []) : cloneA (CL F) 63 (eR l) h = some (.ref h.length 0 3 0 l.length, h ++ [some ⟨0, 3, em eQ l⟩]) := by
  rw [cloneA_ne, s_clone hl h hn]
  intro hx
  cases l with
  | nil => exact hn rfl
  | cons x l => simp [em] at hx
end Go.S

end
section
set_option linter.unusedVariables false
set_option linter.unusedSimpArgs false
set_option maxRecDepth 100000
namespace Go.S
open Go Go.AM Go.RowKit Go.K
theorem em2 {α : Type} {f : α → AV} (a b : α) : [f a, f b] = em f [a, b] := rfl
theorem getD_inj {l r : List Rat} (h : l.length = r.length) {i : Nat} (hi : i < l.length) (hne : l.getD i default ≠ r.getD i default) : l ≠ r := fun e => hne (by rw [e])
end Go.S

end
section
set_option linter.unusedVariables false
set_option linter.unusedSimpArgs false
set_option maxRecDepth 100000
namespace Go.S
open Go Go.AM Go.RowKit Go.K
theorem s_Is {a q : List Rat} (ha : a.length ≤ 1000000) (h0 : ∀ x ∈ a, Lq x < 100000000) (h1 : ∀ x ∈ q, Lq x < 100000000) : CP (CL F) 51 [eR a, rR q] = some (eI (if a = q then 1 else 0)) := by
  refine CP_X (F := F) (f := 51) rfl rfl ?_
  by_cases hl : a.length = q.length
  · have hl1 : ¬ ((a.length : Int) ≠ (q.length : Int)) := by omega
    have hl2 : (a.length : Int) = (q.length : Int) := by omega
    refine go3 ?_
    refine X_upto a.length (fun i s => ∃ j4 j14 j27 g, (a.take i = q.take i) ∧ s = ⟨[(0, eR a), (1, rR q), (4, j4), (5, eI i), (10, .bool false), (14, j14), (27, j27)], g⟩) ?_ 0 (Nat.zero_le _) _ ⟨_, _, _, _, by simp, rfl⟩
    rintro i s hi ⟨j4, j14, j27, g, heq, rfl⟩ rec
    by_cases hlt : i < a.length
    · have hlt1 : (i : Int) < (q.length : Int) := by omega
      have hlt2 : (i : Int) < (a.length : Int) := by omega
      have g1 := em_getN (f := eQ) a i (by omega)
      have g2 := em_getN (f := rQ) q i (by omega)
      have k1 := s_r08_Back (h1 _ (getD_mem (l := q) (i := i) (by omega)))
      have k2 := s_r08_Same (b := q.getD i default) (h0 _ (getD_mem (l := a) (i := i) (by omega)))
      by_cases hx : a.getD i default = q.getD i default
      · rw [decide_eq_true hx] at k2
        have hnext : a.take (i + 1) = q.take (i + 1) := by rw [take_succ_getD a i hlt, take_succ_getD q i (by omega), heq, hx]
        have hw := i64_nat (n := i) (by omega)
        clear hx heq h0 h1
        refine go3 ?_
        exact rec _ hlt ⟨_, _, _, _, hnext, rfl⟩
      · rw [decide_eq_false hx] at k2
        have hne : (if a = q then (1 : Int) else 0) = 0 := if_neg (getD_inj hl hlt hx)
        rw [hne]
        clear hx heq rec h0 h1 hne
        refine go3 ?_
        trivial
    · have hl3 : ¬ ((i : Int) < (q.length : Int)) := by omega
      have he : (if a = q then (1 : Int) else 0) = 1 := by
        rw [List.take_of_length_le (by omega), List.take_of_length_le (by omega)] at heq
        exact if_pos heq
      rw [he]
      clear heq rec h0 h1 he
      refine go3 ?_
      trivial
  · have hl1 : (a.length : Int) ≠ (q.length : Int) := by omega
    have hl2 : ¬ (a.length : Int) = (q.length : Int) := by omega
    have he : (if a = q then (1 : Int) else 0) = 0 := if_neg fun e => hl (by rw [e])
    rw [he]
    clear h0 h1 he
    refine go3 ?_
    trivial
structure XQ where
  b : Bool
  n : List Int
  d : List Int
instance : Inhabited XQ := ⟨⟨false, [], []⟩⟩
def XQ.ok (x : XQ) : Prop := (∀ y ∈ x.n, 0 ≤ y) ∧ (∀ y ∈ x.d, 0 ≤ y) ∧ x.n.length < 17592186044416 ∧ x.d.length < 17592186044416
def eX (x : XQ) : AV := .agg [.bool x.b, .lst (u x.n), .lst (u x.d)]
theorem cells_eX {x : XQ} : cells (eX x) = [.bool x.b, .lst (u x.n), .lst (u x.d)] := rfl
theorem agg_eX {x : XQ} : AV.agg [.bool x.b, .lst (u x.n), .lst (u x.d)] = eX x := rfl
theorem fz_eX {x : XQ} {h} : fz h (eX x) = some (eX x) := fz_plain1 rfl
theorem us_eX {x : XQ} {h} : used h deep (eX x) = [] := us_plain1 rfl
theorem shut_eX {x : XQ} {cs} : shut (eX x) cs = some (.agg cs) := rfl
theorem s_r08_CleanX {x : XQ} (hx : x.ok) {m : Nat} (hm : m < 1000000) (hm1 : 1 ≤ m) : ∃ q : Rat, Lq q ≤ m ∧ CP (CL F) 34 [eX x, eI m] = some (eQ q) := s_r08_Clean x.b x.n x.d hx.1 hx.2.1 hx.2.2.1 hx.2.2.2 m hm hm1
end Go.S

end
section
set_option linter.unusedVariables false
set_option linter.unusedSimpArgs false
set_option maxRecDepth 100000
namespace Go.Proofs.YtpmbcdakpmceiaaGreat.R
open Go Go.AM Go.S Go.RowKit Go.K Go.Proofs
def okN (l : List Int) : Prop := (∀ x ∈ l, 0 ≤ x) ∧ l.length < 17592186044416
theorem bytes64 : Tryz.prog.bytesOf 96 = 8 := by kernel_rfl
theorem rdU : Rd Tryz.prog 96 (fun n : Int => [.int .u64 n]) fun n => (Lit.int .u64 n).wf = true := rd_int Tryz.underlying96
theorem rdN : Rd Tryz.prog 42 (fun l : List Int => [.lst (u l)]) okN :=
  (rd_slice Tryz.underlying42 rdU (fun n => AV.int .u64 n) (fun _ => rfl) (s := 1) (by kernel_rfl) (fun _ => rfl) (by decide)).map id (fun _ => rfl) fun l ⟨h1, h2⟩ => ⟨fun x hx => (wf_u64 (h1 x hx)).1, by
    rw [bytes64] at h2
    have : reachBytes = 140737488351232 := rfl
    show l.length < _
    omega⟩
theorem rdZ : Rd Tryz.prog 44 (fun z : Bool × List Int => [.bool z.1, .lst (u z.2)]) fun z => okN z.2 := by
  refine Rd.map (f := fun p : Bool × List Int × Unit => [AV.bool p.1] ++ ([AV.lst (u p.2.1)] ++ [])) (ok := fun p => True ∧ okN p.2.1 ∧ True) (rd_struct Tryz.underlying44 (fun _ => by kernel_rfl) ?_) (fun p => (p.1, p.2.1)) (fun _ => rfl) fun p h => h.2.1
  refine rdfs_cons (s := 1) (f := fun b : Bool => [AV.bool b]) (g := fun q : List Int × Unit => [AV.lst (u q.1)] ++ []) (ok := fun _ => True) (okb := fun q => okN q.1 ∧ True) rfl (by kernel_rfl) (fun _ => rfl) (rd_bool Tryz.underlying4) ?_
  exact rdfs_cons (s := 1) (f := fun l : List Int => [AV.lst (u l)]) (g := fun _ : Unit => []) (ok := okN) (okb := fun _ => True) rfl (by kernel_rfl) (fun _ => rfl) rdN rdfs_nil
theorem rdQ : Rd Tryz.prog 46 (fun x : XQ => [.bool x.b, .lst (u x.n), .lst (u x.d)]) XQ.ok := by
  refine Rd.map (f := fun p : (Bool × List Int) × List Int × Unit => [AV.bool p.1.1, AV.lst (u p.1.2)] ++ ([AV.lst (u p.2.1)] ++ [])) (ok := fun p => okN p.1.2 ∧ okN p.2.1 ∧ True) (rd_struct Tryz.underlying46 (fun _ => by kernel_rfl) ?_) (fun p => ⟨p.1.1, p.1.2, p.2.1⟩) (fun _ => rfl) fun p h => ⟨h.1.1, h.2.1.1, h.1.2, h.2.1.2⟩
  refine rdfs_cons (s := 2) (f := fun z : Bool × List Int => [AV.bool z.1, AV.lst (u z.2)]) (g := fun q : List Int × Unit => [AV.lst (u q.1)] ++ []) (ok := fun z => okN z.2) (okb := fun q => okN q.1 ∧ True) rfl (by kernel_rfl) (fun _ => rfl) rdZ ?_
  exact rdfs_cons (s := 1) (f := fun l : List Int => [AV.lst (u l)]) (g := fun _ : Unit => []) (ok := okN) (okb := fun _ => True) rfl (by kernel_rfl) (fun _ => rfl) rdN rdfs_nil
theorem rdR : Rd Tryz.prog 39 (fun l : List XQ => [.lst (em eX l)]) fun l => ∀ x ∈ l, x.ok :=
  (rd_slice Tryz.underlying39 rdQ eX (fun _ => rfl) (s := 3) (by kernel_rfl) (fun _ => rfl) (by decide)).map id (fun _ => rfl) fun l h => h.1
end Go.Proofs.YtpmbcdakpmceiaaGreat.R

end
