/- A part of the proof of the law BareissSolved: an abstract machine for the functions' code with its soundness, words, lemmas (assembled by a program). -/
import Derived.Test.YtflnfnemhgjglaaProg
import Derived.KernelRfl
import Derived.Test.YtflnfnemhgjglaaCBareissSolved3
set_option linter.unusedVariables false
set_option linter.unusedSimpArgs false
set_option linter.unusedSectionVars false
section
set_option linter.unusedVariables false
set_option linter.unusedSimpArgs false
set_option maxRecDepth 100000
namespace Go.S
open Go Go.AM Go.RowKit Go.K
theorem e_nat_Cmp {k : Nat} {l0 : List Int} {l1 : List Int} {r : Int} (H : nat_Cmp.f k l0 l1 = some r) : CP (CL F) 38 [(.lst (u l0)), (.lst (u l1))] = some (.int .i64 r) := by
  refine CP_X (F := F) (f := 38) rfl rfl ?_
  unfold nat_Cmp.f at H
  repeat' with_reducible (first | (refine none_some H; done) | (refine ite_e H ?_ ?_ <;> clear H <;> intro c H <;> (try simp only [int_beq, decide_eq_true_eq] at c) <;> first | (have : (_ : Bool) = _ := c; clear this) | (have : ¬ (_ : Bool) = _ := c; clear this) | (replace c := eq_false c; try simp only [List.length_replicate, List.length_set, List.length_nil, List.length_cons, Nat.zero_add] at c) | (replace c := eq_true c; try simp only [List.length_replicate, List.length_set, List.length_nil, List.length_cons, Nat.zero_add] at c)) | (refine bind_k (by assumption) H ?_; clear H; intro H) | (refine bind_e H ?_; clear H; intro _ q H; first | (replace q := Option.some.inj q; subst q) | skip))
  all_goals with_reducible (first | (replace H := Option.some.inj H; subst H) | skip)
  all_goals (try simp only [List.length_replicate, List.length_set] at H)
  all_goals (refine go2 ?_)
  all_goals (first | trivial | skip)
  all_goals first
   |
      (refine X_fuel3 (L := fun n (y : List Int × List Int × Int) => nat_Cmp.l0 n y.1 y.2.1 y.2.2) (S := fun y s => ∃ j4 j6 j12 j22 j25 j35 g, s = ⟨[(0, (.lst (u y.1))), (1, (.lst (u y.2.1))), (4, j4), (5, (.int .i64 y.2.2)), (6, j6), (12, j12), (22, j22), (25, j25), (35, j35)], g⟩) (fun _ => by simp only [nat_Cmp.l0]) _ ?_ _ (Nat.le_refl _) (_, _, _) _ H ⟨_, _, _, _, _, _, _, rfl⟩
       clear H
       rintro nl0 hnl0 ⟨x0, x1, x5⟩ s H ⟨j4, j6, j12, j22, j25, j35, g, rfl⟩ recl0
       simp only [nat_Cmp.l0] at H
       repeat' with_reducible (first | (refine none_some H; done) | (refine ite_e H ?_ ?_ <;> clear H <;> intro c H <;> (try simp only [int_beq, decide_eq_true_eq] at c) <;> first | (have : (_ : Bool) = _ := c; clear this) | (have : ¬ (_ : Bool) = _ := c; clear this) | (replace c := eq_false c; try simp only [List.length_replicate, List.length_set, List.length_nil, List.length_cons, Nat.zero_add] at c) | (replace c := eq_true c; try simp only [List.length_replicate, List.length_set, List.length_nil, List.length_cons, Nat.zero_add] at c)) | (refine bind_k (by assumption) H ?_; clear H; intro H) | (refine bind_e H ?_; clear H; intro _ q H; first | (replace q := Option.some.inj q; subst q) | skip))
       all_goals with_reducible (first | (replace H := Option.some.inj H; subst H) | skip)
       all_goals (try simp only [List.length_replicate, List.length_set] at H)
       all_goals (refine go2 ?_)
       all_goals (first | (trivial) | (exact recl0 _ (by omega) (_, _, _) _ H ⟨_, _, _, _, _, _, _, rfl⟩) | skip))
   | skip
theorem e_nat_trim {k : Nat} {l0 : List Int} {r : List Int} (H : nat_trim.f k l0 = some r) : CP (CL F) 60 [(.lst (u l0))] = some (.lst (u r)) := by
  refine CP_X (F := F) (f := 60) rfl rfl ?_
  unfold nat_trim.f at H
  repeat' with_reducible (first | (refine none_some H; done) | (refine ite_e H ?_ ?_ <;> clear H <;> intro c H <;> (try simp only [int_beq, decide_eq_true_eq] at c) <;> first | (have : (_ : Bool) = _ := c; clear this) | (have : ¬ (_ : Bool) = _ := c; clear this) | (replace c := eq_false c; try simp only [List.length_replicate, List.length_set, List.length_nil, List.length_cons, Nat.zero_add] at c) | (replace c := eq_true c; try simp only [List.length_replicate, List.length_set, List.length_nil, List.length_cons, Nat.zero_add] at c)) | (refine bind_k (by assumption) H ?_; clear H; intro H) | (refine bind_e H ?_; clear H; intro _ q H; first | (replace q := Option.some.inj q; subst q) | skip))
  all_goals with_reducible (first | (replace H := Option.some.inj H; subst H) | skip)
  all_goals (try simp only [List.length_replicate, List.length_set] at H)
  all_goals (refine go2 ?_)
  all_goals (first | trivial | skip)
  all_goals first
   |
      (refine X_fuel3 (L := fun n (y : List Int × Int) => nat_trim.l0 n y.1 y.2) (S := fun y s => ∃ j2 j15 g, s = ⟨[(0, (.lst (u y.1))), (2, j2), (3, (.int .i64 y.2)), (15, j15)], g⟩) (fun _ => by simp only [nat_trim.l0]) _ ?_ _ (Nat.le_refl _) (_, _) _ H ⟨_, _, _, rfl⟩
       clear H
       rintro nl0 hnl0 ⟨x0, x3⟩ s H ⟨j2, j15, g, rfl⟩ recl0
       simp only [nat_trim.l0] at H
       repeat' with_reducible (first | (refine none_some H; done) | (refine ite_e H ?_ ?_ <;> clear H <;> intro c H <;> (try simp only [int_beq, decide_eq_true_eq] at c) <;> first | (have : (_ : Bool) = _ := c; clear this) | (have : ¬ (_ : Bool) = _ := c; clear this) | (replace c := eq_false c; try simp only [List.length_replicate, List.length_set, List.length_nil, List.length_cons, Nat.zero_add] at c) | (replace c := eq_true c; try simp only [List.length_replicate, List.length_set, List.length_nil, List.length_cons, Nat.zero_add] at c)) | (refine bind_k (by assumption) H ?_; clear H; intro H) | (refine bind_e H ?_; clear H; intro _ q H; first | (replace q := Option.some.inj q; subst q) | skip))
       all_goals with_reducible (first | (replace H := Option.some.inj H; subst H) | skip)
       all_goals (try simp only [List.length_replicate, List.length_set] at H)
       all_goals (refine go2 ?_)
       all_goals (first | (trivial) | (exact recl0 _ (by omega) (_, _) _ H ⟨_, _, _, rfl⟩) | skip))
   | skip
theorem e_nat_Make {k : Nat} {l0 : List Int} {r : List Int × Int} (H : nat_Make.f k l0 = some r) : CP (CL F) 57 [(.lst (u l0))] = some (.tup [(.lst (u r.1)), (.int .i64 r.2)]) := by
  refine CP_X (F := F) (f := 57) rfl rfl ?_
  unfold nat_Make.f at H
  repeat' with_reducible (first | (refine none_some H; done) | (refine ite_e H ?_ ?_ <;> clear H <;> intro c H <;> (try simp only [int_beq, decide_eq_true_eq] at c) <;> first | (have : (_ : Bool) = _ := c; clear this) | (have : ¬ (_ : Bool) = _ := c; clear this) | (replace c := eq_false c; try simp only [List.length_replicate, List.length_set, List.length_nil, List.length_cons, Nat.zero_add] at c) | (replace c := eq_true c; try simp only [List.length_replicate, List.length_set, List.length_nil, List.length_cons, Nat.zero_add] at c)) | (refine bind_k (by assumption) H ?_; clear H; intro H) | (refine bind_e H ?_; clear H; intro _ q H; first | (have q' := e_nat_trim q; try simp only [u_nil, ui_nil, List.length_replicate, List.length_set, List.cons_append, List.nil_append] at q') | (replace q := Option.some.inj q; subst q) | skip))
  all_goals with_reducible (first | (replace H := Option.some.inj H; subst H) | skip)
  all_goals (try simp only [List.length_replicate, List.length_set] at H)
  all_goals (refine go2 ?_)
  all_goals (first | trivial | skip)
  all_goals first
   |
      (refine X_fuel3 (L := fun n (y : List Int × List Int × Int × Int) => nat_Make.l0 n y.1 y.2.1 y.2.2.1 y.2.2.2) (S := fun y s => ∃ j2 j3 m0 j6 j13 j17 v0 g, s = ⟨[(0, (.lst (u l0))), (2, j2), (3, j3), (4, .ref 0 v0 1 0 m0), (6, j6), (10, (.lst (u y.2.1))), (11, (.int .i64 y.2.2.1)), (12, (.int .i64 y.2.2.2)), (13, j13), (17, j17)], some ⟨v0, 1, u y.1⟩ :: g⟩ ∧ m0 = y.1.length) (fun _ => by simp only [nat_Make.l0]) _ ?_ _ (Nat.le_refl _) (_, _, _, _) _ H ⟨_, _, _, _, _, _, _, _, rfl, by simp⟩
       clear H
       rintro nl0 hnl0 ⟨x4, x10, x11, x12⟩ s H ⟨j2, j3, m0, j6, j13, j17, v0, g, rfl, rfl⟩ recl0
       simp only [nat_Make.l0] at H
       repeat' with_reducible (first | (refine none_some H; done) | (refine ite_e H ?_ ?_ <;> clear H <;> intro c H <;> (try simp only [int_beq, decide_eq_true_eq] at c) <;> first | (have : (_ : Bool) = _ := c; clear this) | (have : ¬ (_ : Bool) = _ := c; clear this) | (replace c := eq_false c; try simp only [List.length_replicate, List.length_set, List.length_nil, List.length_cons, Nat.zero_add] at c) | (replace c := eq_true c; try simp only [List.length_replicate, List.length_set, List.length_nil, List.length_cons, Nat.zero_add] at c)) | (refine bind_k (by assumption) H ?_; clear H; intro H) | (refine bind_e H ?_; clear H; intro _ q H; first | (have q' := e_nat_trim q; try simp only [u_nil, ui_nil, List.length_replicate, List.length_set, List.cons_append, List.nil_append] at q') | (replace q := Option.some.inj q; subst q) | skip))
       all_goals with_reducible (first | (replace H := Option.some.inj H; subst H) | skip)
       all_goals (try simp only [List.length_replicate, List.length_set] at H)
       all_goals (refine go2 ?_)
       all_goals (first | (trivial) | (exact recl0 _ (by omega) (_, _, _, _) _ H ⟨_, _, _, _, _, _, _, _, rfl, by simp⟩) | skip))
   | skip
theorem e_whole_Made {k : Nat} {a0 : Bool} {l1 : List Int} {r : Bool × List Int} (H : whole_Made.f k a0 l1 = some r) : CP (CL F) 34 [(.bool a0), (.lst (u l1))] = some (.agg [(.bool r.1), (.lst (u r.2))]) := by
  refine CP_X (F := F) (f := 34) rfl rfl ?_
  unfold whole_Made.f at H
  repeat' with_reducible (first | (refine none_some H; done) | (refine ite_e H ?_ ?_ <;> clear H <;> intro c H <;> (try simp only [int_beq, decide_eq_true_eq] at c) <;> first | (have : (_ : Bool) = _ := c; clear this) | (have : ¬ (_ : Bool) = _ := c; clear this) | (replace c := eq_false c; try simp only [List.length_replicate, List.length_set, List.length_nil, List.length_cons, Nat.zero_add] at c) | (replace c := eq_true c; try simp only [List.length_replicate, List.length_set, List.length_nil, List.length_cons, Nat.zero_add] at c)) | (refine bind_k (by assumption) H ?_; clear H; intro H) | (refine bind_e H ?_; clear H; intro _ q H; first | (have q' := e_nat_Make q; try simp only [u_nil, ui_nil, List.length_replicate, List.length_set, List.cons_append, List.nil_append] at q') | (replace q := Option.some.inj q; subst q) | skip))
  all_goals with_reducible (first | (replace H := Option.some.inj H; subst H) | skip)
  all_goals (try simp only [List.length_replicate, List.length_set] at H)
  all_goals (refine go2 ?_)
  all_goals (first | trivial | skip)
theorem e_limb_Add {a0 : Int} {a1 : Int} {a2 : Int} {r : Int × Int} (H : limb_Add.f a0 a1 a2 = some r) : CP (CL F) 58 [(.int .u64 a0), (.int .u64 a1), (.int .u64 a2)] = some (.tup [(.int .u64 r.1), (.int .u64 r.2)]) := by
  refine CP_X (F := F) (f := 58) rfl rfl ?_
  unfold limb_Add.f at H
  repeat' with_reducible (first | (refine none_some H; done) | (refine ite_e H ?_ ?_ <;> clear H <;> intro c H <;> (try simp only [int_beq, decide_eq_true_eq] at c) <;> first | (have : (_ : Bool) = _ := c; clear this) | (have : ¬ (_ : Bool) = _ := c; clear this) | (replace c := eq_false c; try simp only [List.length_replicate, List.length_set, List.length_nil, List.length_cons, Nat.zero_add] at c) | (replace c := eq_true c; try simp only [List.length_replicate, List.length_set, List.length_nil, List.length_cons, Nat.zero_add] at c)) | (refine bind_k (by assumption) H ?_; clear H; intro H) | (refine bind_e H ?_; clear H; intro _ q H; first | (replace q := Option.some.inj q; subst q) | skip))
  all_goals with_reducible (first | (replace H := Option.some.inj H; subst H) | skip)
  all_goals (try simp only [List.length_replicate, List.length_set] at H)
  all_goals (refine go2 ?_)
  all_goals (first | trivial | skip)
theorem e_nat_at {l0 : List Int} {a1 : Int} {r : Int} (H : nat_at.f l0 a1 = some r) : CP (CL F) 59 [(.lst (u l0)), (.int .i64 a1)] = some (.int .u64 r) := by
  refine CP_X (F := F) (f := 59) rfl rfl ?_
  unfold nat_at.f at H
  repeat' with_reducible (first | (refine none_some H; done) | (refine ite_e H ?_ ?_ <;> clear H <;> intro c H <;> (try simp only [int_beq, decide_eq_true_eq] at c) <;> first | (have : (_ : Bool) = _ := c; clear this) | (have : ¬ (_ : Bool) = _ := c; clear this) | (replace c := eq_false c; try simp only [List.length_replicate, List.length_set, List.length_nil, List.length_cons, Nat.zero_add] at c) | (replace c := eq_true c; try simp only [List.length_replicate, List.length_set, List.length_nil, List.length_cons, Nat.zero_add] at c)) | (refine bind_k (by assumption) H ?_; clear H; intro H) | (refine bind_e H ?_; clear H; intro _ q H; first | (replace q := Option.some.inj q; subst q) | skip))
  all_goals with_reducible (first | (replace H := Option.some.inj H; subst H) | skip)
  all_goals (try simp only [List.length_replicate, List.length_set] at H)
  all_goals (refine go2 ?_)
  all_goals (first | trivial | skip)
theorem e_nat_Add {k : Nat} {l0 : List Int} {l1 : List Int} {r : List Int} (H : nat_Add.f k l0 l1 = some r) : CP (CL F) 35 [(.lst (u l0)), (.lst (u l1))] = some (.lst (u r)) := by
  refine CP_X (F := F) (f := 35) rfl rfl ?_
  unfold nat_Add.f at H
  repeat' with_reducible (first | (refine none_some H; done) | (refine ite_e H ?_ ?_ <;> clear H <;> intro c H <;> (try simp only [int_beq, decide_eq_true_eq] at c) <;> first | (have : (_ : Bool) = _ := c; clear this) | (have : ¬ (_ : Bool) = _ := c; clear this) | (replace c := eq_false c; try simp only [List.length_replicate, List.length_set, List.length_nil, List.length_cons, Nat.zero_add] at c) | (replace c := eq_true c; try simp only [List.length_replicate, List.length_set, List.length_nil, List.length_cons, Nat.zero_add] at c)) | (refine bind_k (by assumption) H ?_; clear H; intro H) | (refine bind_e H ?_; clear H; intro _ q H; first | (have q' := e_limb_Add q; try simp only [u_nil, ui_nil, List.length_replicate, List.length_set, List.cons_append, List.nil_append] at q') | (have q' := e_nat_at q; try simp only [u_nil, ui_nil, List.length_replicate, List.length_set, List.cons_append, List.nil_append] at q') | (have q' := e_nat_trim q; try simp only [u_nil, ui_nil, List.length_replicate, List.length_set, List.cons_append, List.nil_append] at q') | (replace q := Option.some.inj q; subst q) | skip))
  all_goals with_reducible (first | (replace H := Option.some.inj H; subst H) | skip)
  all_goals (try simp only [List.length_replicate, List.length_set] at H)
  all_goals (refine go2 ?_)
  all_goals (first | trivial | skip)
  all_goals first
   |
      (refine X_fuel3 (L := fun n (y : List Int × List Int × Int × List Int × Int × Int × Int) => nat_Add.l0 n y.1 y.2.1 y.2.2.1 y.2.2.2.1 y.2.2.2.2.1 y.2.2.2.2.2.1 y.2.2.2.2.2.2) (S := fun y s => ∃ j4 m0 j8 j19 v0 g, s = ⟨[(0, (.lst (u y.1))), (1, (.lst (u y.2.1))), (4, j4), (5, (.int .i64 y.2.2.1)), (6, .ref 0 v0 1 0 m0), (7, (.int .u64 y.2.2.2.2.1)), (8, j8), (17, (.int .i64 y.2.2.2.2.2.1)), (18, (.int .i64 y.2.2.2.2.2.2)), (19, j19)], some ⟨v0, 1, u y.2.2.2.1⟩ :: g⟩ ∧ m0 = y.2.2.2.1.length) (fun _ => by simp only [nat_Add.l0]) _ ?_ _ (Nat.le_refl _) (_, _, _, _, _, _, _) _ H ⟨_, _, _, _, _, _, rfl, by simp⟩
       clear H
       rintro nl0 hnl0 ⟨x0, x1, x5, x6, x7, x17, x18⟩ s H ⟨j4, m0, j8, j19, v0, g, rfl, rfl⟩ recl0
       simp only [nat_Add.l0] at H
       repeat' with_reducible (first | (refine none_some H; done) | (refine ite_e H ?_ ?_ <;> clear H <;> intro c H <;> (try simp only [int_beq, decide_eq_true_eq] at c) <;> first | (have : (_ : Bool) = _ := c; clear this) | (have : ¬ (_ : Bool) = _ := c; clear this) | (replace c := eq_false c; try simp only [List.length_replicate, List.length_set, List.length_nil, List.length_cons, Nat.zero_add] at c) | (replace c := eq_true c; try simp only [List.length_replicate, List.length_set, List.length_nil, List.length_cons, Nat.zero_add] at c)) | (refine bind_k (by assumption) H ?_; clear H; intro H) | (refine bind_e H ?_; clear H; intro _ q H; first | (have q' := e_limb_Add q; try simp only [u_nil, ui_nil, List.length_replicate, List.length_set, List.cons_append, List.nil_append] at q') | (have q' := e_nat_at q; try simp only [u_nil, ui_nil, List.length_replicate, List.length_set, List.cons_append, List.nil_append] at q') | (have q' := e_nat_trim q; try simp only [u_nil, ui_nil, List.length_replicate, List.length_set, List.cons_append, List.nil_append] at q') | (replace q := Option.some.inj q; subst q) | skip))
       all_goals with_reducible (first | (replace H := Option.some.inj H; subst H) | skip)
       all_goals (try simp only [List.length_replicate, List.length_set] at H)
       all_goals (refine go2 ?_)
       all_goals (first | (trivial) | (exact recl0 _ (by omega) (_, _, _, _, _, _, _) _ H ⟨_, _, _, _, _, _, rfl, by simp⟩) | skip))
   | skip
theorem e_nat_Of {k : Nat} {a0 : Int} {r : List Int} (H : nat_Of.f k a0 = some r) : CP (CL F) 43 [(.int .u64 a0)] = some (.lst (u r)) := by
  refine CP_X (F := F) (f := 43) rfl rfl ?_
  unfold nat_Of.f at H
  repeat' with_reducible (first | (refine none_some H; done) | (refine ite_e H ?_ ?_ <;> clear H <;> intro c H <;> (try simp only [int_beq, decide_eq_true_eq] at c) <;> first | (have : (_ : Bool) = _ := c; clear this) | (have : ¬ (_ : Bool) = _ := c; clear this) | (replace c := eq_false c; try simp only [List.length_replicate, List.length_set, List.length_nil, List.length_cons, Nat.zero_add] at c) | (replace c := eq_true c; try simp only [List.length_replicate, List.length_set, List.length_nil, List.length_cons, Nat.zero_add] at c)) | (refine bind_k (by assumption) H ?_; clear H; intro H) | (refine bind_e H ?_; clear H; intro _ q H; first | (have q' := e_nat_trim q; try simp only [u_nil, ui_nil, List.length_replicate, List.length_set, List.cons_append, List.nil_append] at q') | (replace q := Option.some.inj q; subst q) | skip))
  all_goals with_reducible (first | (replace H := Option.some.inj H; subst H) | skip)
  all_goals (try simp only [List.length_replicate, List.length_set] at H)
  all_goals (refine go2 ?_)
  all_goals (first | trivial | skip)
theorem e_whole_Of {k : Nat} {a0 : Int} {r : Bool × List Int} (H : whole_Of.f k a0 = some r) : CP (CL F) 20 [(.int .i64 a0)] = some (.agg [(.bool r.1), (.lst (u r.2))]) := by
  refine CP_X (F := F) (f := 20) rfl rfl ?_
  unfold whole_Of.f at H
  repeat' with_reducible (first | (refine none_some H; done) | (refine ite_e H ?_ ?_ <;> clear H <;> intro c H <;> (try simp only [int_beq, decide_eq_true_eq] at c) <;> first | (have : (_ : Bool) = _ := c; clear this) | (have : ¬ (_ : Bool) = _ := c; clear this) | (replace c := eq_false c; try simp only [List.length_replicate, List.length_set, List.length_nil, List.length_cons, Nat.zero_add] at c) | (replace c := eq_true c; try simp only [List.length_replicate, List.length_set, List.length_nil, List.length_cons, Nat.zero_add] at c)) | (refine bind_k (by assumption) H ?_; clear H; intro H) | (refine bind_e H ?_; clear H; intro _ q H; first | (have q' := e_nat_Add q; try simp only [u_nil, ui_nil, List.length_replicate, List.length_set, List.cons_append, List.nil_append] at q') | (have q' := e_nat_Of q; try simp only [u_nil, ui_nil, List.length_replicate, List.length_set, List.cons_append, List.nil_append] at q') | (have q' := e_whole_Made q; try simp only [u_nil, ui_nil, List.length_replicate, List.length_set, List.cons_append, List.nil_append] at q') | (replace q := Option.some.inj q; subst q) | skip))
  all_goals with_reducible (first | (replace H := Option.some.inj H; subst H) | skip)
  all_goals (try simp only [List.length_replicate, List.length_set] at H)
  all_goals (refine go2 ?_)
  all_goals (first | trivial | skip)
theorem e_whole_Sign {a0_0 : Bool} {l0_1 : List Int} {r : Int} (H : whole_Sign.f a0_0 l0_1 = some r) : CP (CL F) 37 [(.agg [(.bool a0_0), (.lst (u l0_1))])] = some (.int .i64 r) := by
  refine CP_X (F := F) (f := 37) rfl rfl ?_
  unfold whole_Sign.f at H
  repeat' with_reducible (first | (refine none_some H; done) | (refine ite_e H ?_ ?_ <;> clear H <;> intro c H <;> (try simp only [int_beq, decide_eq_true_eq] at c) <;> first | (have : (_ : Bool) = _ := c; clear this) | (have : ¬ (_ : Bool) = _ := c; clear this) | (replace c := eq_false c; try simp only [List.length_replicate, List.length_set, List.length_nil, List.length_cons, Nat.zero_add] at c) | (replace c := eq_true c; try simp only [List.length_replicate, List.length_set, List.length_nil, List.length_cons, Nat.zero_add] at c)) | (refine bind_k (by assumption) H ?_; clear H; intro H) | (refine bind_e H ?_; clear H; intro _ q H; first | (replace q := Option.some.inj q; subst q) | skip))
  all_goals with_reducible (first | (replace H := Option.some.inj H; subst H) | skip)
  all_goals (try simp only [List.length_replicate, List.length_set] at H)
  all_goals (refine go2 ?_)
  all_goals (first | trivial | skip)
theorem e_triviumref02_Trim {k : Nat} {l0 : List Int} {r : List Int} (H : triviumref02_Trim.f k l0 = some r) : CP (CL F) 69 [(.lst (ui l0))] = some (.lst (ui r)) := by
  refine CP_X (F := F) (f := 69) rfl rfl ?_
  unfold triviumref02_Trim.f at H
  repeat' with_reducible (first | (refine none_some H; done) | (refine ite_e H ?_ ?_ <;> clear H <;> intro c H <;> (try simp only [int_beq, decide_eq_true_eq] at c) <;> first | (have : (_ : Bool) = _ := c; clear this) | (have : ¬ (_ : Bool) = _ := c; clear this) | (replace c := eq_false c; try simp only [List.length_replicate, List.length_set, List.length_nil, List.length_cons, Nat.zero_add] at c) | (replace c := eq_true c; try simp only [List.length_replicate, List.length_set, List.length_nil, List.length_cons, Nat.zero_add] at c)) | (refine bind_k (by assumption) H ?_; clear H; intro H) | (refine bind_e H ?_; clear H; intro _ q H; first | (replace q := Option.some.inj q; subst q) | skip))
  all_goals with_reducible (first | (replace H := Option.some.inj H; subst H) | skip)
  all_goals (try simp only [List.length_replicate, List.length_set] at H)
  all_goals (refine go2 ?_)
  all_goals (first | trivial | skip)
  all_goals first
   |
      (refine X_fuel3 (L := fun n (y : List Int × Int) => triviumref02_Trim.l0 n y.1 y.2) (S := fun y s => ∃ j2 j15 g, s = ⟨[(0, (.lst (ui y.1))), (2, j2), (3, (.int .i64 y.2)), (15, j15)], g⟩) (fun _ => by simp only [triviumref02_Trim.l0]) _ ?_ _ (Nat.le_refl _) (_, _) _ H ⟨_, _, _, rfl⟩
       clear H
       rintro nl0 hnl0 ⟨x0, x3⟩ s H ⟨j2, j15, g, rfl⟩ recl0
       simp only [triviumref02_Trim.l0] at H
       repeat' with_reducible (first | (refine none_some H; done) | (refine ite_e H ?_ ?_ <;> clear H <;> intro c H <;> (try simp only [int_beq, decide_eq_true_eq] at c) <;> first | (have : (_ : Bool) = _ := c; clear this) | (have : ¬ (_ : Bool) = _ := c; clear this) | (replace c := eq_false c; try simp only [List.length_replicate, List.length_set, List.length_nil, List.length_cons, Nat.zero_add] at c) | (replace c := eq_true c; try simp only [List.length_replicate, List.length_set, List.length_nil, List.length_cons, Nat.zero_add] at c)) | (refine bind_k (by assumption) H ?_; clear H; intro H) | (refine bind_e H ?_; clear H; intro _ q H; first | (replace q := Option.some.inj q; subst q) | skip))
       all_goals with_reducible (first | (replace H := Option.some.inj H; subst H) | skip)
       all_goals (try simp only [List.length_replicate, List.length_set] at H)
       all_goals (refine go2 ?_)
       all_goals (first | (trivial) | (exact recl0 _ (by omega) (_, _) _ H ⟨_, _, _, rfl⟩) | skip))
   | skip
theorem e_triviumref02_MulAdd {k : Nat} {l0 : List Int} {a1 : Int} {a2 : Int} {r : List Int} (H : triviumref02_MulAdd.f k l0 a1 a2 = some r) : CP (CL F) 67 [(.lst (ui l0)), (.int .i64 a1), (.int .i64 a2)] = some (.lst (ui r)) := by
  refine CP_X (F := F) (f := 67) rfl rfl ?_
  unfold triviumref02_MulAdd.f at H
  repeat' with_reducible (first | (refine none_some H; done) | (refine ite_e H ?_ ?_ <;> clear H <;> intro c H <;> (try simp only [int_beq, decide_eq_true_eq] at c) <;> first | (have : (_ : Bool) = _ := c; clear this) | (have : ¬ (_ : Bool) = _ := c; clear this) | (replace c := eq_false c; try simp only [List.length_replicate, List.length_set, List.length_nil, List.length_cons, Nat.zero_add] at c) | (replace c := eq_true c; try simp only [List.length_replicate, List.length_set, List.length_nil, List.length_cons, Nat.zero_add] at c)) | (refine bind_k (by assumption) H ?_; clear H; intro H) | (refine bind_e H ?_; clear H; intro _ q H; first | (have q' := e_triviumref02_Trim q; try simp only [u_nil, ui_nil, List.length_replicate, List.length_set, List.cons_append, List.nil_append] at q') | (replace q := Option.some.inj q; subst q) | skip))
  all_goals with_reducible (first | (replace H := Option.some.inj H; subst H) | skip)
  all_goals (try simp only [List.length_replicate, List.length_set] at H)
  all_goals (refine go2 ?_)
  all_goals (first | trivial | skip)
  all_goals first
   |
      (refine X_fuel3 (L := fun n (y : List Int × Int × Int × List Int × Int) => triviumref02_MulAdd.l0 n y.1 y.2.1 y.2.2.1 y.2.2.2.1 y.2.2.2.2) (S := fun y s => ∃ j6 m0 j13 j32 v0 g, s = ⟨[(0, (.lst (ui y.1))), (1, (.int .i64 y.2.1)), (2, (.int .i64 y.2.2.1)), (6, j6), (7, .ref 0 v0 1 0 m0), (8, (.int .i64 y.2.2.2.2)), (13, j13), (32, j32)], some ⟨v0, 1, ui y.2.2.2.1⟩ :: g⟩ ∧ m0 = y.2.2.2.1.length) (fun _ => by simp only [triviumref02_MulAdd.l0]) _ ?_ _ (Nat.le_refl _) (_, _, _, _, _) _ H ⟨_, _, _, _, _, _, rfl, by simp⟩
       clear H
       rintro nl0 hnl0 ⟨x0, x1, x2, x7, x8⟩ s H ⟨j6, m0, j13, j32, v0, g, rfl, rfl⟩ recl0
       simp only [triviumref02_MulAdd.l0] at H
       repeat' with_reducible (first | (refine none_some H; done) | (refine ite_e H ?_ ?_ <;> clear H <;> intro c H <;> (try simp only [int_beq, decide_eq_true_eq] at c) <;> first | (have : (_ : Bool) = _ := c; clear this) | (have : ¬ (_ : Bool) = _ := c; clear this) | (replace c := eq_false c; try simp only [List.length_replicate, List.length_set, List.length_nil, List.length_cons, Nat.zero_add] at c) | (replace c := eq_true c; try simp only [List.length_replicate, List.length_set, List.length_nil, List.length_cons, Nat.zero_add] at c)) | (refine bind_k (by assumption) H ?_; clear H; intro H) | (refine bind_e H ?_; clear H; intro _ q H; first | (have q' := e_triviumref02_Trim q; try simp only [u_nil, ui_nil, List.length_replicate, List.length_set, List.cons_append, List.nil_append] at q') | (replace q := Option.some.inj q; subst q) | skip))
       all_goals with_reducible (first | (replace H := Option.some.inj H; subst H) | skip)
       all_goals (try simp only [List.length_replicate, List.length_set] at H)
       all_goals (refine go2 ?_)
       all_goals (first | (trivial) | (exact recl0 _ (by omega) (_, _, _, _, _) _ H ⟨_, _, _, _, _, _, rfl, by simp⟩) | skip)
       all_goals first
        |
          (refine X_fuel3 (L := fun n (y : Int × List Int) => triviumref02_MulAdd.l1 n y.1 y.2) (S := fun y s => ∃ j0 j1 j6 m0 j8 j13 j32 v0 g, s = ⟨[(0, j0), (1, j1), (2, (.int .i64 y.1)), (6, j6), (7, .ref 0 v0 1 0 m0), (8, j8), (13, j13), (32, j32)], some ⟨v0, 1, ui y.2⟩ :: g⟩ ∧ m0 = y.2.length) (fun _ => by simp only [triviumref02_MulAdd.l1]) _ ?_ _ (Nat.le_refl _) (_, _) _ H ⟨_, _, _, _, _, _, _, _, _, rfl, by simp⟩
           clear H
           rintro nl1 hnl1 ⟨x2, x7⟩ s H ⟨j0, j1, j6, m0, j8, j13, j32, v0, g, rfl, rfl⟩ recl1
           simp only [triviumref02_MulAdd.l1] at H
           repeat' with_reducible (first | (refine none_some H; done) | (refine ite_e H ?_ ?_ <;> clear H <;> intro c H <;> (try simp only [int_beq, decide_eq_true_eq] at c) <;> first | (have : (_ : Bool) = _ := c; clear this) | (have : ¬ (_ : Bool) = _ := c; clear this) | (replace c := eq_false c; try simp only [List.length_replicate, List.length_set, List.length_nil, List.length_cons, Nat.zero_add] at c) | (replace c := eq_true c; try simp only [List.length_replicate, List.length_set, List.length_nil, List.length_cons, Nat.zero_add] at c)) | (refine bind_k (by assumption) H ?_; clear H; intro H) | (refine bind_e H ?_; clear H; intro _ q H; first | (have q' := e_triviumref02_Trim q; try simp only [u_nil, ui_nil, List.length_replicate, List.length_set, List.cons_append, List.nil_append] at q') | (replace q := Option.some.inj q; subst q) | skip))
           all_goals with_reducible (first | (replace H := Option.some.inj H; subst H) | skip)
           all_goals (try simp only [List.length_replicate, List.length_set] at H)
           all_goals (refine go2 ?_)
           all_goals (first | (trivial) | (exact recl1 _ (by omega) (_, _) _ H ⟨_, _, _, _, _, _, _, _, _, rfl, by simp⟩) | skip)))
   | skip
theorem e_triviumref02_Of {k : Nat} {l0 : List Int} {r : List Int} (H : triviumref02_Of.f k l0 = some r) : CP (CL F) 48 [(.lst (u l0))] = some (.lst (ui r)) := by
  refine CP_X (F := F) (f := 48) rfl rfl ?_
  unfold triviumref02_Of.f at H
  repeat' with_reducible (first | (refine none_some H; done) | (refine ite_e H ?_ ?_ <;> clear H <;> intro c H <;> (try simp only [int_beq, decide_eq_true_eq] at c) <;> first | (have : (_ : Bool) = _ := c; clear this) | (have : ¬ (_ : Bool) = _ := c; clear this) | (replace c := eq_false c; try simp only [List.length_replicate, List.length_set, List.length_nil, List.length_cons, Nat.zero_add] at c) | (replace c := eq_true c; try simp only [List.length_replicate, List.length_set, List.length_nil, List.length_cons, Nat.zero_add] at c)) | (refine bind_k (by assumption) H ?_; clear H; intro H) | (refine bind_e H ?_; clear H; intro _ q H; first | (have q' := e_triviumref02_MulAdd q; try simp only [u_nil, ui_nil, List.length_replicate, List.length_set, List.cons_append, List.nil_append] at q') | (replace q := Option.some.inj q; subst q) | skip))
  all_goals with_reducible (first | (replace H := Option.some.inj H; subst H) | skip)
  all_goals (try simp only [List.length_replicate, List.length_set] at H)
  all_goals (refine go2 ?_)
  all_goals (first | trivial | skip)
  all_goals first
   |
      (refine X_fuel3 (L := fun n (y : List Int × List Int × Int) => triviumref02_Of.l0 n y.1 y.2.1 y.2.2) (S := fun y s => ∃ j2 j10 g, s = ⟨[(0, (.lst (u y.1))), (2, j2), (3, (.lst (ui y.2.1))), (4, (.int .i64 y.2.2)), (10, j10)], g⟩) (fun _ => by simp only [triviumref02_Of.l0]) _ ?_ _ (Nat.le_refl _) (_, _, _) _ H ⟨_, _, _, rfl⟩
       clear H
       rintro nl0 hnl0 ⟨x0, x3, x4⟩ s H ⟨j2, j10, g, rfl⟩ recl0
       simp only [triviumref02_Of.l0] at H
       repeat' with_reducible (first | (refine none_some H; done) | (refine ite_e H ?_ ?_ <;> clear H <;> intro c H <;> (try simp only [int_beq, decide_eq_true_eq] at c) <;> first | (have : (_ : Bool) = _ := c; clear this) | (have : ¬ (_ : Bool) = _ := c; clear this) | (replace c := eq_false c; try simp only [List.length_replicate, List.length_set, List.length_nil, List.length_cons, Nat.zero_add] at c) | (replace c := eq_true c; try simp only [List.length_replicate, List.length_set, List.length_nil, List.length_cons, Nat.zero_add] at c)) | (refine bind_k (by assumption) H ?_; clear H; intro H) | (refine bind_e H ?_; clear H; intro _ q H; first | (have q' := e_triviumref02_MulAdd q; try simp only [u_nil, ui_nil, List.length_replicate, List.length_set, List.cons_append, List.nil_append] at q') | (replace q := Option.some.inj q; subst q) | skip))
       all_goals with_reducible (first | (replace H := Option.some.inj H; subst H) | skip)
       all_goals (try simp only [List.length_replicate, List.length_set] at H)
       all_goals (refine go2 ?_)
       all_goals (first | (trivial) | (exact recl0 _ (by omega) (_, _, _) _ H ⟨_, _, _, rfl⟩) | skip))
   | skip
theorem e_limb_Sub {a0 : Int} {a1 : Int} {a2 : Int} {r : Int × Int} (H : limb_Sub.f a0 a1 a2 = some r) : CP (CL F) 61 [(.int .u64 a0), (.int .u64 a1), (.int .u64 a2)] = some (.tup [(.int .u64 r.1), (.int .u64 r.2)]) := by
  refine CP_X (F := F) (f := 61) rfl rfl ?_
  unfold limb_Sub.f at H
  repeat' with_reducible (first | (refine none_some H; done) | (refine ite_e H ?_ ?_ <;> clear H <;> intro c H <;> (try simp only [int_beq, decide_eq_true_eq] at c) <;> first | (have : (_ : Bool) = _ := c; clear this) | (have : ¬ (_ : Bool) = _ := c; clear this) | (replace c := eq_false c; try simp only [List.length_replicate, List.length_set, List.length_nil, List.length_cons, Nat.zero_add] at c) | (replace c := eq_true c; try simp only [List.length_replicate, List.length_set, List.length_nil, List.length_cons, Nat.zero_add] at c)) | (refine bind_k (by assumption) H ?_; clear H; intro H) | (refine bind_e H ?_; clear H; intro _ q H; first | (replace q := Option.some.inj q; subst q) | skip))
  all_goals with_reducible (first | (replace H := Option.some.inj H; subst H) | skip)
  all_goals (try simp only [List.length_replicate, List.length_set] at H)
  all_goals (refine go2 ?_)
  all_goals (first | trivial | skip)
theorem e_nat_Sub {k : Nat} {l0 : List Int} {l1 : List Int} {r : List Int × Int} (H : nat_Sub.f k l0 l1 = some r) : CP (CL F) 36 [(.lst (u l0)), (.lst (u l1))] = some (.tup [(.lst (u r.1)), (.int .i64 r.2)]) := by
  refine CP_X (F := F) (f := 36) rfl rfl ?_
  unfold nat_Sub.f at H
  repeat' with_reducible (first | (refine none_some H; done) | (refine ite_e H ?_ ?_ <;> clear H <;> intro c H <;> (try simp only [int_beq, decide_eq_true_eq] at c) <;> first | (have : (_ : Bool) = _ := c; clear this) | (have : ¬ (_ : Bool) = _ := c; clear this) | (replace c := eq_false c; try simp only [List.length_replicate, List.length_set, List.length_nil, List.length_cons, Nat.zero_add] at c) | (replace c := eq_true c; try simp only [List.length_replicate, List.length_set, List.length_nil, List.length_cons, Nat.zero_add] at c)) | (refine bind_k (by assumption) H ?_; clear H; intro H) | (refine bind_e H ?_; clear H; intro _ q H; first | (have q' := e_limb_Sub q; try simp only [u_nil, ui_nil, List.length_replicate, List.length_set, List.cons_append, List.nil_append] at q') | (have q' := e_nat_Cmp q; try simp only [u_nil, ui_nil, List.length_replicate, List.length_set, List.cons_append, List.nil_append] at q') | (have q' := e_nat_at q; try simp only [u_nil, ui_nil, List.length_replicate, List.length_set, List.cons_append, List.nil_append] at q') | (have q' := e_nat_trim q; try simp only [u_nil, ui_nil, List.length_replicate, List.length_set, List.cons_append, List.nil_append] at q') | (replace q := Option.some.inj q; subst q) | skip))
  all_goals with_reducible (first | (replace H := Option.some.inj H; subst H) | skip)
  all_goals (try simp only [List.length_replicate, List.length_set] at H)
  all_goals (refine go2 ?_)
  all_goals (first | trivial | skip)
  all_goals first
   |
      (refine X_fuel3 (L := fun n (y : List Int × List Int × List Int × Int × Int × Int) => nat_Sub.l0 n y.1 y.2.1 y.2.2.1 y.2.2.2.1 y.2.2.2.2.1 y.2.2.2.2.2) (S := fun y s => ∃ j4 j5 m0 j8 j12 j19 v0 g, s = ⟨[(0, (.lst (u y.1))), (1, (.lst (u y.2.1))), (4, j4), (5, j5), (6, .ref 0 v0 1 0 m0), (7, (.int .u64 y.2.2.2.1)), (8, j8), (12, j12), (17, (.int .i64 y.2.2.2.2.1)), (18, (.int .i64 y.2.2.2.2.2)), (19, j19)], some ⟨v0, 1, u y.2.2.1⟩ :: g⟩ ∧ m0 = y.2.2.1.length) (fun _ => by simp only [nat_Sub.l0]) _ ?_ _ (Nat.le_refl _) (_, _, _, _, _, _) _ H ⟨_, _, _, _, _, _, _, _, rfl, by simp⟩
       clear H
       rintro nl0 hnl0 ⟨x0, x1, x6, x7, x17, x18⟩ s H ⟨j4, j5, m0, j8, j12, j19, v0, g, rfl, rfl⟩ recl0
       simp only [nat_Sub.l0] at H
       repeat' with_reducible (first | (refine none_some H; done) | (refine ite_e H ?_ ?_ <;> clear H <;> intro c H <;> (try simp only [int_beq, decide_eq_true_eq] at c) <;> first | (have : (_ : Bool) = _ := c; clear this) | (have : ¬ (_ : Bool) = _ := c; clear this) | (replace c := eq_false c; try simp only [List.length_replicate, List.length_set, List.length_nil, List.length_cons, Nat.zero_add] at c) | (replace c := eq_true c; try simp only [List.length_replicate, List.length_set, List.length_nil, List.length_cons, Nat.zero_add] at c)) | (refine bind_k (by assumption) H ?_; clear H; intro H) | (refine bind_e H ?_; clear H; intro _ q H; first | (have q' := e_limb_Sub q; try simp only [u_nil, ui_nil, List.length_replicate, List.length_set, List.cons_append, List.nil_append] at q') | (have q' := e_nat_Cmp q; try simp only [u_nil, ui_nil, List.length_replicate, List.length_set, List.cons_append, List.nil_append] at q') | (have q' := e_nat_at q; try simp only [u_nil, ui_nil, List.length_replicate, List.length_set, List.cons_append, List.nil_append] at q') | (have q' := e_nat_trim q; try simp only [u_nil, ui_nil, List.length_replicate, List.length_set, List.cons_append, List.nil_append] at q') | (replace q := Option.some.inj q; subst q) | skip))
       all_goals with_reducible (first | (replace H := Option.some.inj H; subst H) | skip)
       all_goals (try simp only [List.length_replicate, List.length_set] at H)
       all_goals (refine go2 ?_)
       all_goals (first | (trivial) | (exact recl0 _ (by omega) (_, _, _, _, _, _) _ H ⟨_, _, _, _, _, _, _, _, rfl, by simp⟩) | skip))
   | skip
theorem e_whole_Add {k : Nat} {a0_0 : Bool} {l0_1 : List Int} {a1_0 : Bool} {l1_1 : List Int} {r : Bool × List Int} (H : whole_Add.f k a0_0 l0_1 a1_0 l1_1 = some r) : CP (CL F) 16 [(.agg [(.bool a0_0), (.lst (u l0_1))]), (.agg [(.bool a1_0), (.lst (u l1_1))])] = some (.agg [(.bool r.1), (.lst (u r.2))]) := by
  refine CP_X (F := F) (f := 16) rfl rfl ?_
  unfold whole_Add.f at H
  repeat' with_reducible (first | (refine none_some H; done) | (refine ite_e H ?_ ?_ <;> clear H <;> intro c H <;> (try simp only [int_beq, decide_eq_true_eq] at c) <;> first | (have : (_ : Bool) = _ := c; clear this) | (have : ¬ (_ : Bool) = _ := c; clear this) | (replace c := eq_false c; try simp only [List.length_replicate, List.length_set, List.length_nil, List.length_cons, Nat.zero_add] at c) | (replace c := eq_true c; try simp only [List.length_replicate, List.length_set, List.length_nil, List.length_cons, Nat.zero_add] at c)) | (refine bind_k (by assumption) H ?_; clear H; intro H) | (refine bind_e H ?_; clear H; intro _ q H; first | (have q' := e_nat_Add q; try simp only [u_nil, ui_nil, List.length_replicate, List.length_set, List.cons_append, List.nil_append] at q') | (have q' := e_nat_Sub q; try simp only [u_nil, ui_nil, List.length_replicate, List.length_set, List.cons_append, List.nil_append] at q') | (have q' := e_whole_Made q; try simp only [u_nil, ui_nil, List.length_replicate, List.length_set, List.cons_append, List.nil_append] at q') | (replace q := Option.some.inj q; subst q) | skip))
  all_goals with_reducible (first | (replace H := Option.some.inj H; subst H) | skip)
  all_goals (try simp only [List.length_replicate, List.length_set] at H)
  all_goals (refine go2 ?_)
  all_goals (first | trivial | skip)
theorem e_limb_Mul {a0 : Int} {a1 : Int} {a2 : Int} {a3 : Int} {r : Int × Int} (H : limb_Mul.f a0 a1 a2 a3 = some r) : CP (CL F) 77 [(.int .u64 a0), (.int .u64 a1), (.int .u64 a2), (.int .u64 a3)] = some (.tup [(.int .u64 r.1), (.int .u64 r.2)]) := by
  refine CP_X (F := F) (f := 77) rfl rfl ?_
  unfold limb_Mul.f at H
  repeat' with_reducible (first | (refine none_some H; done) | (refine ite_e H ?_ ?_ <;> clear H <;> intro c H <;> (try simp only [int_beq, decide_eq_true_eq] at c) <;> first | (have : (_ : Bool) = _ := c; clear this) | (have : ¬ (_ : Bool) = _ := c; clear this) | (replace c := eq_false c; try simp only [List.length_replicate, List.length_set, List.length_nil, List.length_cons, Nat.zero_add] at c) | (replace c := eq_true c; try simp only [List.length_replicate, List.length_set, List.length_nil, List.length_cons, Nat.zero_add] at c)) | (refine bind_k (by assumption) H ?_; clear H; intro H) | (refine bind_e H ?_; clear H; intro _ q H; first | (replace q := Option.some.inj q; subst q) | skip))
  all_goals with_reducible (first | (replace H := Option.some.inj H; subst H) | skip)
  all_goals (try simp only [List.length_replicate, List.length_set] at H)
  all_goals (refine go2 ?_)
  all_goals (first | trivial | skip)
theorem e_mul_made {k : Nat} {l0 : List Int} {r : List Int} (H : mul_made.f k l0 = some r) : CP (CL F) 78 [(.lst (u l0))] = some (.lst (u r)) := by
  refine CP_X (F := F) (f := 78) rfl rfl ?_
  unfold mul_made.f at H
  repeat' with_reducible (first | (refine none_some H; done) | (refine ite_e H ?_ ?_ <;> clear H <;> intro c H <;> (try simp only [int_beq, decide_eq_true_eq] at c) <;> first | (have : (_ : Bool) = _ := c; clear this) | (have : ¬ (_ : Bool) = _ := c; clear this) | (replace c := eq_false c; try simp only [List.length_replicate, List.length_set, List.length_nil, List.length_cons, Nat.zero_add] at c) | (replace c := eq_true c; try simp only [List.length_replicate, List.length_set, List.length_nil, List.length_cons, Nat.zero_add] at c)) | (refine bind_k (by assumption) H ?_; clear H; intro H) | (refine bind_e H ?_; clear H; intro _ q H; first | (have q' := e_nat_Make q; try simp only [u_nil, ui_nil, List.length_replicate, List.length_set, List.cons_append, List.nil_append] at q') | (replace q := Option.some.inj q; subst q) | skip))
  all_goals with_reducible (first | (replace H := Option.some.inj H; subst H) | skip)
  all_goals (try simp only [List.length_replicate, List.length_set] at H)
  all_goals (refine go2 ?_)
  all_goals (first | trivial | skip)
theorem e_mul_Long {k : Nat} {l0 : List Int} {l1 : List Int} {r : List Int} (H : mul_Long.f k l0 l1 = some r) : CP (CL F) 72 [(.lst (u l0)), (.lst (u l1))] = some (.lst (u r)) := by
  refine CP_X (F := F) (f := 72) rfl rfl ?_
  unfold mul_Long.f at H
  repeat' with_reducible (first | (refine none_some H; done) | (refine ite_e H ?_ ?_ <;> clear H <;> intro c H <;> (try simp only [int_beq, decide_eq_true_eq] at c) <;> first | (have : (_ : Bool) = _ := c; clear this) | (have : ¬ (_ : Bool) = _ := c; clear this) | (replace c := eq_false c; try simp only [List.length_replicate, List.length_set, List.length_nil, List.length_cons, Nat.zero_add] at c) | (replace c := eq_true c; try simp only [List.length_replicate, List.length_set, List.length_nil, List.length_cons, Nat.zero_add] at c)) | (refine bind_k (by assumption) H ?_; clear H; intro H) | (refine bind_e H ?_; clear H; intro _ q H; first | (have q' := e_limb_Mul q; try simp only [u_nil, ui_nil, List.length_replicate, List.length_set, List.cons_append, List.nil_append] at q') | (have q' := e_mul_made q; try simp only [u_nil, ui_nil, List.length_replicate, List.length_set, List.cons_append, List.nil_append] at q') | (replace q := Option.some.inj q; subst q) | skip))
  all_goals with_reducible (first | (replace H := Option.some.inj H; subst H) | skip)
  all_goals (try simp only [List.length_replicate, List.length_set] at H)
  all_goals (refine go2 ?_)
  all_goals (first | trivial | skip)
  all_goals first
   |
      (refine X_fuel3 (L := fun n (y : List Int × List Int × List Int × Int × Int) => mul_Long.l0 n y.1 y.2.1 y.2.2.1 y.2.2.2.1 y.2.2.2.2) (S := fun y s => ∃ j4 m0 j6 j7 j8 j9 j10 j20 j24 j25 j26 j27 v0 g, s = ⟨[(0, (.lst (u l0))), (1, (.lst (u y.1))), (4, j4), (5, .ref 0 v0 1 0 m0), (6, j6), (7, j7), (8, j8), (9, j9), (10, j10), (17, (.lst (u y.2.2.1))), (18, (.int .i64 y.2.2.2.1)), (19, (.int .i64 y.2.2.2.2)), (20, j20), (24, j24), (25, j25), (26, j26), (27, j27)], some ⟨v0, 1, u y.2.1⟩ :: g⟩ ∧ m0 = y.2.1.length) (fun _ => by simp only [mul_Long.l0]) _ ?_ _ (Nat.le_refl _) (_, _, _, _, _) _ H ⟨_, _, _, _, _, _, _, _, _, _, _, _, _, _, rfl, by simp⟩
       clear H
       rintro nl0 hnl0 ⟨x1, x5, x17, x18, x19⟩ s H ⟨j4, m0, j6, j7, j8, j9, j10, j20, j24, j25, j26, j27, v0, g, rfl, rfl⟩ recl0
       simp only [mul_Long.l0] at H
       repeat' with_reducible (first | (refine none_some H; done) | (refine ite_e H ?_ ?_ <;> clear H <;> intro c H <;> (try simp only [int_beq, decide_eq_true_eq] at c) <;> first | (have : (_ : Bool) = _ := c; clear this) | (have : ¬ (_ : Bool) = _ := c; clear this) | (replace c := eq_false c; try simp only [List.length_replicate, List.length_set, List.length_nil, List.length_cons, Nat.zero_add] at c) | (replace c := eq_true c; try simp only [List.length_replicate, List.length_set, List.length_nil, List.length_cons, Nat.zero_add] at c)) | (refine bind_k (by assumption) H ?_; clear H; intro H) | (refine bind_e H ?_; clear H; intro _ q H; first | (have q' := e_limb_Mul q; try simp only [u_nil, ui_nil, List.length_replicate, List.length_set, List.cons_append, List.nil_append] at q') | (have q' := e_mul_made q; try simp only [u_nil, ui_nil, List.length_replicate, List.length_set, List.cons_append, List.nil_append] at q') | (replace q := Option.some.inj q; subst q) | skip))
       all_goals with_reducible (first | (replace H := Option.some.inj H; subst H) | skip)
       all_goals (try simp only [List.length_replicate, List.length_set] at H)
       all_goals (refine go2 ?_)
       all_goals (first | (trivial) | skip)
       all_goals first
        |
          (refine X_fuel3 (L := fun n (y : List Int × List Int × Int × Int × Int × List Int × Int × Int × List Int × Int × Int) => mul_Long.l1 n y.1 y.2.1 y.2.2.1 y.2.2.2.1 y.2.2.2.2.1 y.2.2.2.2.2.1 y.2.2.2.2.2.2.1 y.2.2.2.2.2.2.2.1 y.2.2.2.2.2.2.2.2.1 y.2.2.2.2.2.2.2.2.2.1 y.2.2.2.2.2.2.2.2.2.2) (S := fun y s => ∃ j4 m0 j9 j10 j20 j27 v0 g, s = ⟨[(0, (.lst (u l0))), (1, (.lst (u y.1))), (4, j4), (5, .ref 0 v0 1 0 m0), (6, (.int .i64 y.2.2.1)), (7, (.int .u64 y.2.2.2.1)), (8, (.int .u64 y.2.2.2.2.1)), (9, j9), (10, j10), (17, (.lst (u y.2.2.2.2.2.1))), (18, (.int .i64 y.2.2.2.2.2.2.1)), (19, (.int .i64 y.2.2.2.2.2.2.2.1)), (20, j20), (24, (.lst (u y.2.2.2.2.2.2.2.2.1))), (25, (.int .i64 y.2.2.2.2.2.2.2.2.2.1)), (26, (.int .i64 y.2.2.2.2.2.2.2.2.2.2)), (27, j27)], some ⟨v0, 1, u y.2.1⟩ :: g⟩ ∧ m0 = y.2.1.length) (fun _ => by simp only [mul_Long.l1]) _ ?_ _ (Nat.le_refl _) (_, _, _, _, _, _, _, _, _, _, _) _ H ⟨_, _, _, _, _, _, _, _, rfl, by simp⟩
           clear H
           rintro nl1 hnl1 ⟨x1, x5, x6, x7, x8, x17, x18, x19, x24, x25, x26⟩ s H ⟨j4, m0, j9, j10, j20, j27, v0, g, rfl, rfl⟩ recl1
           simp only [mul_Long.l1] at H
           repeat' with_reducible (first | (refine none_some H; done) | (refine ite_e H ?_ ?_ <;> clear H <;> intro c H <;> (try simp only [int_beq, decide_eq_true_eq] at c) <;> first | (have : (_ : Bool) = _ := c; clear this) | (have : ¬ (_ : Bool) = _ := c; clear this) | (replace c := eq_false c; try simp only [List.length_replicate, List.length_set, List.length_nil, List.length_cons, Nat.zero_add] at c) | (replace c := eq_true c; try simp only [List.length_replicate, List.length_set, List.length_nil, List.length_cons, Nat.zero_add] at c)) | (refine bind_k (by assumption) H ?_; clear H; intro H) | (refine bind_e H ?_; clear H; intro _ q H; first | (have q' := e_limb_Mul q; try simp only [u_nil, ui_nil, List.length_replicate, List.length_set, List.cons_append, List.nil_append] at q') | (have q' := e_mul_made q; try simp only [u_nil, ui_nil, List.length_replicate, List.length_set, List.cons_append, List.nil_append] at q') | (replace q := Option.some.inj q; subst q) | skip))
           all_goals with_reducible (first | (replace H := Option.some.inj H; subst H) | skip)
           all_goals (try simp only [List.length_replicate, List.length_set] at H)
           all_goals (refine go2 ?_)
           all_goals (first | (trivial) | (exact recl0 _ (by omega) (_, _, _, _, _) _ H ⟨_, _, _, _, _, _, _, _, _, _, _, _, _, _, rfl, by simp⟩) | (exact recl1 _ (by omega) (_, _, _, _, _, _, _, _, _, _, _) _ H ⟨_, _, _, _, _, _, _, _, rfl, by simp⟩) | skip)))
   | skip
theorem e_mul_cut {k : Nat} {l0 : List Int} {a1 : Int} {r : List Int × List Int} (H : mul_cut.f k l0 a1 = some r) : CP (CL F) 73 [(.lst (u l0)), (.int .i64 a1)] = some (.tup [(.lst (u r.1)), (.lst (u r.2))]) := by
  refine CP_X (F := F) (f := 73) rfl rfl ?_
  unfold mul_cut.f at H
  repeat' with_reducible (first | (refine none_some H; done) | (refine ite_e H ?_ ?_ <;> clear H <;> intro c H <;> (try simp only [int_beq, decide_eq_true_eq] at c) <;> first | (have : (_ : Bool) = _ := c; clear this) | (have : ¬ (_ : Bool) = _ := c; clear this) | (replace c := eq_false c; try simp only [List.length_replicate, List.length_set, List.length_nil, List.length_cons, Nat.zero_add] at c) | (replace c := eq_true c; try simp only [List.length_replicate, List.length_set, List.length_nil, List.length_cons, Nat.zero_add] at c)) | (refine bind_k (by assumption) H ?_; clear H; intro H) | (refine bind_e H ?_; clear H; intro _ q H; first | (have q' := e_mul_made q; try simp only [u_nil, ui_nil, List.length_replicate, List.length_set, List.cons_append, List.nil_append] at q') | (replace q := Option.some.inj q; subst q) | skip))
  all_goals with_reducible (first | (replace H := Option.some.inj H; subst H) | skip)
  all_goals (try simp only [List.length_replicate, List.length_set] at H)
  all_goals (refine go2 ?_)
  all_goals (first | trivial | skip)
theorem e_mul_up {k : Nat} {l0 : List Int} {a1 : Int} {r : List Int} (H : mul_up.f k l0 a1 = some r) : CP (CL F) 75 [(.lst (u l0)), (.int .i64 a1)] = some (.lst (u r)) := by
  refine CP_X (F := F) (f := 75) rfl rfl ?_
  unfold mul_up.f at H
  repeat' with_reducible (first | (refine none_some H; done) | (refine ite_e H ?_ ?_ <;> clear H <;> intro c H <;> (try simp only [int_beq, decide_eq_true_eq] at c) <;> first | (have : (_ : Bool) = _ := c; clear this) | (have : ¬ (_ : Bool) = _ := c; clear this) | (replace c := eq_false c; try simp only [List.length_replicate, List.length_set, List.length_nil, List.length_cons, Nat.zero_add] at c) | (replace c := eq_true c; try simp only [List.length_replicate, List.length_set, List.length_nil, List.length_cons, Nat.zero_add] at c)) | (refine bind_k (by assumption) H ?_; clear H; intro H) | (refine bind_e H ?_; clear H; intro _ q H; first | (have q' := e_mul_made q; try simp only [u_nil, ui_nil, List.length_replicate, List.length_set, List.cons_append, List.nil_append] at q') | (replace q := Option.some.inj q; subst q) | skip))
  all_goals with_reducible (first | (replace H := Option.some.inj H; subst H) | skip)
  all_goals (try simp only [List.length_replicate, List.length_set] at H)
  all_goals (refine go2 ?_)
  all_goals (first | trivial | skip)
theorem e_nat_May {k : Nat} {l0 : List Int} {r : Bool} (H : nat_May.f k l0 = some r) : CP (CL F) 80 [(.lst (u l0))] = some (.bool r) := by
  refine CP_X (F := F) (f := 80) rfl rfl ?_
  unfold nat_May.f at H
  repeat' with_reducible (first | (refine none_some H; done) | (refine ite_e H ?_ ?_ <;> clear H <;> intro c H <;> (try simp only [int_beq, decide_eq_true_eq] at c) <;> first | (have : (_ : Bool) = _ := c; clear this) | (have : ¬ (_ : Bool) = _ := c; clear this) | (replace c := eq_false c; try simp only [List.length_replicate, List.length_set, List.length_nil, List.length_cons, Nat.zero_add] at c) | (replace c := eq_true c; try simp only [List.length_replicate, List.length_set, List.length_nil, List.length_cons, Nat.zero_add] at c)) | (refine bind_k (by assumption) H ?_; clear H; intro H) | (refine bind_e H ?_; clear H; intro _ q H; first | (replace q := Option.some.inj q; subst q) | skip))
  all_goals with_reducible (first | (replace H := Option.some.inj H; subst H) | skip)
  all_goals (try simp only [List.length_replicate, List.length_set] at H)
  all_goals (refine go2 ?_)
  all_goals (first | trivial | skip)
  all_goals first
   |
      (refine X_fuel3 (L := fun n (y : List Int × List Int × Int × Int) => nat_May.l0 n y.1 y.2.1 y.2.2.1 y.2.2.2) (S := fun y s => ∃ j2 j4 j8 j12 g, s = ⟨[(0, (.lst (u y.1))), (2, j2), (4, j4), (5, (.lst (u y.2.1))), (6, (.int .i64 y.2.2.1)), (7, (.int .i64 y.2.2.2)), (8, j8), (12, j12)], g⟩) (fun _ => by simp only [nat_May.l0]) _ ?_ _ (Nat.le_refl _) (_, _, _, _) _ H ⟨_, _, _, _, _, rfl⟩
       clear H
       rintro nl0 hnl0 ⟨x0, x5, x6, x7⟩ s H ⟨j2, j4, j8, j12, g, rfl⟩ recl0
       simp only [nat_May.l0] at H
       repeat' with_reducible (first | (refine none_some H; done) | (refine ite_e H ?_ ?_ <;> clear H <;> intro c H <;> (try simp only [int_beq, decide_eq_true_eq] at c) <;> first | (have : (_ : Bool) = _ := c; clear this) | (have : ¬ (_ : Bool) = _ := c; clear this) | (replace c := eq_false c; try simp only [List.length_replicate, List.length_set, List.length_nil, List.length_cons, Nat.zero_add] at c) | (replace c := eq_true c; try simp only [List.length_replicate, List.length_set, List.length_nil, List.length_cons, Nat.zero_add] at c)) | (refine bind_k (by assumption) H ?_; clear H; intro H) | (refine bind_e H ?_; clear H; intro _ q H; first | (replace q := Option.some.inj q; subst q) | skip))
       all_goals with_reducible (first | (replace H := Option.some.inj H; subst H) | skip)
       all_goals (try simp only [List.length_replicate, List.length_set] at H)
       all_goals (refine go2 ?_)
       all_goals (first | (trivial) | (exact recl0 _ (by omega) (_, _, _, _) _ H ⟨_, _, _, _, _, rfl⟩) | skip))
   | skip
theorem e_limb_Div {a0 : Int} {a1 : Int} {a2 : Int} {r : Int × Int × Int} (H : limb_Div.f a0 a1 a2 = some r) : CP (CL F) 83 [(.int .u64 a0), (.int .u64 a1), (.int .u64 a2)] = some (.tup [(.int .u64 r.1), (.int .u64 r.2.1), (.int .i64 r.2.2)]) := by
  refine CP_X (F := F) (f := 83) rfl rfl ?_
  unfold limb_Div.f at H
  repeat' with_reducible (first | (refine none_some H; done) | (refine ite_e H ?_ ?_ <;> clear H <;> intro c H <;> (try simp only [int_beq, decide_eq_true_eq] at c) <;> first | (have : (_ : Bool) = _ := c; clear this) | (have : ¬ (_ : Bool) = _ := c; clear this) | (replace c := eq_false c; try simp only [List.length_replicate, List.length_set, List.length_nil, List.length_cons, Nat.zero_add] at c) | (replace c := eq_true c; try simp only [List.length_replicate, List.length_set, List.length_nil, List.length_cons, Nat.zero_add] at c)) | (refine bind_k (by assumption) H ?_; clear H; intro H) | (refine bind_e H ?_; clear H; intro _ q H; first | (replace q := Option.some.inj q; subst q) | skip))
  all_goals with_reducible (first | (replace H := Option.some.inj H; subst H) | skip)
  all_goals (try simp only [List.length_replicate, List.length_set] at H)
  all_goals (refine go2 ?_)
  all_goals (first | trivial | skip)
theorem e_divide_Small {k : Nat} {l0 : List Int} {a1 : Int} {r : List Int × Int × Int} (H : divide_Small.f k l0 a1 = some r) : CP (CL F) 81 [(.lst (u l0)), (.int .u64 a1)] = some (.tup [(.lst (u r.1)), (.int .u64 r.2.1), (.int .i64 r.2.2)]) := by
  refine CP_X (F := F) (f := 81) rfl rfl ?_
  unfold divide_Small.f at H
  repeat' with_reducible (first | (refine none_some H; done) | (refine ite_e H ?_ ?_ <;> clear H <;> intro c H <;> (try simp only [int_beq, decide_eq_true_eq] at c) <;> first | (have : (_ : Bool) = _ := c; clear this) | (have : ¬ (_ : Bool) = _ := c; clear this) | (replace c := eq_false c; try simp only [List.length_replicate, List.length_set, List.length_nil, List.length_cons, Nat.zero_add] at c) | (replace c := eq_true c; try simp only [List.length_replicate, List.length_set, List.length_nil, List.length_cons, Nat.zero_add] at c)) | (refine bind_k (by assumption) H ?_; clear H; intro H) | (refine bind_e H ?_; clear H; intro _ q H; first | (have q' := e_limb_Div q; try simp only [u_nil, ui_nil, List.length_replicate, List.length_set, List.cons_append, List.nil_append] at q') | (have q' := e_nat_Make q; try simp only [u_nil, ui_nil, List.length_replicate, List.length_set, List.cons_append, List.nil_append] at q') | (replace q := Option.some.inj q; subst q) | skip))
  all_goals with_reducible (first | (replace H := Option.some.inj H; subst H) | skip)
  all_goals (try simp only [List.length_replicate, List.length_set] at H)
  all_goals (refine go2 ?_)
  all_goals (first | trivial | skip)
  all_goals first
   |
      (refine X_fuel3 (L := fun n (y : List Int × Int × List Int × Int × Int × Int) => divide_Small.l0 n y.1 y.2.1 y.2.2.1 y.2.2.2.1 y.2.2.2.2.1 y.2.2.2.2.2) (S := fun y s => ∃ j4 j5 j6 m0 j9 j10 j11 j15 j22 v0 g, s = ⟨[(0, (.lst (u y.1))), (1, (.int .u64 y.2.1)), (4, j4), (5, j5), (6, j6), (7, .ref 0 v0 1 0 m0), (8, (.int .u64 y.2.2.2.1)), (9, j9), (10, j10), (11, j11), (15, j15), (20, (.int .i64 y.2.2.2.2.1)), (21, (.int .i64 y.2.2.2.2.2)), (22, j22)], some ⟨v0, 1, u y.2.2.1⟩ :: g⟩ ∧ m0 = y.2.2.1.length) (fun _ => by simp only [divide_Small.l0]) _ ?_ _ (Nat.le_refl _) (_, _, _, _, _, _) _ H ⟨_, _, _, _, _, _, _, _, _, _, _, rfl, by simp⟩
       clear H
       rintro nl0 hnl0 ⟨x0, x1, x7, x8, x20, x21⟩ s H ⟨j4, j5, j6, m0, j9, j10, j11, j15, j22, v0, g, rfl, rfl⟩ recl0
       simp only [divide_Small.l0] at H
       repeat' with_reducible (first | (refine none_some H; done) | (refine ite_e H ?_ ?_ <;> clear H <;> intro c H <;> (try simp only [int_beq, decide_eq_true_eq] at c) <;> first | (have : (_ : Bool) = _ := c; clear this) | (have : ¬ (_ : Bool) = _ := c; clear this) | (replace c := eq_false c; try simp only [List.length_replicate, List.length_set, List.length_nil, List.length_cons, Nat.zero_add] at c) | (replace c := eq_true c; try simp only [List.length_replicate, List.length_set, List.length_nil, List.length_cons, Nat.zero_add] at c)) | (refine bind_k (by assumption) H ?_; clear H; intro H) | (refine bind_e H ?_; clear H; intro _ q H; first | (have q' := e_limb_Div q; try simp only [u_nil, ui_nil, List.length_replicate, List.length_set, List.cons_append, List.nil_append] at q') | (have q' := e_nat_Make q; try simp only [u_nil, ui_nil, List.length_replicate, List.length_set, List.cons_append, List.nil_append] at q') | (replace q := Option.some.inj q; subst q) | skip))
       all_goals with_reducible (first | (replace H := Option.some.inj H; subst H) | skip)
       all_goals (try simp only [List.length_replicate, List.length_set] at H)
       all_goals (refine go2 ?_)
       all_goals (first | (trivial) | (exact recl0 _ (by omega) (_, _, _, _, _, _) _ H ⟨_, _, _, _, _, _, _, _, _, _, _, rfl, by simp⟩) | skip))
   | skip
theorem e_limb_Bits {k : Nat} {a0 : Int} {r : Int} (H : limb_Bits.f k a0 = some r) : CP (CL F) 84 [(.int .u64 a0)] = some (.int .i64 r) := by
  refine CP_X (F := F) (f := 84) rfl rfl ?_
  unfold limb_Bits.f at H
  repeat' with_reducible (first | (refine none_some H; done) | (refine ite_e H ?_ ?_ <;> clear H <;> intro c H <;> (try simp only [int_beq, decide_eq_true_eq] at c) <;> first | (have : (_ : Bool) = _ := c; clear this) | (have : ¬ (_ : Bool) = _ := c; clear this) | (replace c := eq_false c; try simp only [List.length_replicate, List.length_set, List.length_nil, List.length_cons, Nat.zero_add] at c) | (replace c := eq_true c; try simp only [List.length_replicate, List.length_set, List.length_nil, List.length_cons, Nat.zero_add] at c)) | (refine bind_k (by assumption) H ?_; clear H; intro H) | (refine bind_e H ?_; clear H; intro _ q H; first | (replace q := Option.some.inj q; subst q) | skip))
  all_goals with_reducible (first | (replace H := Option.some.inj H; subst H) | skip)
  all_goals (try simp only [List.length_replicate, List.length_set] at H)
  all_goals (refine go2 ?_)
  all_goals (first | trivial | skip)
  all_goals first
   |
      (refine X_fuel3 (L := fun n (y : Int × Int × Int) => limb_Bits.l0 n y.1 y.2.1 y.2.2) (S := fun y s => ∃ j2 j4 j6 j12 g, s = ⟨[(0, (.int .u64 y.1)), (2, j2), (3, (.int .i64 y.2.1)), (4, j4), (5, (.int .i64 y.2.2)), (6, j6), (12, j12)], g⟩) (fun _ => by simp only [limb_Bits.l0]) _ ?_ _ (Nat.le_refl _) (_, _, _) _ H ⟨_, _, _, _, _, rfl⟩
       clear H
       rintro nl0 hnl0 ⟨x0, x3, x5⟩ s H ⟨j2, j4, j6, j12, g, rfl⟩ recl0
       simp only [limb_Bits.l0] at H
       repeat' with_reducible (first | (refine none_some H; done) | (refine ite_e H ?_ ?_ <;> clear H <;> intro c H <;> (try simp only [int_beq, decide_eq_true_eq] at c) <;> first | (have : (_ : Bool) = _ := c; clear this) | (have : ¬ (_ : Bool) = _ := c; clear this) | (replace c := eq_false c; try simp only [List.length_replicate, List.length_set, List.length_nil, List.length_cons, Nat.zero_add] at c) | (replace c := eq_true c; try simp only [List.length_replicate, List.length_set, List.length_nil, List.length_cons, Nat.zero_add] at c)) | (refine bind_k (by assumption) H ?_; clear H; intro H) | (refine bind_e H ?_; clear H; intro _ q H; first | (replace q := Option.some.inj q; subst q) | skip))
       all_goals with_reducible (first | (replace H := Option.some.inj H; subst H) | skip)
       all_goals (try simp only [List.length_replicate, List.length_set] at H)
       all_goals (refine go2 ?_)
       all_goals (first | (trivial) | (exact recl0 _ (by omega) (_, _, _) _ H ⟨_, _, _, _, _, rfl⟩) | skip))
   | skip
theorem e_nat_shift {a0 : Int} {r : Int} (H : nat_shift.f a0 = some r) : CP (CL F) 90 [(.int .i64 a0)] = some (.int .i64 r) := by
  refine CP_X (F := F) (f := 90) rfl rfl ?_
  unfold nat_shift.f at H
  repeat' with_reducible (first | (refine none_some H; done) | (refine ite_e H ?_ ?_ <;> clear H <;> intro c H <;> (try simp only [int_beq, decide_eq_true_eq] at c) <;> first | (have : (_ : Bool) = _ := c; clear this) | (have : ¬ (_ : Bool) = _ := c; clear this) | (replace c := eq_false c; try simp only [List.length_replicate, List.length_set, List.length_nil, List.length_cons, Nat.zero_add] at c) | (replace c := eq_true c; try simp only [List.length_replicate, List.length_set, List.length_nil, List.length_cons, Nat.zero_add] at c)) | (refine bind_k (by assumption) H ?_; clear H; intro H) | (refine bind_e H ?_; clear H; intro _ q H; first | (replace q := Option.some.inj q; subst q) | skip))
  all_goals with_reducible (first | (replace H := Option.some.inj H; subst H) | skip)
  all_goals (try simp only [List.length_replicate, List.length_set] at H)
  all_goals (refine go2 ?_)
  all_goals (first | trivial | skip)
theorem nat_Shl_j0_e {n : Nat} {x0 : List Int} {x1 : Int} {x6 : Int} {x19 : Bool} {r} {p : Prop} (h : nat_Shl.j0 n x0 x1 x6 x19 = some r) (h1 : ∀ m, m < n → nat_Shl.j0 (m + 1) x0 x1 x6 x19 = some r → p) : p := by
  cases n with
  | zero => simp [nat_Shl.j0] at h
  | succ m => exact h1 m (by omega) h
theorem e_nat_Shl {k : Nat} {l0 : List Int} {a1 : Int} {r : List Int × Int} (H : nat_Shl.f k l0 a1 = some r) : CP (CL F) 85 [(.lst (u l0)), (.int .i64 a1)] = some (.tup [(.lst (u r.1)), (.int .i64 r.2)]) := by
  refine CP_X (F := F) (f := 85) rfl rfl ?_
  unfold nat_Shl.f at H
  repeat' with_reducible (first | (refine none_some H; done) | (refine ite_e H ?_ ?_ <;> clear H <;> intro c H <;> (try simp only [int_beq, decide_eq_true_eq] at c) <;> first | (have : (_ : Bool) = _ := c; clear this) | (have : ¬ (_ : Bool) = _ := c; clear this) | (replace c := eq_false c; try simp only [List.length_replicate, List.length_set, List.length_nil, List.length_cons, Nat.zero_add] at c) | (replace c := eq_true c; try simp only [List.length_replicate, List.length_set, List.length_nil, List.length_cons, Nat.zero_add] at c)) | (refine bind_k (by assumption) H ?_; clear H; intro H) | (refine bind_e H ?_; clear H; intro _ q H; first | (have q' := e_nat_shift q; try simp only [u_nil, ui_nil, List.length_replicate, List.length_set, List.cons_append, List.nil_append] at q') | (have q' := e_nat_trim q; try simp only [u_nil, ui_nil, List.length_replicate, List.length_set, List.cons_append, List.nil_append] at q') | (replace q := Option.some.inj q; subst q) | skip) | (refine nat_Shl_j0_e H ?_; clear H; intro _ _ H; simp only [nat_Shl.j0] at H))
  all_goals with_reducible (first | (replace H := Option.some.inj H; subst H) | skip)
  all_goals (try simp only [List.length_replicate, List.length_set] at H)
  all_goals (refine go2 ?_)
  all_goals (first | trivial | skip)
  all_goals first
   |
      (refine X_fuel3 (L := fun n (y : Int × List Int × List Int × Int × Int) => nat_Shl.l0 n y.1 y.2.1 y.2.2.1 y.2.2.2.1 y.2.2.2.2) (S := fun y s => ∃ j4 j5 j6 m0 j8 j9 j10 j19 j31 v0 g, s = ⟨[(0, (.lst (u l0))), (1, (.int .i64 y.1)), (4, j4), (5, j5), (6, j6), (7, .ref 0 v0 1 0 m0), (8, j8), (9, j9), (10, j10), (19, j19), (28, (.lst (u y.2.2.1))), (29, (.int .i64 y.2.2.2.1)), (30, (.int .i64 y.2.2.2.2)), (31, j31)], some ⟨v0, 1, u y.2.1⟩ :: g⟩ ∧ m0 = y.2.1.length) (fun _ => by simp only [nat_Shl.l0]) _ ?_ _ (Nat.le_refl _) (_, _, _, _, _) _ H ⟨_, _, _, _, _, _, _, _, _, _, _, rfl, by simp⟩
       clear H
       rintro nl0 hnl0 ⟨x1, x7, x28, x29, x30⟩ s H ⟨j4, j5, j6, m0, j8, j9, j10, j19, j31, v0, g, rfl, rfl⟩ recl0
       simp only [nat_Shl.l0] at H
       repeat' with_reducible (first | (refine none_some H; done) | (refine ite_e H ?_ ?_ <;> clear H <;> intro c H <;> (try simp only [int_beq, decide_eq_true_eq] at c) <;> first | (have : (_ : Bool) = _ := c; clear this) | (have : ¬ (_ : Bool) = _ := c; clear this) | (replace c := eq_false c; try simp only [List.length_replicate, List.length_set, List.length_nil, List.length_cons, Nat.zero_add] at c) | (replace c := eq_true c; try simp only [List.length_replicate, List.length_set, List.length_nil, List.length_cons, Nat.zero_add] at c)) | (refine bind_k (by assumption) H ?_; clear H; intro H) | (refine bind_e H ?_; clear H; intro _ q H; first | (have q' := e_nat_shift q; try simp only [u_nil, ui_nil, List.length_replicate, List.length_set, List.cons_append, List.nil_append] at q') | (have q' := e_nat_trim q; try simp only [u_nil, ui_nil, List.length_replicate, List.length_set, List.cons_append, List.nil_append] at q') | (replace q := Option.some.inj q; subst q) | skip) | (refine nat_Shl_j0_e H ?_; clear H; intro _ _ H; simp only [nat_Shl.j0] at H))
       all_goals with_reducible (first | (replace H := Option.some.inj H; subst H) | skip)
       all_goals (try simp only [List.length_replicate, List.length_set] at H)
       all_goals (refine go2 ?_)
       all_goals (first | (trivial) | (exact recl0 _ (by omega) (_, _, _, _, _) _ H ⟨_, _, _, _, _, _, _, _, _, _, _, rfl, by simp⟩) | skip))
   | skip
theorem e_divide_at {l0 : List Int} {a1 : Int} {r : Int} (H : divide_at.f l0 a1 = some r) : CP (CL F) 91 [(.lst (u l0)), (.int .i64 a1)] = some (.int .u64 r) := by
  refine CP_X (F := F) (f := 91) rfl rfl ?_
  unfold divide_at.f at H
  repeat' with_reducible (first | (refine none_some H; done) | (refine ite_e H ?_ ?_ <;> clear H <;> intro c H <;> (try simp only [int_beq, decide_eq_true_eq] at c) <;> first | (have : (_ : Bool) = _ := c; clear this) | (have : ¬ (_ : Bool) = _ := c; clear this) | (replace c := eq_false c; try simp only [List.length_replicate, List.length_set, List.length_nil, List.length_cons, Nat.zero_add] at c) | (replace c := eq_true c; try simp only [List.length_replicate, List.length_set, List.length_nil, List.length_cons, Nat.zero_add] at c)) | (refine bind_k (by assumption) H ?_; clear H; intro H) | (refine bind_e H ?_; clear H; intro _ q H; first | (replace q := Option.some.inj q; subst q) | skip))
  all_goals with_reducible (first | (replace H := Option.some.inj H; subst H) | skip)
  all_goals (try simp only [List.length_replicate, List.length_set] at H)
  all_goals (refine go2 ?_)
  all_goals (first | trivial | skip)
theorem nat_Shr_j0_e {n : Nat} {x0 : List Int} {x1 : Int} {x6 : Int} {x20 : Bool} {r} {p : Prop} (h : nat_Shr.j0 n x0 x1 x6 x20 = some r) (h1 : ∀ m, m < n → nat_Shr.j0 (m + 1) x0 x1 x6 x20 = some r → p) : p := by
  cases n with
  | zero => simp [nat_Shr.j0] at h
  | succ m => exact h1 m (by omega) h
theorem e_nat_Shr {k : Nat} {l0 : List Int} {a1 : Int} {r : List Int × Int} (H : nat_Shr.f k l0 a1 = some r) : CP (CL F) 89 [(.lst (u l0)), (.int .i64 a1)] = some (.tup [(.lst (u r.1)), (.int .i64 r.2)]) := by
  refine CP_X (F := F) (f := 89) rfl rfl ?_
  unfold nat_Shr.f at H
  repeat' with_reducible (first | (refine none_some H; done) | (refine ite_e H ?_ ?_ <;> clear H <;> intro c H <;> (try simp only [int_beq, decide_eq_true_eq] at c) <;> first | (have : (_ : Bool) = _ := c; clear this) | (have : ¬ (_ : Bool) = _ := c; clear this) | (replace c := eq_false c; try simp only [List.length_replicate, List.length_set, List.length_nil, List.length_cons, Nat.zero_add] at c) | (replace c := eq_true c; try simp only [List.length_replicate, List.length_set, List.length_nil, List.length_cons, Nat.zero_add] at c)) | (refine bind_k (by assumption) H ?_; clear H; intro H) | (refine bind_e H ?_; clear H; intro _ q H; first | (have q' := e_nat_at q; try simp only [u_nil, ui_nil, List.length_replicate, List.length_set, List.cons_append, List.nil_append] at q') | (have q' := e_nat_shift q; try simp only [u_nil, ui_nil, List.length_replicate, List.length_set, List.cons_append, List.nil_append] at q') | (have q' := e_nat_trim q; try simp only [u_nil, ui_nil, List.length_replicate, List.length_set, List.cons_append, List.nil_append] at q') | (replace q := Option.some.inj q; subst q) | skip) | (refine nat_Shr_j0_e H ?_; clear H; intro _ _ H; simp only [nat_Shr.j0] at H))
  all_goals with_reducible (first | (replace H := Option.some.inj H; subst H) | skip)
  all_goals (try simp only [List.length_replicate, List.length_set] at H)
  all_goals (refine go2 ?_)
  all_goals (first | trivial | skip)
  all_goals first
   |
      (refine X_fuel3 (L := fun n (y : List Int × Int × List Int × Int × Int) => nat_Shr.l0 n y.1 y.2.1 y.2.2.1 y.2.2.2.1 y.2.2.2.2) (S := fun y s => ∃ j4 j5 j6 m0 j8 j9 j20 j31 v0 g, s = ⟨[(0, (.lst (u y.1))), (1, (.int .i64 y.2.1)), (4, j4), (5, j5), (6, j6), (7, .ref 0 v0 1 0 m0), (8, j8), (9, j9), (20, j20), (29, (.int .i64 y.2.2.2.1)), (30, (.int .i64 y.2.2.2.2)), (31, j31)], some ⟨v0, 1, u y.2.2.1⟩ :: g⟩ ∧ m0 = y.2.2.1.length) (fun _ => by simp only [nat_Shr.l0]) _ ?_ _ (Nat.le_refl _) (_, _, _, _, _) _ H ⟨_, _, _, _, _, _, _, _, _, _, rfl, by simp⟩
       clear H
       rintro nl0 hnl0 ⟨x0, x1, x7, x29, x30⟩ s H ⟨j4, j5, j6, m0, j8, j9, j20, j31, v0, g, rfl, rfl⟩ recl0
       simp only [nat_Shr.l0] at H
       repeat' with_reducible (first | (refine none_some H; done) | (refine ite_e H ?_ ?_ <;> clear H <;> intro c H <;> (try simp only [int_beq, decide_eq_true_eq] at c) <;> first | (have : (_ : Bool) = _ := c; clear this) | (have : ¬ (_ : Bool) = _ := c; clear this) | (replace c := eq_false c; try simp only [List.length_replicate, List.length_set, List.length_nil, List.length_cons, Nat.zero_add] at c) | (replace c := eq_true c; try simp only [List.length_replicate, List.length_set, List.length_nil, List.length_cons, Nat.zero_add] at c)) | (refine bind_k (by assumption) H ?_; clear H; intro H) | (refine bind_e H ?_; clear H; intro _ q H; first | (have q' := e_nat_at q; try simp only [u_nil, ui_nil, List.length_replicate, List.length_set, List.cons_append, List.nil_append] at q') | (have q' := e_nat_shift q; try simp only [u_nil, ui_nil, List.length_replicate, List.length_set, List.cons_append, List.nil_append] at q') | (have q' := e_nat_trim q; try simp only [u_nil, ui_nil, List.length_replicate, List.length_set, List.cons_append, List.nil_append] at q') | (replace q := Option.some.inj q; subst q) | skip) | (refine nat_Shr_j0_e H ?_; clear H; intro _ _ H; simp only [nat_Shr.j0] at H))
       all_goals with_reducible (first | (replace H := Option.some.inj H; subst H) | skip)
       all_goals (try simp only [List.length_replicate, List.length_set] at H)
       all_goals (refine go2 ?_)
       all_goals (first | (trivial) | (exact recl0 _ (by omega) (_, _, _, _, _) _ H ⟨_, _, _, _, _, _, _, _, _, _, rfl, by simp⟩) | skip))
   | skip
theorem e_whole_Neg {k : Nat} {a0_0 : Bool} {l0_1 : List Int} {r : Bool × List Int} (H : whole_Neg.f k a0_0 l0_1 = some r) : CP (CL F) 18 [(.agg [(.bool a0_0), (.lst (u l0_1))])] = some (.agg [(.bool r.1), (.lst (u r.2))]) := by
  refine CP_X (F := F) (f := 18) rfl rfl ?_
  unfold whole_Neg.f at H
  repeat' with_reducible (first | (refine none_some H; done) | (refine ite_e H ?_ ?_ <;> clear H <;> intro c H <;> (try simp only [int_beq, decide_eq_true_eq] at c) <;> first | (have : (_ : Bool) = _ := c; clear this) | (have : ¬ (_ : Bool) = _ := c; clear this) | (replace c := eq_false c; try simp only [List.length_replicate, List.length_set, List.length_nil, List.length_cons, Nat.zero_add] at c) | (replace c := eq_true c; try simp only [List.length_replicate, List.length_set, List.length_nil, List.length_cons, Nat.zero_add] at c)) | (refine bind_k (by assumption) H ?_; clear H; intro H) | (refine bind_e H ?_; clear H; intro _ q H; first | (have q' := e_whole_Made q; try simp only [u_nil, ui_nil, List.length_replicate, List.length_set, List.cons_append, List.nil_append] at q') | (replace q := Option.some.inj q; subst q) | skip))
  all_goals with_reducible (first | (replace H := Option.some.inj H; subst H) | skip)
  all_goals (try simp only [List.length_replicate, List.length_set] at H)
  all_goals (refine go2 ?_)
  all_goals (first | trivial | skip)
end Go.S

end
section
set_option linter.unusedVariables false
set_option linter.unusedSimpArgs false
set_option maxRecDepth 100000
namespace Go.S
open Go Go.AM Go.RowKit Go.K
theorem divide_guess_j1_e {n : Nat} {x0 : List Int} {x1 : Int} {x2 : List Int} {x7 : Int} {x9 : Int} {x10 : Int} {x63 : Bool} {r} {p : Prop} (h : divide_guess.j1 n x0 x1 x2 x7 x9 x10 x63 = some r) (h1 : ∀ m, m < n → divide_guess.j1 (m + 1) x0 x1 x2 x7 x9 x10 x63 = some r → p) : p := by
  cases n with
  | zero => simp [divide_guess.j1] at h
  | succ m => exact h1 m (by omega) h
theorem r_divide_guess {k : Nat} {l0 : List Int} {a1 : Int} {l2 : List Int} {r : Int} (H : divide_guess.f k l0 a1 l2 = some r) {h : Heap} {i v m : Nat} (hb : h[i]? = some (some ⟨v, 1, u l0⟩)) (hm : m = l0.length) :
    CL F 86 [.ref i v 1 0 m, .int .i64 a1, .lst (u l2)] h = some (.int .u64 r, h) := by
  subst hm
  refine CL_X (F := F) (f := 86) rfl rfl ?_
  unfold divide_guess.f at H
  repeat' with_reducible (first | (refine none_some H; done) | (refine ite_e H ?_ ?_ <;> clear H <;> intro c H <;> (try simp only [int_beq, decide_eq_true_eq] at c) <;> first | (have : (_ : Bool) = _ := c; clear this) | (have : ¬ (_ : Bool) = _ := c; clear this) | (replace c := eq_false c; try simp only [List.length_replicate, List.length_set, List.length_nil, List.length_cons, Nat.zero_add] at c) | (replace c := eq_true c; try simp only [List.length_replicate, List.length_set, List.length_nil, List.length_cons, Nat.zero_add] at c)) | (refine bind_k (by assumption) H ?_; clear H; intro H) | (refine bind_e H ?_; clear H; intro _ q H; first | (replace q := Option.some.inj q; subst q) | skip))
  all_goals with_reducible (first | (replace H := Option.some.inj H; subst H) | skip)
  all_goals (try simp only [List.length_replicate, List.length_set] at H)
  all_goals (refine go2 ?_)
  refine X_fuel3 (L := fun n (y : Int × Int × Int) => divide_guess.l0 n l0 a1 l2 y.1 y.2.1 y.2.2) (S := fun y s => ∃ j6 j8 j63 j74, s = ⟨[(0, .ref i v 1 0 l0.length), (1, (.int .i64 a1)), (2, (.lst (u l2))), (6, j6), (7, (.int .i64 y.1)), (8, j8), (9, (.int .u64 y.2.1)), (10, (.int .u64 y.2.2)), (63, j63), (74, j74)], h⟩) (fun _ => by simp only [divide_guess.l0]) _ ?_ _ (Nat.le_refl _) (_, _, _) _ H ⟨_, _, _, _, rfl⟩
  clear H
  rintro nl0 hnl0 ⟨x7, x9, x10⟩ s H ⟨j6, j8, j63, j74, rfl⟩ recl0
  simp only [divide_guess.l0] at H
  repeat' with_reducible (first | (refine none_some H; done) | (refine ite_e H ?_ ?_ <;> clear H <;> intro c H <;> (try simp only [int_beq, decide_eq_true_eq] at c) <;> first | (have : (_ : Bool) = _ := c; clear this) | (have : ¬ (_ : Bool) = _ := c; clear this) | (replace c := eq_false c; try simp only [List.length_replicate, List.length_set, List.length_nil, List.length_cons, Nat.zero_add] at c) | (replace c := eq_true c; try simp only [List.length_replicate, List.length_set, List.length_nil, List.length_cons, Nat.zero_add] at c)) | (refine bind_k (by assumption) H ?_; clear H; intro H) | (refine bind_e H ?_; clear H; intro _ q H; first | (replace q := Option.some.inj q; subst q) | skip) | (refine divide_guess_j1_e H ?_; clear H; intro _ _ H; simp only [divide_guess.j1] at H))
  all_goals with_reducible (first | (replace H := Option.some.inj H; subst H) | skip)
  all_goals (try simp only [List.length_replicate, List.length_set] at H)
  all_goals (refine go2 ?_)
  all_goals (first | (trivial) | (exact recl0 _ (by omega) (_, _, _) _ H ⟨_, _, _, _, rfl⟩))
theorem r_divide_take {k : Nat} {l0 : List Int} {a1 : Int} {l2 : List Int} {a3 : Int} {r : Bool × List Int} (H : divide_take.f k l0 a1 l2 a3 = some r) {h : Heap} {i v m : Nat} (hb : h[i]? = some (some ⟨v, 1, u l0⟩)) (hm : m = l0.length) :
    CL F 87 [.ref i v 1 0 m, .int .i64 a1, .lst (u l2), .int .u64 a3] h = some (.bool r.1, h.set i (some ⟨v, 1, u r.2⟩)) := by
  subst hm
  have hi : i < h.length := by rcases Nat.lt_or_ge i h.length with hi | hi; exact hi; rw [List.getElem?_eq_none hi] at hb; cases hb
  have hg : ∀ x : Option Blk, (h.set i x)[i]? = some x := fun x => by rw [List.getElem?_set_self hi]
  have hs : ∀ x y : Option Blk, (h.set i x).set i y = h.set i y := fun x y => List.set_set x
  have h0 : h = h.set i (some ⟨v, 1, u l0⟩) := by rw [List.getElem?_eq_getElem hi] at hb; rw [← Option.some.inj hb, List.set_getElem_self]
  rw [show CL F 87 [.ref i v 1 0 l0.length, .int .i64 a1, .lst (u l2), .int .u64 a3] h = CL F 87 [.ref i v 1 0 l0.length, .int .i64 a1, .lst (u l2), .int .u64 a3] (h.set i (some ⟨v, 1, u l0⟩)) by rw [← h0]]
  clear h0 hb
  refine CL_X (F := F) (f := 87) rfl rfl ?_
  unfold divide_take.f at H
  repeat' with_reducible (first | (refine none_some H; done) | (refine ite_e H ?_ ?_ <;> clear H <;> intro c H <;> (try simp only [int_beq, decide_eq_true_eq] at c) <;> first | (have : (_ : Bool) = _ := c; clear this) | (have : ¬ (_ : Bool) = _ := c; clear this) | (replace c := eq_false c; try simp only [List.length_replicate, List.length_set, List.length_nil, List.length_cons, Nat.zero_add] at c) | (replace c := eq_true c; try simp only [List.length_replicate, List.length_set, List.length_nil, List.length_cons, Nat.zero_add] at c)) | (refine bind_k (by assumption) H ?_; clear H; intro H) | (refine bind_e H ?_; clear H; intro _ q H; first | (replace q := Option.some.inj q; subst q) | skip))
  all_goals with_reducible (first | (replace H := Option.some.inj H; subst H) | skip)
  all_goals (try simp only [List.length_replicate, List.length_set] at H)
  all_goals (refine go2 ?_)
  refine X_fuel3 (L := fun n (y : List Int × Int × Int × Int × Int) => divide_take.l0 n y.1 a1 l2 a3 y.2.1 y.2.2.1 y.2.2.2.1 y.2.2.2.2) (S := fun y s => ∃ j8 j11 j12 j17, s = ⟨[(0, .ref i v 1 0 l0.length), (1, (.int .i64 a1)), (2, (.lst (u l2))), (3, (.int .u64 a3)), (8, j8), (9, (.int .u64 y.2.1)), (10, (.int .u64 y.2.2.1)), (11, j11), (12, j12), (15, (.int .i64 y.2.2.2.1)), (16, (.int .i64 y.2.2.2.2)), (17, j17)], h.set i (some ⟨v, 1, u y.1⟩)⟩ ∧ y.1.length = l0.length) (fun _ => by simp only [divide_take.l0]) _ ?_ _ (Nat.le_refl _) (_, _, _, _, _) _ H ⟨_, _, _, _, rfl, rfl⟩
  clear H
  rintro nl0 hnl0 ⟨x0, x9, x10, x15, x16⟩ s H ⟨j8, j11, j12, j17, rfl, hl⟩ recl0
  simp only [divide_take.l0] at H
  simp only at hl
  rw [← hl]
  rw [← hl] at recl0
  clear hl
  repeat' with_reducible (first | (refine none_some H; done) | (refine ite_e H ?_ ?_ <;> clear H <;> intro c H <;> (try simp only [int_beq, decide_eq_true_eq] at c) <;> first | (have : (_ : Bool) = _ := c; clear this) | (have : ¬ (_ : Bool) = _ := c; clear this) | (replace c := eq_false c; try simp only [List.length_replicate, List.length_set, List.length_nil, List.length_cons, Nat.zero_add] at c) | (replace c := eq_true c; try simp only [List.length_replicate, List.length_set, List.length_nil, List.length_cons, Nat.zero_add] at c)) | (refine bind_k (by assumption) H ?_; clear H; intro H) | (refine bind_e H ?_; clear H; intro _ q H; first | (have q' := e_divide_at q; try simp only [u_nil, ui_nil, List.length_replicate, List.length_set, List.cons_append, List.nil_append] at q') | (have q' := e_limb_Mul q; try simp only [u_nil, ui_nil, List.length_replicate, List.length_set, List.cons_append, List.nil_append] at q') | (have q' := e_limb_Sub q; try simp only [u_nil, ui_nil, List.length_replicate, List.length_set, List.cons_append, List.nil_append] at q') | (replace q := Option.some.inj q; subst q) | skip))
  all_goals with_reducible (first | (replace H := Option.some.inj H; subst H) | skip)
  all_goals (try simp only [List.length_replicate, List.length_set] at H)
  all_goals (refine go2 ?_)
  all_goals (first | (trivial) | (exact recl0 _ (by omega) (_, _, _, _, _) _ H ⟨_, _, _, _, rfl, by simp⟩))
theorem r_divide_give {k : Nat} {l0 : List Int} {a1 : Int} {l2 : List Int}  {r : List Int} (H : divide_give.f k l0 a1 l2 = some r) {h : Heap} {i v m : Nat} (hb : h[i]? = some (some ⟨v, 1, u l0⟩)) (hm : m = l0.length) :
    CL F 88 [.ref i v 1 0 m, .int .i64 a1, .lst (u l2)] h = some (.tup [], h.set i (some ⟨v, 1, u r⟩)) := by
  subst hm
  have hi : i < h.length := by rcases Nat.lt_or_ge i h.length with hi | hi; exact hi; rw [List.getElem?_eq_none hi] at hb; cases hb
  have hg : ∀ x : Option Blk, (h.set i x)[i]? = some x := fun x => by rw [List.getElem?_set_self hi]
  have hs : ∀ x y : Option Blk, (h.set i x).set i y = h.set i y := fun x y => List.set_set x
  have h0 : h = h.set i (some ⟨v, 1, u l0⟩) := by rw [List.getElem?_eq_getElem hi] at hb; rw [← Option.some.inj hb, List.set_getElem_self]
  rw [show CL F 88 [.ref i v 1 0 l0.length, .int .i64 a1, .lst (u l2)] h = CL F 88 [.ref i v 1 0 l0.length, .int .i64 a1, .lst (u l2)] (h.set i (some ⟨v, 1, u l0⟩)) by rw [← h0]]
  clear h0 hb
  refine CL_X (F := F) (f := 88) rfl rfl ?_
  unfold divide_give.f at H
  repeat' with_reducible (first | (refine none_some H; done) | (refine ite_e H ?_ ?_ <;> clear H <;> intro c H <;> (try simp only [int_beq, decide_eq_true_eq] at c) <;> first | (have : (_ : Bool) = _ := c; clear this) | (have : ¬ (_ : Bool) = _ := c; clear this) | (replace c := eq_false c; try simp only [List.length_replicate, List.length_set, List.length_nil, List.length_cons, Nat.zero_add] at c) | (replace c := eq_true c; try simp only [List.length_replicate, List.length_set, List.length_nil, List.length_cons, Nat.zero_add] at c)) | (refine bind_k (by assumption) H ?_; clear H; intro H) | (refine bind_e H ?_; clear H; intro _ q H; first | (replace q := Option.some.inj q; subst q) | skip))
  all_goals with_reducible (first | (replace H := Option.some.inj H; subst H) | skip)
  all_goals (try simp only [List.length_replicate, List.length_set] at H)
  all_goals (refine go2 ?_)
  refine X_fuel3 (L := fun n (y : List Int × Int × Int × Int) => divide_give.l0 n y.1 a1 l2 y.2.1 y.2.2.1 y.2.2.2) (S := fun y s => ∃ j7 j12, s = ⟨[(0, .ref i v 1 0 l0.length), (1, (.int .i64 a1)), (2, (.lst (u l2))), (6, (.int .u64 y.2.1)), (7, j7), (10, (.int .i64 y.2.2.1)), (11, (.int .i64 y.2.2.2)), (12, j12)], h.set i (some ⟨v, 1, u y.1⟩)⟩ ∧ y.1.length = l0.length) (fun _ => by simp only [divide_give.l0]) _ ?_ _ (Nat.le_refl _) (_, _, _, _) _ H ⟨_, _, rfl, rfl⟩
  clear H
  rintro nl0 hnl0 ⟨x0, x6, x10, x11⟩ s H ⟨j7, j12, rfl, hl⟩ recl0
  simp only [divide_give.l0] at H
  simp only at hl
  rw [← hl]
  rw [← hl] at recl0
  clear hl
  repeat' with_reducible (first | (refine none_some H; done) | (refine ite_e H ?_ ?_ <;> clear H <;> intro c H <;> (try simp only [int_beq, decide_eq_true_eq] at c) <;> first | (have : (_ : Bool) = _ := c; clear this) | (have : ¬ (_ : Bool) = _ := c; clear this) | (replace c := eq_false c; try simp only [List.length_replicate, List.length_set, List.length_nil, List.length_cons, Nat.zero_add] at c) | (replace c := eq_true c; try simp only [List.length_replicate, List.length_set, List.length_nil, List.length_cons, Nat.zero_add] at c)) | (refine bind_k (by assumption) H ?_; clear H; intro H) | (refine bind_e H ?_; clear H; intro _ q H; first | (have q' := e_divide_at q; try simp only [u_nil, ui_nil, List.length_replicate, List.length_set, List.cons_append, List.nil_append] at q') | (have q' := e_limb_Add q; try simp only [u_nil, ui_nil, List.length_replicate, List.length_set, List.cons_append, List.nil_append] at q') | (replace q := Option.some.inj q; subst q) | skip))
  all_goals with_reducible (first | (replace H := Option.some.inj H; subst H) | skip)
  all_goals (try simp only [List.length_replicate, List.length_set] at H)
  all_goals (refine go2 ?_)
  all_goals (first | (trivial) | (exact recl0 _ (by omega) (_, _, _, _) _ H ⟨_, _, rfl, by simp⟩))
theorem divide_take_len {x1 : Int} {x2 : List Int} {x3 : Int} {r : Bool × List Int} : ∀ (n : Nat) (x0 : List Int) (x9 x10 x15 x16 : Int), divide_take.l0 n x0 x1 x2 x3 x9 x10 x15 x16 = some r → r.2.length = x0.length := by
  intro n
  induction n with
  | zero => intro x0 x9 x10 x15 x16 H; simp [divide_take.l0] at H
  | succ n ih =>
    intro x0 x9 x10 x15 x16 H
    simp only [divide_take.l0] at H
    repeat' with_reducible (first | (refine none_some H; done) | (refine ite_e H ?_ ?_ <;> clear H <;> intro c H) | (refine bind_e H ?_; clear H; intro _ q H))
    · rw [ih _ _ _ _ _ H, List.length_set]
    · cases H; rfl
theorem divide_give_len {x1 : Int} {x2 : List Int} {r : List Int} : ∀ (n : Nat) (x0 : List Int) (x6 x10 x11 : Int), divide_give.l0 n x0 x1 x2 x6 x10 x11 = some r → r.length = x0.length := by
  intro n
  induction n with
  | zero => intro x0 x6 x10 x11 H; simp [divide_give.l0] at H
  | succ n ih =>
    intro x0 x6 x10 x11 H
    simp only [divide_give.l0] at H
    repeat' with_reducible (first | (refine none_some H; done) | (refine ite_e H ?_ ?_ <;> clear H <;> intro c H) | (refine bind_e H ?_; clear H; intro _ q H))
    · rw [ih _ _ _ _ H, List.length_set]
    · cases H; rfl
theorem r_divide_guess0 {k : Nat} {l0 : List Int} {a1 : Int} {l2 : List Int} {r : Int} (H : divide_guess.f k l0 a1 l2 = some r) (v : Nat) : ∀ h : Heap, h[0]? = some (some ⟨v, 1, u l0⟩) → CL F 86 [.ref 0 v 1 0 l0.length, .int .i64 a1, .lst (u l2)] h = some (.int .u64 r, h) := fun h hb => r_divide_guess H hb rfl
theorem r_divide_take0 {k : Nat} {l0 : List Int} {a1 : Int} {l2 : List Int} {a3 : Int} {r : Bool × List Int} (H : divide_take.f k l0 a1 l2 a3 = some r) (v : Nat) : r.2.length = l0.length ∧ ∀ h : Heap, h[0]? = some (some ⟨v, 1, u l0⟩) → CL F 87 [.ref 0 v 1 0 l0.length, .int .i64 a1, .lst (u l2), .int .u64 a3] h = some (.bool r.1, h.set 0 (some ⟨v, 1, u r.2⟩)) := ⟨divide_take_len _ _ _ _ _ _ H, fun h hb => r_divide_take H hb rfl⟩
theorem r_divide_give0 {k : Nat} {l0 : List Int} {a1 : Int} {l2 : List Int} {r : List Int} (H : divide_give.f k l0 a1 l2 = some r) (v : Nat) {m : Nat} (hm : l0.length = m) : r.length = m ∧ ∀ h : Heap, h[0]? = some (some ⟨v, 1, u l0⟩) → CL F 88 [.ref 0 v 1 0 m, .int .i64 a1, .lst (u l2)] h = some (.tup [], h.set 0 (some ⟨v, 1, u r⟩)) := ⟨by rw [← hm]; exact divide_give_len _ _ _ _ _ H, fun h hb => r_divide_give H hb hm.symm⟩
theorem e_divide_knuth {k : Nat} {l0 : List Int} {l1 : List Int} {r : List Int × List Int} (H : divide_knuth.f k l0 l1 = some r) : CP (CL F) 82 [(.lst (u l0)), (.lst (u l1))] = some (.tup [(.lst (u r.1)), (.lst (u r.2))]) := by
  refine CP_X (F := F) (f := 82) rfl rfl ?_
  unfold divide_knuth.f at H
  repeat' with_reducible (first | (refine none_some H; done) | (refine ite_e H ?_ ?_ <;> clear H <;> intro c H <;> (try simp only [int_beq, decide_eq_true_eq] at c) <;> first | (have : (_ : Bool) = _ := c; clear this) | (have : ¬ (_ : Bool) = _ := c; clear this) | (replace c := eq_false c; try simp only [List.length_replicate, List.length_set, List.length_nil, List.length_cons, Nat.zero_add] at c) | (replace c := eq_true c; try simp only [List.length_replicate, List.length_set, List.length_nil, List.length_cons, Nat.zero_add] at c)) | (refine bind_k (by assumption) H ?_; clear H; intro H) | (refine bind_e H ?_; clear H; intro _ q H; first | (have q' := e_limb_Bits q; try simp only [u_nil, ui_nil, List.length_replicate, List.length_set, List.cons_append, List.nil_append] at q') | (have q' := e_nat_Make q; try simp only [u_nil, ui_nil, List.length_replicate, List.length_set, List.cons_append, List.nil_append] at q') | (have q' := e_nat_Shl q; try simp only [u_nil, ui_nil, List.length_replicate, List.length_set, List.cons_append, List.nil_append] at q') | (have q' := e_nat_Shr q; try simp only [u_nil, ui_nil, List.length_replicate, List.length_set, List.cons_append, List.nil_append] at q') | (replace q := Option.some.inj q; subst q) | skip))
  all_goals with_reducible (first | (replace H := Option.some.inj H; subst H) | skip)
  all_goals (try simp only [List.length_replicate, List.length_set] at H)
  all_goals (refine go2 ?_)
  simp only [tk_0, nl_app, nz_sub, nz_add] at H
  refine X_fuel3 (L := fun n (y : Int × List Int × List Int × List Int × Int) => divide_knuth.l0 n y.1 y.2.1 y.2.2.1 y.2.2.2.1 y.2.2.2.2) (S := fun y s => ∃ j4 j5 m0 j10 m1 j14 j16 j58 j75 v0 v1 g, s = ⟨[(0, (.lst (u l0))), (1, (.lst (u l1))), (4, j4), (5, j5), (6, (.int .i64 y.1)), (7, (.lst (u y.2.1))), (9, .ref 0 v0 1 0 m0), (10, j10), (12, .ref 1 v1 1 0 m1), (13, (.int .i64 y.2.2.2.2)), (14, j14), (16, j16), (58, j58), (75, j75)], some ⟨v0, 1, u y.2.2.1⟩ :: some ⟨v1, 1, u y.2.2.2.1⟩ :: g⟩ ∧ m0 = y.2.2.1.length ∧ m1 = y.2.2.2.1.length) (fun _ => by simp only [divide_knuth.l0]) _ ?_ _ (Nat.le_refl _) (_, _, _, _, _) _ H ⟨_, _, _, _, _, _, _, _, _, _, _, _, rfl, by simp; omega, by simp⟩
  clear H
  rintro nl0 hnl0 ⟨x6, x7, x9, x12, x13⟩ s H ⟨j4, j5, m0, j10, m1, j14, j16, j58, j75, v0, v1, g, rfl, rfl, rfl⟩ recl0
  simp only [divide_knuth.l0] at H
  repeat' with_reducible (first | (refine none_some H; done) | (refine ite_e H ?_ ?_ <;> clear H <;> intro c H <;> (try simp only [int_beq, decide_eq_true_eq] at c) <;> first | (have : (_ : Bool) = _ := c; clear this) | (have : ¬ (_ : Bool) = _ := c; clear this) | (replace c := eq_false c; try simp only [List.length_replicate, List.length_set, List.length_nil, List.length_cons, Nat.zero_add] at c) | (replace c := eq_true c; try simp only [List.length_replicate, List.length_set, List.length_nil, List.length_cons, Nat.zero_add] at c)) | (refine bind_k (by assumption) H ?_; clear H; intro H) | (refine bind_e H ?_; clear H; intro _ q H; first
     | (have q' := r_divide_guess0 q v0)
     | (have q' := r_divide_take0 q v0; have ql := q'.1; replace q' := q'.2)
     | (have q' := r_divide_give0 q v0 ql; have ql' := q'.1; replace q' := q'.2)
     | (have q' := e_nat_Make q) | (have q' := e_nat_Shr q) | (replace q := Option.some.inj q; subst q) | skip))
  all_goals with_reducible (first | (replace H := Option.some.inj H; subst H) | skip)
  all_goals (try simp only [List.length_replicate, List.length_set] at H)
  all_goals (refine go2 ?_)
  all_goals (first | (trivial) | (exact recl0 _ (by omega) (_, _, _, _, _) _ H ⟨_, _, _, _, _, _, _, _, _, _, _, _, rfl, by first | rfl | simp only [ql'] | simp only [ql], by first | rfl | simp only [List.length_set]⟩))
def ul (l : List (List Int)) : List AV := l.map fun x => .lst (u x)
theorem ul_len (l : List (List Int)) : (ul l).length = l.length := by simp [ul]
theorem ul_get (l : List (List Int)) (i : Int) (h0 : 0 ≤ i) (h1 : i < (l.length : Int)) : (ul l)[i.toNat]? = some (.lst (u (rdl l i))) := by
  have : i.toNat < l.length := by omega
  simp [ul, rdl, List.getElem?_eq_getElem this, List.getD]
theorem e_nat_Sum {k : Nat} {l0 : List (List Int)} {r : List Int} (H : nat_Sum.f k l0 = some r) : CP (CL F) 74 [.lst (ul l0)] = some (.lst (u r)) := by
  refine CP_X (F := F) (f := 74) rfl rfl ?_
  have hul := ul_len
  have hug := ul_get
  unfold nat_Sum.f at H
  refine go2 ?_
  refine X_fuel3 (L := fun n (y : List Int × Int × Int) => nat_Sum.l0 n y.1 l0 y.2.1 y.2.2) (S := fun y s => ∃ j2 j5 j9 t, fz [] t = some (.lst (u y.1)) ∧ used [] deep t = [] ∧ s = ⟨[(0, .lst (ul l0)), (2, j2), (3, t), (5, j5), (6, .lst (ul l0)), (7, .int .i64 y.2.1), (8, .int .i64 y.2.2), (9, j9)], []⟩) (fun _ => by simp only [nat_Sum.l0]) _ ?_ _ (Nat.le_refl _) (_, _, _) _ H ⟨_, _, _, .nil, rfl, rfl, rfl⟩
  clear H
  rintro nl0 hnl0 ⟨x3, x7, x8⟩ s H ⟨j2, j5, j9, t, ht, hu, rfl⟩ recl0
  simp only [nat_Sum.l0] at H
  repeat' with_reducible (first | (refine none_some H; done) | (refine ite_e H ?_ ?_ <;> clear H <;> intro c H <;> (try simp only [int_beq, decide_eq_true_eq] at c) <;> first | (have : (_ : Bool) = _ := c; clear this) | (have : ¬ (_ : Bool) = _ := c; clear this) | (replace c := eq_false c; try simp only [List.length_replicate, List.length_set, List.length_nil, List.length_cons, Nat.zero_add] at c) | (replace c := eq_true c; try simp only [List.length_replicate, List.length_set, List.length_nil, List.length_cons, Nat.zero_add] at c)) | (refine bind_k (by assumption) H ?_; clear H; intro H) | (refine bind_e H ?_; clear H; intro _ q H; first | (have q' := e_nat_Add q; try simp only [u_nil, ui_nil, List.length_replicate, List.length_set, List.cons_append, List.nil_append] at q') | (replace q := Option.some.inj q; subst q) | skip))
  all_goals with_reducible (first | (replace H := Option.some.inj H; subst H) | skip)
  all_goals (try simp only [List.length_replicate, List.length_set] at H)
  all_goals (refine go2 ?_)
  all_goals (first | trivial | exact recl0 _ (by omega) (_, _, _) _ H ⟨_, _, _, _, rfl, rfl, rfl⟩)
theorem fz3 {h : Heap} {v s : Nat} {a b c : List Int} : fzR (frz h 6) (some (some ⟨v, s, [.lst (u a), .lst (u b), .lst (u c)]⟩)) v 0 3 = some (.lst (ul [a, b, c])) := fzR_p (n := 4) rfl
theorem us3 {h : Heap} {id v s : Nat} {a b c : List Int} : usR (used h 6) (some (some ⟨v, s, [.lst (u a), .lst (u b), .lst (u c)]⟩)) id v 0 3 = [id] := usR_p (n := 4) rfl
theorem e_mul_Short : ∀ {k : Nat} {l0 l1 : List Int} {r : List Int}, mul_Short.f k l0 l1 = some r → CP (CL F) 66 [.lst (u l0), .lst (u l1)] = some (.lst (u r)) := by
  intro k
  induction k with
  | zero => intro l0 l1 r H; simp [mul_Short.f] at H
  | succ k ih =>
  intro l0 l1 r H
  refine CP_X (F := F) (f := 66) rfl rfl ?_
  have hf3 := @fz3
  have hu3 := @us3
  simp only [mul_Short.f] at H
  repeat' with_reducible (first | (refine none_some H; done) | (refine ite_e H ?_ ?_ <;> clear H <;> intro c H <;> (try simp only [int_beq, decide_eq_true_eq] at c) <;> first | (have : (_ : Bool) = _ := c; clear this) | (have : ¬ (_ : Bool) = _ := c; clear this) | (replace c := eq_false c; try simp only [List.length_replicate, List.length_set, List.length_nil, List.length_cons, Nat.zero_add] at c) | (replace c := eq_true c; try simp only [List.length_replicate, List.length_set, List.length_nil, List.length_cons, Nat.zero_add] at c)) | (refine bind_k (by assumption) H ?_; clear H; intro H) | (refine bind_e H ?_; clear H; intro _ q H; first | (have q' := ih q; try simp only [u_nil, ui_nil, List.length_replicate, List.length_set, List.cons_append, List.nil_append] at q') | (have q' := e_mul_Long q; try simp only [u_nil, ui_nil, List.length_replicate, List.length_set, List.cons_append, List.nil_append] at q') | (have q' := e_mul_cut q; try simp only [u_nil, ui_nil, List.length_replicate, List.length_set, List.cons_append, List.nil_append] at q') | (have q' := e_nat_Add q; try simp only [u_nil, ui_nil, List.length_replicate, List.length_set, List.cons_append, List.nil_append] at q') | (have q' := e_nat_Sub q; try simp only [u_nil, ui_nil, List.length_replicate, List.length_set, List.cons_append, List.nil_append] at q') | (have q' := e_mul_up q; try simp only [u_nil, ui_nil, List.length_replicate, List.length_set, List.cons_append, List.nil_append] at q') | (have q' := e_nat_Sum q; try simp only [u_nil, ui_nil, List.length_replicate, List.length_set, List.cons_append, List.nil_append] at q') | (replace q := Option.some.inj q; subst q) | skip))
  all_goals with_reducible (first | (replace H := Option.some.inj H; subst H) | skip)
  all_goals (try simp only [List.length_replicate, List.length_set] at H)
  all_goals clear ih
  all_goals (refine go2 ?_)
  all_goals trivial
theorem triviumref02_Clean_j1_e {n : Nat} {x5 : List Int} {r} {p : Prop} (h : triviumref02_Clean.j1 n x5 = some r) (h1 : ∀ m, m < n → triviumref02_Clean.j1 (m + 1) x5 = some r → p) : p := by
  cases n with
  | zero => simp [triviumref02_Clean.j1] at h
  | succ m => exact h1 m (by omega) h
theorem rd_take (l : List Int) (m : Nat) (i : Int) (h0 : 0 ≤ i) (h1 : i < (m : Int)) : rd (l.take m) i = rd l i := by
  unfold rd
  simp only [List.getD_eq_getElem?_getD]
  rw [List.getElem?_take_of_lt (by omega)]
theorem e_triviumref02_Clean {k : Nat} {l0 : List Int} {a1 : Int} {r : List Int} (H : triviumref02_Clean.f k l0 a1 = some r) : CP (CL F) 46 [(.lst (u l0)), (.int .i64 a1)] = some (.lst (u r)) := by
  refine CP_X (F := F) (f := 46) rfl rfl ?_
  unfold triviumref02_Clean.f at H
  refine go2 ?_
  refine X_fuel3 (L := fun n (y : List Int × Int) => triviumref02_Clean.l0 n l0 a1 y.1 y.2) (S := fun y s => ∃ j4 m0 j16 j38 v0 g, s = ⟨[(0, (.lst (u l0))), (1, (.int .i64 a1)), (4, j4), (5, .ref 0 v0 1 0 m0), (6, (.int .i64 y.2)), (16, j16), (38, j38)], some ⟨v0, 1, u y.1⟩ :: g⟩ ∧ m0 = y.1.length) (fun _ => by simp only [triviumref02_Clean.l0]) _ ?_ _ (Nat.le_refl _) (_, _) _ H ⟨_, _, _, _, _, _, rfl, by simp⟩
  clear H
  rintro nl0 hnl0 ⟨x5, x6⟩ s H ⟨j4, m0, j16, j38, v0, g, rfl, rfl⟩ recl0
  simp only [triviumref02_Clean.l0] at H
  repeat' with_reducible (first | (refine none_some H; done) | (refine ite_e H ?_ ?_ <;> clear H <;> intro c H <;> (try simp only [int_beq, decide_eq_true_eq] at c) <;> first | (have : (_ : Bool) = _ := c; clear this) | (have : ¬ (_ : Bool) = _ := c; clear this) | (replace c := eq_false c; try simp only [List.length_replicate, List.length_set, List.length_nil, List.length_cons, Nat.zero_add] at c) | (replace c := eq_true c; try simp only [List.length_replicate, List.length_set, List.length_nil, List.length_cons, Nat.zero_add] at c)) | (refine bind_k (by assumption) H ?_; clear H; intro H) | (refine bind_e H ?_; clear H; intro _ q H; first | (replace q := Option.some.inj q; subst q) | skip) | (refine triviumref02_Clean_j1_e H ?_; clear H; intro _ _ H; simp only [triviumref02_Clean.j1] at H))
  all_goals with_reducible (first | (replace H := Option.some.inj H; subst H) | skip)
  all_goals (try simp only [List.length_replicate, List.length_set] at H)
  all_goals (refine go2 ?_)
  all_goals (try exact recl0 _ (by omega) (_, _) _ H ⟨_, _, _, _, _, _, rfl, by simp⟩)
  all_goals (clear recl0; refine X_fuel3 (L := fun n (y : List Int) => triviumref02_Clean.l1 n y) (S := fun y s => ∃ j4 m0 j6 j16 j38 v0 g b, s = ⟨[(0, (.lst (u l0))), (1, (.int .i64 a1)), (4, j4), (5, .ref 0 v0 1 0 m0), (6, j6), (16, j16), (38, j38)], some ⟨v0, 1, u b⟩ :: g⟩ ∧ m0 ≤ b.length ∧ y = b.take m0) (fun _ => by simp only [triviumref02_Clean.l1]) _ ?_ _ (Nat.le_refl _) _ _ H ⟨_, _, _, _, _, _, _, _, rfl, by simp, by simp⟩)
  all_goals clear H
  all_goals rintro nl1 hnl1 y s H ⟨j4, m0, j6, j16, j38, v0, g, b, rfl, hm, rfl⟩ recl1
  all_goals simp only [triviumref02_Clean.l1] at H
  all_goals have hl : (List.take m0 b).length = m0 := by rw [List.length_take]; omega
  all_goals rw [hl] at H
  all_goals replace hm := eq_true hm
  repeat' with_reducible (first | (refine none_some H; done) | (rw [rd_take b m0 _ (of_eq_true (by assumption)) (of_eq_true (by assumption))] at H) | (refine ite_e H ?_ ?_ <;> clear H <;> intro c H <;> (try simp only [int_beq, decide_eq_true_eq] at c) <;> first | (have : (_ : Bool) = _ := c; clear this) | (have : ¬ (_ : Bool) = _ := c; clear this) | (replace c := eq_false c; try simp only [List.length_replicate, List.length_set, List.length_nil, List.length_cons, Nat.zero_add] at c) | (replace c := eq_true c; try simp only [List.length_replicate, List.length_set, List.length_nil, List.length_cons, Nat.zero_add] at c)) | (refine bind_k (by assumption) H ?_; clear H; intro H) | (refine bind_e H ?_; clear H; intro _ q H; first | (replace q := Option.some.inj q; subst q) | skip))
  all_goals with_reducible (first | (replace H := Option.some.inj H; subst H) | skip)
  all_goals (try simp only [List.length_replicate, List.length_set] at H)
  all_goals have hg := fun i h0 (h1 : i < (m0 : Int)) => u_get b i h0 (by have := of_eq_true hm; omega)
  all_goals (refine go2 ?_)
  all_goals (first | trivial | exact recl1 _ (by omega) _ _ H ⟨_, _, _, _, _, _, _, _, rfl, by have h1 := of_eq_true hm; have h2 : wrap64 ((m0 : Int) - 1) < (m0 : Int) := of_eq_true (by assumption); omega, by have h2 : wrap64 ((m0 : Int) - 1) < (m0 : Int) := of_eq_true (by assumption); rw [List.take_take]; congr 1; omega⟩)
end Go.S

end
section
set_option linter.unusedVariables false
set_option linter.unusedSimpArgs false
set_option maxRecDepth 100000
namespace Go.S
open Go Go.AM Go.RowKit Go.K
theorem e_mul_Mul {k : Nat} {l0 : List Int} {l1 : List Int} {r : List Int} (H : mul_Mul.f k l0 l1 = some r) : CP (CL F) 45 [(.lst (u l0)), (.lst (u l1))] = some (.lst (u r)) := by
  refine CP_X (F := F) (f := 45) rfl rfl ?_
  unfold mul_Mul.f at H
  repeat' with_reducible (first | (refine none_some H; done) | (refine ite_e H ?_ ?_ <;> clear H <;> intro c H <;> (try simp only [int_beq, decide_eq_true_eq] at c) <;> first | (have : (_ : Bool) = _ := c; clear this) | (have : ¬ (_ : Bool) = _ := c; clear this) | (replace c := eq_false c; try simp only [List.length_replicate, List.length_set, List.length_nil, List.length_cons, Nat.zero_add] at c) | (replace c := eq_true c; try simp only [List.length_replicate, List.length_set, List.length_nil, List.length_cons, Nat.zero_add] at c)) | (refine bind_k (by assumption) H ?_; clear H; intro H) | (refine bind_e H ?_; clear H; intro _ q H; first | (have q' := e_mul_Short q; try simp only [u_nil, ui_nil, List.length_replicate, List.length_set, List.cons_append, List.nil_append] at q') | (replace q := Option.some.inj q; subst q) | skip))
  all_goals with_reducible (first | (replace H := Option.some.inj H; subst H) | skip)
  all_goals (try simp only [List.length_replicate, List.length_set] at H)
  all_goals (refine go2 ?_)
  all_goals (first | trivial | skip)
theorem e_whole_Mul {k : Nat} {a0_0 : Bool} {l0_1 : List Int} {a1_0 : Bool} {l1_1 : List Int} {r : Bool × List Int} (H : whole_Mul.f k a0_0 l0_1 a1_0 l1_1 = some r) : CP (CL F) 23 [(.agg [(.bool a0_0), (.lst (u l0_1))]), (.agg [(.bool a1_0), (.lst (u l1_1))])] = some (.agg [(.bool r.1), (.lst (u r.2))]) := by
  refine CP_X (F := F) (f := 23) rfl rfl ?_
  unfold whole_Mul.f at H
  repeat' with_reducible (first | (refine none_some H; done) | (refine ite_e H ?_ ?_ <;> clear H <;> intro c H <;> (try simp only [int_beq, decide_eq_true_eq] at c) <;> first | (have : (_ : Bool) = _ := c; clear this) | (have : ¬ (_ : Bool) = _ := c; clear this) | (replace c := eq_false c; try simp only [List.length_replicate, List.length_set, List.length_nil, List.length_cons, Nat.zero_add] at c) | (replace c := eq_true c; try simp only [List.length_replicate, List.length_set, List.length_nil, List.length_cons, Nat.zero_add] at c)) | (refine bind_k (by assumption) H ?_; clear H; intro H) | (refine bind_e H ?_; clear H; intro _ q H; first | (have q' := e_mul_Mul q; try simp only [u_nil, ui_nil, List.length_replicate, List.length_set, List.cons_append, List.nil_append] at q') | (have q' := e_whole_Made q; try simp only [u_nil, ui_nil, List.length_replicate, List.length_set, List.cons_append, List.nil_append] at q') | (replace q := Option.some.inj q; subst q) | skip))
  all_goals with_reducible (first | (replace H := Option.some.inj H; subst H) | skip)
  all_goals (try simp only [List.length_replicate, List.length_set] at H)
  all_goals (refine go2 ?_)
  all_goals (first | trivial | skip)
theorem divide_Div_j0_e {n : Nat} {x0 : List Int} {x1 : List Int} {x18 : Bool} {r} {p : Prop} (h : divide_Div.j0 n x0 x1 x18 = some r) (h1 : ∀ m, m < n → divide_Div.j0 (m + 1) x0 x1 x18 = some r → p) : p := by
  cases n with
  | zero => simp [divide_Div.j0] at h
  | succ m => exact h1 m (by omega) h
theorem e_divide_Div {k : Nat} {l0 : List Int} {l1 : List Int} {r : List Int × List Int × Int} (H : divide_Div.f k l0 l1 = some r) : CP (CL F) 79 [(.lst (u l0)), (.lst (u l1))] = some (.tup [(.lst (u r.1)), (.lst (u r.2.1)), (.int .i64 r.2.2)]) := by
  refine CP_X (F := F) (f := 79) rfl rfl ?_
  unfold divide_Div.f at H
  repeat' with_reducible (first | (refine none_some H; done) | (refine ite_e H ?_ ?_ <;> clear H <;> intro c H <;> (try simp only [int_beq, decide_eq_true_eq] at c) <;> first | (have : (_ : Bool) = _ := c; clear this) | (have : ¬ (_ : Bool) = _ := c; clear this) | (replace c := eq_false c; try simp only [List.length_replicate, List.length_set, List.length_nil, List.length_cons, Nat.zero_add] at c) | (replace c := eq_true c; try simp only [List.length_replicate, List.length_set, List.length_nil, List.length_cons, Nat.zero_add] at c)) | (refine bind_k (by assumption) H ?_; clear H; intro H) | (refine bind_e H ?_; clear H; intro _ q H; first | (have q' := e_divide_Small q; try simp only [u_nil, ui_nil, List.length_replicate, List.length_set, List.cons_append, List.nil_append] at q') | (have q' := e_divide_knuth q; try simp only [u_nil, ui_nil, List.length_replicate, List.length_set, List.cons_append, List.nil_append] at q') | (have q' := e_nat_Cmp q; try simp only [u_nil, ui_nil, List.length_replicate, List.length_set, List.cons_append, List.nil_append] at q') | (have q' := e_nat_Make q; try simp only [u_nil, ui_nil, List.length_replicate, List.length_set, List.cons_append, List.nil_append] at q') | (have q' := e_nat_May q; try simp only [u_nil, ui_nil, List.length_replicate, List.length_set, List.cons_append, List.nil_append] at q') | (have q' := e_nat_Of q; try simp only [u_nil, ui_nil, List.length_replicate, List.length_set, List.cons_append, List.nil_append] at q') | (replace q := Option.some.inj q; subst q) | skip) | (refine divide_Div_j0_e H ?_; clear H; intro _ _ H; simp only [divide_Div.j0] at H))
  all_goals with_reducible (first | (replace H := Option.some.inj H; subst H) | skip)
  all_goals (try simp only [List.length_replicate, List.length_set] at H)
  all_goals (refine go2 ?_)
  all_goals (first | trivial | skip)
theorem e_divide_Exact {k : Nat} {l0 : List Int} {l1 : List Int} {r : List Int × Int} (H : divide_Exact.f k l0 l1 = some r) : CP (CL F) 76 [(.lst (u l0)), (.lst (u l1))] = some (.tup [(.lst (u r.1)), (.int .i64 r.2)]) := by
  refine CP_X (F := F) (f := 76) rfl rfl ?_
  unfold divide_Exact.f at H
  repeat' with_reducible (first | (refine none_some H; done) | (refine ite_e H ?_ ?_ <;> clear H <;> intro c H <;> (try simp only [int_beq, decide_eq_true_eq] at c) <;> first | (have : (_ : Bool) = _ := c; clear this) | (have : ¬ (_ : Bool) = _ := c; clear this) | (replace c := eq_false c; try simp only [List.length_replicate, List.length_set, List.length_nil, List.length_cons, Nat.zero_add] at c) | (replace c := eq_true c; try simp only [List.length_replicate, List.length_set, List.length_nil, List.length_cons, Nat.zero_add] at c)) | (refine bind_k (by assumption) H ?_; clear H; intro H) | (refine bind_e H ?_; clear H; intro _ q H; first | (have q' := e_divide_Div q; try simp only [u_nil, ui_nil, List.length_replicate, List.length_set, List.cons_append, List.nil_append] at q') | (replace q := Option.some.inj q; subst q) | skip))
  all_goals with_reducible (first | (replace H := Option.some.inj H; subst H) | skip)
  all_goals (try simp only [List.length_replicate, List.length_set] at H)
  all_goals (refine go2 ?_)
  all_goals (first | trivial | skip)
end Go.S

end
section
set_option linter.unusedVariables false
set_option linter.unusedSimpArgs false
set_option maxRecDepth 100000
namespace Go.S
open Go Go.AM Go.RowKit Go.K
theorem ev_cp {α : Type} {g : Nat → Option α} {r : α} {p : Prop} (h : Ev g r) (k : ∀ n, g n = some r → p) : p := by
  obtain ⟨K, hK⟩ := h
  exact k K (hK K (Nat.le_refl _))
theorem s_nat_Cmp {x y : Int} (hx : 0 ≤ x) (hy : 0 ≤ y) (h1 : L x < 1000000000) : CP (CL F) 38 [eN x, eN y] = some (.int .i64 (cmpI x y)) :=
  ev_cp (cmp_ev hx hy (by rw [L_nat hx]; omega)) fun _ h => e_nat_Cmp h
theorem s_whole_Made (b : Bool) {n : Int} (hn : 0 ≤ n) (hl : L n < 1000000000) : CP (CL F) 34 [.bool b, eN n] = some (eZ (sg b n)) :=
  ev_cp (made_wz b hn (by rw [L_nat hn]; omega)) fun _ h => e_whole_Made h
theorem s_whole_Of {a : Int} (h0 : -9223372036854775808 ≤ a) (h1 : a ≤ 9223372036854775807) : CP (CL F) 20 [.int .i64 a] = some (eZ a) :=
  ev_cp (wof_ev h0 h1) fun _ h => e_whole_Of h
theorem s_whole_Neg {z : Int} (hl : L z < 1000000000) : CP (CL F) 18 [eZ z] = some (eZ (-z)) :=
  ev_cp (wneg_ev (z := z) (by have := L_def z; omega)) fun _ h => e_whole_Neg h
theorem s_whole_Add {x y : Int} (h1 : L x < 1000000000) (h2 : L y < 1000000000) : CP (CL F) 16 [eZ x, eZ y] = some (eZ (x + y)) :=
  ev_cp (wadd_ev (x := x) (y := y) h1 h2) fun _ h => e_whole_Add h
theorem s_whole_Mul {x y : Int} (h1 : L x < 500000000) (h2 : L y < 500000000) : CP (CL F) 23 [eZ x, eZ y] = some (eZ (x * y)) :=
  ev_cp (wmul_ev (x := x) (y := y) h1 h2) fun _ h => e_whole_Mul h
def sgn (z : Int) : Int := if z = 0 then 0 else if z < 0 then -1 else 1
theorem s_whole_Sign (z : Int) : CP (CL F) 37 [eZ z] = some (.int .i64 (sgn z)) := e_whole_Sign (wsign_eq z)
theorem s_whole_Cmp {x y : Int} (h1 : L x < 1000000000) (h2 : L y < 1000000000) : CP (CL F) 17 [eZ x, eZ y] = some (.int .i64 (cmpI x y)) := by
  refine CP_X (F := F) (f := 17) rfl rfl ?_
  have hx := s_whole_Sign x
  have hy := s_whole_Sign y
  have hc := s_nat_Cmp (ab_nonneg x) (ab_nonneg y) (by rw [← L_nat (ab_nonneg x)]; exact h1)
  have key : IntKind.i64.wrap (sgn x * cmpI (ab x) (ab y)) = sgn x * cmpI (ab x) (ab y) := by
    rw [i64_w]
    unfold sgn cmpI
    refine w64 ?_ ?_ <;> split <;> split <;> (try split) <;> (try split) <;> omega
  rw [i64_w] at key
  refine go3 ?_
  refine B_dec (fun c => ?_) (fun c => ?_)
  · refine go3 ?_
    rw [show cmpI x y = -1 by unfold sgn at c; unfold cmpI; split at c <;> split at c <;> (try split at c) <;> (try split at c) <;> (try split) <;> omega]
  · refine go3 ?_
    refine B_dec (fun d => ?_) (fun d => ?_)
    · refine go3 ?_
      rw [show cmpI x y = 1 by unfold sgn at c d; unfold cmpI; split at d <;> split at d <;> (try split at d) <;> (try split at d) <;> (try split) <;> (try split) <;> omega]
    · refine go3 ?_
      have : sgn x * cmpI (ab x) (ab y) = cmpI x y := by
        unfold sgn at *; unfold cmpI ab; split at c <;> split at d <;> split <;> (try split) <;> (try split) <;> (try split) <;> (try split) <;> omega
      rw [this]
end Go.S

end
section
set_option linter.unusedVariables false
set_option linter.unusedSimpArgs false
set_option maxRecDepth 100000
namespace Go.S
open Go Go.AM Go.RowKit Go.K
theorem dz : dg D 0 = [] := dg_zero _
theorem bz : dg B 0 = [] := dg_zero _
theorem lenD_pos' {x : Int} (hx : 0 ≤ x) (h : x ≠ 0) : (0 : Int) < ((dg D x).length : Int) := by have := (lenD_pos hx).2 h; omega
theorem lenB_pos' {x : Int} (hx : 0 ≤ x) (h : x ≠ 0) : (0 : Int) < ((dg B x).length : Int) := by have := (dg_len_pos hx).2 h; omega
theorem sg_nonneg_ab (b : Bool) {n : Int} (hn : 0 ≤ n) : ab (sg b n) = n := by unfold sg ab; split <;> omega
theorem sg_lt (b : Bool) {n : Int} (hn : 0 ≤ n) : sg b n < 0 ↔ b = true ∧ n ≠ 0 := by unfold sg; split <;> simp_all <;> omega
theorem rZ_sg (b : Bool) {n : Int} (hn : 0 ≤ n) : rZ (sg b n) = .agg [.bool (b && decide (n ≠ 0)), rN n] := by
  unfold rZ
  rw [sg_nonneg_ab b hn]
  congr 3
  rw [Bool.eq_iff_iff]
  simp [sg_lt b hn]
theorem s_r02_Of {x : Int} (hx : 0 ≤ x) (h1 : L x < 100000000) : CP (CL F) 48 [eN x] = some (rN x) :=
  ev_cp (of_ev hx (by rw [L_nat hx]; omega)) fun _ h => e_triviumref02_Of h
theorem s_r02_Clean (xs : List Int) (m : Nat) (hu : ∀ x ∈ xs, 0 ≤ x) (hl : xs.length < 17592186044416) : CP (CL F) 46 [.lst (u xs), .int .i64 (m : Int)] = some (eN (cl xs m)) :=
  ev_cp (clean_ev xs m hu hl) fun _ h => e_triviumref02_Clean h
theorem L_cl (xs : List Int) (m : Nat) : L (cl xs m) ≤ m := L_le (by rw [ab_of_nonneg (cl_nonneg xs m)]; exact cl_lt xs m)
theorem s_r07_made (b : Bool) {n : Int} (hn : 0 ≤ n) : CP (CL F) 47 [.bool b, rN n] = some (rZ (sg b n)) := by
  rw [rZ_sg b hn]
  refine CP_X (F := F) (f := 47) rfl rfl ?_
  by_cases h0 : n = 0
  · subst h0
    have hz := dz
    cases b <;> (refine go3 ?_; simp [dz, ui])
  · have hp := lenD_pos' hn h0
    cases b
    · refine go3 ?_; trivial
    · refine go3 ?_
      simp [h0]
theorem s_r07_Of {z : Int} (h : L z < 100000000) : CP (CL F) 25 [eZ z] = some (rZ z) := by
  refine CP_X (F := F) (f := 25) rfl rfl ?_
  have h1 := s_r02_Of (ab_nonneg z) (by rw [← L_nat (ab_nonneg z)]; exact h)
  have h2 := s_r07_made (decide (z < 0)) (ab_nonneg z)
  rw [sg_wz] at h2
  clear h
  refine go3 ?_
  trivial
theorem s_r07_Clean (b : Bool) (xs : List Int) (m : Nat) (hu : ∀ x ∈ xs, 0 ≤ x) (hl : xs.length < 17592186044416) : CP (CL F) 24 [.agg [.bool b, .lst (u xs)], .int .i64 (m : Int)] = some (eZ (sg b (cl xs m))) := by
  have hz : eZ (sg b (cl xs m)) = .agg [.bool (b && decide (cl xs m ≠ 0)), eN (cl xs m)] := by
    unfold eZ
    rw [sg_nonneg_ab b (cl_nonneg xs m)]
    congr 3
    rw [Bool.eq_iff_iff]
    simp [sg_lt b (cl_nonneg xs m)]
  rw [hz]
  refine CP_X (F := F) (f := 24) rfl rfl ?_
  have h1 := s_r02_Clean xs m hu hl
  have hn := cl_nonneg xs m
  clear hz hu hl
  generalize cl xs m = n at *
  by_cases h0 : n = 0
  · subst h0
    have hz := bz
    cases b <;> (refine go3 ?_; simp [bz, u])
  · have hp := lenB_pos' hn h0
    cases b
    · refine go3 ?_; trivial
    · refine go3 ?_
      simp [h0]
theorem dg_inj {x y : Int} (hx : 0 ≤ x) (hy : 0 ≤ y) : dg B x = dg B y ↔ x = y := ⟨fun h => by rw [← val_dg hB x hx, ← val_dg hB y hy, h], fun h => by rw [h]⟩
end Go.S

end
section
set_option linter.unusedVariables false
set_option linter.unusedSimpArgs false
namespace Go.S
open Go Go.AM Go.RowKit Go.K
theorem X_up {F : Nat → Option AFunc} {ks : List Nat} {Q : Ex → St → Prop} {k : Kt} {a : ACode} (N : Nat) (S : Nat → St → Prop)
    (step : ∀ i s, i < N → S i s → (∀ s', S (i + 1) s' → X F ks Q (.loop a) s' k) → X F ks Q a s (.seq (.loop a) k))
    (stop : ∀ s, S N s → X F ks Q a s (.seq (.loop a) k)) : ∀ i, i ≤ N → ∀ s, S i s → X F ks Q (.loop a) s k := by
  have H : ∀ d i, N - i = d → i ≤ N → ∀ s, S i s → X F ks Q (.loop a) s k := by
    intro d
    induction d with
    | zero =>
      intro i hd hi s hs
      obtain rfl : i = N := by omega
      exact X_round (stop s hs)
    | succ d ih =>
      intro i hd hi s hs
      exact X_round (step i s (by omega) hs fun s' hs' => ih (i + 1) (by omega) (by omega) s' hs')
  exact fun i hi s hs => H _ i rfl hi s hs
theorem X_upto {F : Nat → Option AFunc} {ks : List Nat} {Q : Ex → St → Prop} {k : Kt} {a : ACode} (N : Nat) (S : Nat → St → Prop)
    (step : ∀ i s, i ≤ N → S i s → (∀ s', i < N → S (i + 1) s' → X F ks Q (.loop a) s' k) → X F ks Q a s (.seq (.loop a) k)) : ∀ i, i ≤ N → ∀ s, S i s → X F ks Q (.loop a) s k := by
  have H : ∀ d i, N - i = d → i ≤ N → ∀ s, S i s → X F ks Q (.loop a) s k := by
    intro d
    induction d with
    | zero =>
      intro i hd hi s hs
      exact X_round (step i s hi hs fun s' h _ => by omega)
    | succ d ih =>
      intro i hd hi s hs
      exact X_round (step i s hi hs fun s' h hs' => ih (i + 1) (by omega) (by omega) s' hs')
  exact fun i hi s hs => H _ i rfl hi s hs
section
variable {α : Type} {f : α → AV}
theorem fill_get (l : List α) (n : Nat) (z : AV) : (em f l ++ List.replicate (n + 1) z)[l.length]? = some z := by
  rw [List.getElem?_append_right (by rw [em_len]; omega), em_len]
  simp
theorem fill_set (l : List α) (n : Nat) (z : AV) (x : α) : (em f l ++ List.replicate (n + 1) z).set l.length (f x) = em f (l ++ [x]) ++ List.replicate n z := by
  rw [List.set_append_right _ _ (by rw [em_len]; omega), em_len]
  simp [em, List.replicate_succ]
theorem em_getN [Inhabited α] (l : List α) (i : Nat) (h : i < l.length) : (em f l)[i]? = some (f (l.getD i default)) := by
  simp [em, List.getElem?_eq_getElem h, List.getD]
end
theorem getD_mem {α : Type} [Inhabited α] {l : List α} {i : Nat} (h : i < l.length) : l.getD i default ∈ l := by
  simp [List.getD, List.getElem?_eq_getElem h]
theorem take_succ_getD {α : Type} [Inhabited α] (l : List α) (i : Nat) (h : i < l.length) : l.take (i + 1) = l.take i ++ [l.getD i default] := by
  rw [List.take_add_one, List.getElem?_eq_getElem h]
  simp [List.getD, List.getElem?_eq_getElem h]
theorem lt_c {i n : Nat} (h : i < n) : ((i : Int) < (n : Int)) := by omega
theorem nlt_c {n : Nat} : ¬ ((n : Int) < (n : Int)) := by omega
theorem CP_raw {F : Nat → Option AFunc} {f : Nat} {args : List AV} {r : AV} {h : Heap} {x : AV} (h1 : CL F f args [] = some (r, h)) (h2 : fz h r = some x) : CP (CL F) f args = some x := CP_of h1 h2
end Go.S

end
section
set_option linter.unusedVariables false
set_option linter.unusedSimpArgs false
namespace Go.S
open Go Go.AM Go.RowKit Go.K
theorem findIdx_spec {α : Type} [Inhabited α] {l : List α} {p : α → Bool} {i : Nat} (hi : i < l.length) (h1 : p (l.getD i default) = true) (h2 : ∀ j, j < i → p (l.getD j default) = false) : l.findIdx p = i := by
  rw [List.findIdx_eq hi]
  refine ⟨by rw [List.getD_eq_getElem?_getD, List.getElem?_eq_getElem hi] at h1; simpa using h1, fun j hj => ?_⟩
  have := h2 j hj
  rw [List.getD_eq_getElem?_getD, List.getElem?_eq_getElem (by omega)] at this
  simpa using this
theorem findIdx_none {α : Type} [Inhabited α] {l : List α} {p : α → Bool} (h : ∀ j, j < l.length → p (l.getD j default) = false) : ¬ l.findIdx p < l.length := by
  rw [List.findIdx_lt_length]
  rintro ⟨x, hx, hp⟩
  obtain ⟨j, hj, rfl⟩ := List.getElem_of_mem hx
  have := h j (by omega)
  rw [List.getD_eq_getElem?_getD, List.getElem?_eq_getElem hj] at this
  simp [hp] at this
theorem CL_XE {F : Nat → Option AFunc} {f np nt : Nat} {ks : List Nat} {res : List (Nat × Option (Nat × Bool))} {body : ACode} {args : List AV} {h : Heap} {P : AV × Heap → Prop} (hf : F f = some ⟨np, nt, ks, res, body⟩) (hn : args.length = np)
    (H : X F ks (fun e s => ∃ x, FinR res x e s ∧ P x) body ⟨args0 0 args, h⟩ .done) : ∃ x, CL F f args h = some x ∧ P x := by
  obtain ⟨e, s', h1, x, ⟨he, hr⟩, hp⟩ := H
  exact ⟨x, CL_run hf hn h1 he hr, hp⟩
theorem mapM_some {α β : Type} {F : α → Option β} {G : α → β} : ∀ (l : List α), (∀ x ∈ l, F x = some (G x)) → l.mapM F = some (l.map G) := by
  intro l
  induction l with
  | nil => intro _; rfl
  | cons x l ih =>
    intro h
    rw [List.mapM_cons, h x (List.mem_cons_self ..), ih fun y hy => h y (List.mem_cons_of_mem _ hy)]
    rfl
end Go.S

end
section
set_option linter.unusedVariables false
set_option linter.unusedSimpArgs false
set_option maxRecDepth 100000
namespace Go.S
open Go Go.AM Go.RowKit Go.K
abbrev eRZ (l : List Int) : AV := .lst (em eZ l)
abbrev rRZ (l : List Int) : AV := .lst (em rZ l)
abbrev eTZ (t : List (List Int)) : AV := .lst (em eRZ t)
abbrev rTZ (t : List (List Int)) : AV := .lst (em rRZ t)
theorem E_eRZ : Enc eRZ 1 := ⟨fun _ => rfl, fun _ => rfl⟩
abbrev zZ : AV := .agg [.bool false, .nil]
theorem z_clone {l : List Int} (hl : l.length ≤ 1000000) (h : Heap) (hn : l ≠ []) : CL F 63 [eRZ l] h = some (.ref h.length 0 2 0 l.length, h ++ [some ⟨0, 2, em eZ l⟩]) := by
  refine CL_X (F := F) (f := 63) rfl rfl ?_
  cases l with
  | nil => exact absurd rfl hn
  | cons x l =>
    have hl' : (em eZ (x :: l)).isEmpty = false := rfl
    have h2 : l.length < 4398046511104 := by simp at hl; omega
    have he : eqA 3 (eRZ (x :: l)) .nil = some false := rfl
    clear hl hn
    refine go3 ?_
    trivial
theorem z_clone' {l : List Int} (hl : l.length ≤ 1000000) (h : Heap) (hn : l ≠ []) : cloneA (CL F) 63 (eRZ l) h = some (.ref h.length 0 2 0 l.length, h ++ [some ⟨0, 2, em eZ l⟩]) := by
  rw [cloneA_ne, z_clone hl h hn]
  intro hx
  cases l with
  | nil => exact hn rfl
  | cons x l => simp [em] at hx
theorem z_Grow {n : Nat} (hn : 0 < n) (hn2 : n ≤ 1000000) (h : Heap) : CL F 62 [.nil, eI n] h = some (.ref h.length 0 2 0 0, h ++ [some ⟨0, 2, List.replicate n zZ⟩]) := by
  refine CL_X (F := F) (f := 62) rfl rfl ?_
  have h1 : ¬ ((n : Int) < 0) := by omega
  have h2 : ((0 : Int) < (n : Int)) := by omega
  have h3 : (n : Int) ≤ 4398046511104 := by omega
  have h4 : n ≤ 4398046511104 := by omega
  have h5 : (List.replicate n zZ).isEmpty = false := by cases n with | zero => omega | succ n => rfl
  have h6 : okS 2 (List.replicate n zZ) = true := by
    unfold okS
    rw [List.all_eq_true]
    intro x hx
    rw [List.eq_of_mem_replicate hx]; rfl
  have h7 : (List.replicate n zZ).length = n := by simp
  have w1 : wrap64 (-0) = 0 := by rw [Int.neg_zero, w64 (by omega) (by omega)]
  have w2 : wrap64 ((n : Int) - 0) = n := by rw [Int.sub_zero, w64 (by omega) (by omega)]
  refine go3 ?_
  trivial
theorem z_Grow0 (h : Heap) : CL F 62 [.nil, eI 0] h = some (.nil, h) := by
  refine CL_X (F := F) (f := 62) rfl rfl ?_
  have w1 : wrap64 (-0) = 0 := by rw [Int.neg_zero, w64 (by omega) (by omega)]
  have w2 : wrap64 (0 - 0) = 0 := by rw [show (0 : Int) - 0 = 0 from rfl, w64 (by omega) (by omega)]
  refine go3 ?_
  trivial
theorem z_Concat0 : CP (CL F) 39 [.lst [.lst [], .lst []]] = some (.lst []) := by
  refine CP_X (F := F) (f := 39) rfl rfl ?_
  have gr := z_Grow0 []
  have w0 : wrap64 (0 + 0) = 0 := by rw [show (0 : Int) + 0 = 0 from rfl, w64 (by omega) (by omega)]
  have w1 : wrap64 (0 + 1) = 1 := by rw [show (0 : Int) + 1 = 1 from rfl, w64 (by omega) (by omega)]
  have w2 : wrap64 (1 + 1) = 2 := by rw [show (1 : Int) + 1 = 2 from rfl, w64 (by omega) (by omega)]
  refine go3 ?_
  refine X_round ?_
  refine go3 ?_
  refine X_round ?_
  refine go3 ?_
  refine X_round ?_
  refine go3 ?_
  refine X_round ?_
  refine go3 ?_
  refine X_round ?_
  refine go3 ?_
  refine X_round ?_
  refine go3 ?_
  trivial
theorem z_Concat {a b : List Int} (ha : a.length ≤ 1000) (hb : b.length ≤ 1000) : CP (CL F) 39 [.lst (em eRZ [a, b])] = some (eRZ (a ++ b)) := by
  have g0 : (em eRZ [a, b])[0]? = some (eRZ a) := rfl
  have g1 : (em eRZ [a, b])[1]? = some (eRZ b) := rfl
  have hl : (em eRZ [a, b]).length = 2 := rfl
  have c1 : ¬ ((a.length : Int) < 0) := by omega
  have c2 : ¬ (((a.length + b.length : Nat) : Int) < 0) := by omega
  have l1 : a.length ≤ 4398046511104 := by omega
  have l2 : a.length + b.length ≤ 4398046511104 := by omega
  have l3 : b.length ≤ 4398046511104 := by omega
  have ht : List.take (a.length + b.length) (a ++ b) = a ++ b := take_len_g _ (by simp)
  have ht1 : List.take a.length a = a := List.take_length
  have w1 : wrap64 (0 + 1) = 1 := by rw [show (0 : Int) + 1 = 1 from rfl, w64 (by omega) (by omega)]
  have w2 : wrap64 (1 + 1) = 2 := by rw [show (1 : Int) + 1 = 2 from rfl, w64 (by omega) (by omega)]
  have w3 : wrap64 (0 + (a.length : Int)) = a.length := by rw [Int.zero_add, w64 (by omega) (by omega)]
  have w4 : wrap64 ((a.length : Int) + (b.length : Int)) = ((a.length + b.length : Nat) : Int) := by rw [w64 (by omega) (by omega)]; omega
  rcases Nat.eq_zero_or_pos (a.length + b.length) with e | e
  · have ea : a = [] := List.eq_nil_of_length_eq_zero (by clear w1 w2 w3 w4; omega)
    have eb : b = [] := List.eq_nil_of_length_eq_zero (by clear w1 w2 w3 w4; omega)
    subst ea
    subst eb
    exact z_Concat0
  · refine CP_X (F := F) (f := 39) rfl rfl ?_
    have gr := z_Grow e (by clear w1 w2 w3 w4; omega) []
    have hne : a = [] → (em eZ b).isEmpty = false := fun h => by
      subst h
      cases b with
      | nil => simp at e
      | cons x b => rfl
    have z0 : ∀ xs : List AV, sub xs 0 0 = [] := fun xs => by simp [sub]
    have z1 := sub_full (f := eZ) a
    clear e
    refine go3 ?_
    refine X_round ?_
    refine go3 ?_
    refine X_round ?_
    refine go3 ?_
    refine X_round ?_
    refine go3 ?_
    refine X_round ?_
    refine go3 ?_
    refine X_round ?_
    refine go3 ?_
    refine X_round ?_
    refine go3 ?_
    trivial
theorem z_IndexRow {t : List (List Int)} {g : Nat} {c : Int} {p : List Int → Bool} (hl : t.length ≤ 1000000) (hg : ∀ x ∈ t, CP (CL F) g [eRZ x, .fad (.int .i64 c)] = some (.bool (p x))) :
    CP (CL F) 68 [eTZ t, .fn g [] [.fad (.int .i64 c)]] = some (eI (if t.findIdx p < t.length then (t.findIdx p : Int) else -1)) := by
  refine CP_X (F := F) (f := 68) rfl rfl ?_
  have c1 : ∀ h, fz h (.fn g [] [.fad (.int .i64 c)]) = some (.fn g [] [.fad (.int .i64 c)]) := fun _ => rfl
  have c2 : ∀ h, used h deep (.fn g [] [.fad (.int .i64 c)]) = [] := fun _ => rfl
  have c3 : ∀ h, fz h (.fad (.int .i64 c)) = some (.fad (.int .i64 c)) := fun _ => rfl
  have c4 : ∀ h, used h deep (.fad (.int .i64 c)) = [] := fun _ => rfl
  refine go3 ?_
  refine X_upto t.length (fun i s => ∃ j4 j5 j9 j16 g', (∀ j, j < i → p (t.getD j default) = false) ∧ s = ⟨[(0, eTZ t), (1, .fn g [] [.fad (.int .i64 c)]), (4, j4), (5, j5), (7, eI t.length), (8, eI i), (9, j9), (16, j16)], g'⟩) ?_ 0 (Nat.zero_le _) _ ⟨_, _, _, _, _, fun j hj => by omega, rfl⟩
  rintro i s hi ⟨j4, j5, j9, j16, g', hall, rfl⟩ rec
  by_cases hlt : i < t.length
  · have hlt2 := lt_c hlt
    have g1 := em_getN (f := eRZ) t i hlt
    have hc := hg _ (getD_mem (l := t) (i := i) hlt)
    cases hp : p (t.getD i default) with
    | true =>
      rw [findIdx_spec hlt hp hall, if_pos hlt]
      rw [hp] at hc
      clear hall hg rec hi hp
      refine go3 ?_
      trivial
    | false =>
      rw [hp] at hc
      have hnext : ∀ j, j < i + 1 → p (t.getD j default) = false := fun j hj => by
        rcases Nat.lt_or_ge j i with h | h
        · exact hall j h
        · have : j = i := by omega
          subst this; exact hp
      have hw := i64_nat (n := i) (by omega)
      clear hall hg hp
      refine go3 ?_
      exact rec _ hlt ⟨_, _, _, _, _, hnext, rfl⟩
  · have hl3 : ¬ ((i : Int) < (t.length : Int)) := by omega
    have he := findIdx_none (l := t) (p := p) fun j hj => hall j (by omega)
    rw [if_neg he]
    clear hall hg rec he
    refine go3 ?_
    trivial
theorem z_ContainsRow {t : List (List Int)} {g : Nat} {c : Int} {p : List Int → Bool} (hl : t.length ≤ 1000000) (hg : ∀ x ∈ t, CP (CL F) g [eRZ x, .fad (.int .i64 c)] = some (.bool (p x))) :
    CP (CL F) 49 [eTZ t, .fn g [] [.fad (.int .i64 c)]] = some (.bool (t.any p)) := by
  refine CP_X (F := F) (f := 49) rfl rfl ?_
  have c1 : ∀ h, fz h (.fn g [] [.fad (.int .i64 c)]) = some (.fn g [] [.fad (.int .i64 c)]) := fun _ => rfl
  have c2 : ∀ h, used h deep (.fn g [] [.fad (.int .i64 c)]) = [] := fun _ => rfl
  have h1 := z_IndexRow hl hg
  clear hg
  by_cases h : t.findIdx p < t.length
  · have ha : t.any p = true := by
      rw [List.any_eq_true]
      rw [List.findIdx_lt_length] at h
      exact h
    rw [if_pos h] at h1
    rw [ha]
    have h2 : (0 : Int) ≤ (t.findIdx p : Int) := by omega
    clear ha h
    refine go3 ?_
    trivial
  · have ha : t.any p = false := by
      rw [← Bool.not_eq_true, List.any_eq_true, ← List.findIdx_lt_length]
      exact h
    rw [if_neg h] at h1
    rw [ha]
    clear ha h
    refine go3 ?_
    trivial
end Go.S

end
section
set_option linter.unusedVariables false
set_option linter.unusedSimpArgs false
namespace Go.S
abbrev Mt := Nat → Nat → Rat
def sm : Nat → (Nat → Rat) → Rat
  | 0, _ => 0
  | n + 1, f => sm n f + f n
theorem sm_congr {n : Nat} {f g : Nat → Rat} (h : ∀ i, i < n → f i = g i) : sm n f = sm n g := by
  induction n with
  | zero => rfl
  | succ n ih => simp only [sm]; rw [ih fun i hi => h i (by omega), h n (by omega)]
theorem sm_zero (n : Nat) : sm n (fun _ => 0) = 0 := by
  induction n with
  | zero => rfl
  | succ n ih => simp only [sm]; rw [ih]; grind
theorem sm_zero' {n : Nat} {f : Nat → Rat} (h : ∀ i, i < n → f i = 0) : sm n f = 0 := (sm_congr h).trans (sm_zero n)
theorem sm_add (n : Nat) (f g : Nat → Rat) : sm n (fun i => f i + g i) = sm n f + sm n g := by
  induction n with
  | zero => simp only [sm]; grind
  | succ n ih => simp only [sm]; rw [ih]; grind
theorem sm_mul (n : Nat) (k : Rat) (f : Nat → Rat) : sm n (fun i => k * f i) = k * sm n f := by
  induction n with
  | zero => simp only [sm]; grind
  | succ n ih => simp only [sm]; rw [ih]; grind
theorem sm_neg (n : Nat) (f : Nat → Rat) : sm n (fun i => -f i) = -sm n f := by
  rw [sm_congr (g := fun i => (-1) * f i) fun i _ => by grind, sm_mul]; grind
theorem sm_one {n j : Nat} {f : Nat → Rat} (hj : j < n) (h : ∀ i, i < n → i ≠ j → f i = 0) : sm n f = f j := by
  induction n with
  | zero => omega
  | succ n ih =>
    simp only [sm]
    by_cases e : j = n
    · subst e
      rw [sm_zero' fun i hi => h i (by omega) (by omega)]; grind
    · rw [ih (by omega) fun i hi hne => h i (by omega) hne, h n (by omega) (by omega)]; grind
def psg (j : Nat) : Rat := if j % 2 = 0 then 1 else -1
theorem psg_succ (j : Nat) : psg (j + 1) = -psg j := by
  unfold psg
  rcases Nat.mod_two_eq_zero_or_one j with h | h
  · rw [if_neg (by omega), if_pos h]
  · rw [if_pos (by omega), if_neg (by omega)]; grind
def sk (j c : Nat) : Nat := if c < j then c else c + 1
def cut (A : Mt) (j : Nat) : Mt := fun i c => A (i + 1) (sk j c)
def det : Nat → Mt → Rat
  | 0, _ => 1
  | n + 1, A => sm (n + 1) fun j => psg j * A 0 j * det n (cut A j)
theorem det_succ (n : Nat) (A : Mt) : det (n + 1) A = sm (n + 1) fun j => psg j * A 0 j * det n (cut A j) := rfl
theorem sk_lt {j c n : Nat} (h : c < n) : sk j c < n + 1 := by unfold sk; split <;> omega
theorem det_congr {n : Nat} : ∀ {A B : Mt}, (∀ i c, i < n → c < n → A i c = B i c) → det n A = det n B := by
  induction n with
  | zero => intro A B h; rfl
  | succ n ih =>
    intro A B h
    rw [det_succ, det_succ]
    refine sm_congr fun j hj => ?_
    rw [h 0 j (by omega) hj, ih (A := cut A j) (B := cut B j) fun i c hi hc => h (i + 1) (sk j c) (by omega) (sk_lt hc)]
def setr (A : Mt) (r : Nat) (f : Nat → Rat) : Mt := fun i c => if i = r then f c else A i c
theorem cut_setr0 (A : Mt) (f : Nat → Rat) (j : Nat) : cut (setr A 0 f) j = cut A j := by
  funext i c; simp [cut, setr]
theorem cut_setr (A : Mt) (r : Nat) (f : Nat → Rat) (j : Nat) : cut (setr A (r + 1) f) j = setr (cut A j) r (fun c => f (sk j c)) := by
  funext i c; simp [cut, setr]
theorem det_lin {n : Nat} : ∀ {A : Mt} {r : Nat} (f g : Nat → Rat) (k : Rat), r < n → det n (setr A r fun c => f c + k * g c) = det n (setr A r f) + k * det n (setr A r g) := by
  induction n with
  | zero => intro A r f g k h; omega
  | succ n ih =>
    intro A r f g k h
    rw [det_succ, det_succ, det_succ, ← sm_mul, ← sm_add]
    refine sm_congr fun j hj => ?_
    cases r with
    | zero =>
      rw [cut_setr0, cut_setr0, cut_setr0]
      simp only [setr, if_true]
      grind
    | succ r =>
      rw [cut_setr, cut_setr, cut_setr, ih (fun c => f (sk j c)) (fun c => g (sk j c)) k (by omega)]
      simp only [setr]
      rw [if_neg (by omega), if_neg (by omega), if_neg (by omega)]
      grind
theorem pairs (N : Nat) (F : Nat → Nat → Rat) : sm (N + 1) (fun j => sm N (F j)) = sm (N + 1) fun j => sm j fun k => F j k + F k (j - 1) := by
  induction N with
  | zero => simp only [sm]
  | succ N ih =>
    have e1 : sm (N + 1) (fun j => sm (N + 1) (F j)) = sm (N + 1) (fun j => sm N (F j)) + sm (N + 1) fun j => F j N := by
      rw [← sm_add]; rfl
    have e2 : sm (N + 1) (fun k => F (N + 1) k + F k (N + 1 - 1)) = sm (N + 1) (F (N + 1)) + sm (N + 1) fun k => F k N := by
      rw [← sm_add]; rfl
    show sm (N + 1) (fun j => sm (N + 1) (F j)) + sm (N + 1) (F (N + 1)) = sm (N + 1) (fun j => sm j fun k => F j k + F k (j - 1)) + sm (N + 1) (fun k => F (N + 1) k + F k (N + 1 - 1))
    rw [e1, e2, ih]
    grind
theorem cut_cut (A : Mt) {j k : Nat} (h : k < j) : cut (cut A k) (j - 1) = cut (cut A j) k := by
  funext i c
  unfold cut
  congr 1
  by_cases h1 : c < k
  · have a1 : sk (j - 1) c = c := by unfold sk; rw [if_pos (by omega)]
    have a2 : sk k c = c := by unfold sk; rw [if_pos h1]
    have a3 : sk j c = c := by unfold sk; rw [if_pos (by omega)]
    rw [a1, a2, a3]
  · have a2 : sk k c = c + 1 := by unfold sk; rw [if_neg h1]
    by_cases h2 : c < j - 1
    · have a1 : sk (j - 1) c = c := by unfold sk; rw [if_pos h2]
      have a3 : sk j (c + 1) = c + 1 := by unfold sk; rw [if_pos (by omega)]
      rw [a1, a2, a3]
    · have a1 : sk (j - 1) c = c + 1 := by unfold sk; rw [if_neg h2]
      have a3 : sk j (c + 1) = c + 2 := by unfold sk; rw [if_neg (by omega)]
      have a4 : sk k (c + 1) = c + 2 := by unfold sk; rw [if_neg (by omega)]
      rw [a1, a2, a3, a4]
def sw (A : Mt) (r : Nat) : Mt := fun i => A (if i = r then r + 1 else if i = r + 1 then r else i)
theorem det_two (m : Nat) (A : Mt) : det (m + 2) A = sm (m + 2) fun j => sm j fun k => psg j * psg k * (A 0 j * A 1 k - A 0 k * A 1 j) * det m (cut (cut A j) k) := by
  rw [det_succ]
  have e : ∀ j, psg j * A 0 j * det (m + 1) (cut A j) = sm (m + 1) fun k => psg j * A 0 j * (psg k * A 1 (sk j k) * det m (cut (cut A j) k)) := fun j => by
    rw [det_succ, sm_mul]; rfl
  rw [sm_congr fun j _ => e j, pairs (m + 1) fun j k => psg j * A 0 j * (psg k * A 1 (sk j k) * det m (cut (cut A j) k))]
  refine sm_congr fun j hj => sm_congr fun k hk => ?_
  rw [cut_cut A hk]
  have a1 : sk j k = k := by unfold sk; rw [if_pos hk]
  have a2 : sk k (j - 1) = j := by unfold sk; rw [if_neg (by omega)]; omega
  obtain ⟨i, rfl⟩ : ∃ i, j = i + 1 := ⟨j - 1, by omega⟩
  rw [a1, a2, psg_succ, Nat.add_sub_cancel]
  grind
theorem det_sw0 (m : Nat) (A : Mt) : det (m + 2) (sw A 0) = -det (m + 2) A := by
  rw [det_two, det_two, ← sm_neg]
  refine sm_congr fun j hj => ?_
  rw [← sm_neg]
  refine sm_congr fun k hk => ?_
  have e : cut (cut (sw A 0) j) k = cut (cut A j) k := by
    funext i c; simp [cut, sw]
  rw [e]
  show psg j * psg k * (A 1 j * A 0 k - A 1 k * A 0 j) * _ = _
  grind
theorem det_sw {n : Nat} : ∀ {A : Mt} {r : Nat}, r + 1 < n → det n (sw A r) = -det n A := by
  induction n with
  | zero => intro A r h; omega
  | succ n ih =>
    intro A r h
    cases r with
    | zero =>
      obtain ⟨m, rfl⟩ : ∃ m, n = m + 1 := ⟨n - 1, by omega⟩
      exact det_sw0 m A
    | succ r =>
      rw [det_succ, det_succ, ← sm_neg]
      refine sm_congr fun j hj => ?_
      have e : cut (sw A (r + 1)) j = sw (cut A j) r := by
        funext i c
        unfold cut sw
        congr 1
        simp only [Nat.add_right_cancel_iff]
        split
        · rfl
        · split <;> rfl
      rw [e, ih (by omega)]
      have e2 : sw A (r + 1) 0 j = A 0 j := by simp [sw]
      rw [e2]
      grind
theorem det_eq0 {n : Nat} : ∀ (s : Nat) {A : Mt}, s + 1 < n → (∀ c, c < n → A 0 c = A (s + 1) c) → det n A = 0 := by
  intro s
  induction s with
  | zero =>
    intro A h e
    have h1 := det_sw (A := A) (r := 0) h
    have h2 : det n (sw A 0) = det n A := det_congr fun i c hi hc => by
      unfold sw
      by_cases h0 : i = 0
      · subst h0; exact (e c hc).symm
      · rw [if_neg h0]
        by_cases h1 : i = 0 + 1
        · rw [if_pos h1]; subst h1; exact e c hc
        · rw [if_neg h1]
    rw [h2] at h1
    grind
  | succ s ih =>
    intro A h e
    have h1 := det_sw (A := A) (r := s + 1) h
    have h2 : det n (sw A (s + 1)) = 0 := ih (by omega) fun c hc => by
      have a1 : sw A (s + 1) 0 c = A 0 c := by simp [sw]
      have a2 : sw A (s + 1) (s + 1) c = A (s + 1 + 1) c := by simp [sw]
      rw [a1, a2]; exact e c hc
    rw [h2] at h1
    grind
theorem det_eq {n : Nat} : ∀ {A : Mt} {r s : Nat}, r < s → s < n → (∀ c, c < n → A r c = A s c) → det n A = 0 := by
  induction n with
  | zero => intro A r s _ h; omega
  | succ n ih =>
    intro A r s h1 h2 e
    cases r with
    | zero =>
      obtain ⟨t, rfl⟩ : ∃ t, s = t + 1 := ⟨s - 1, by omega⟩
      exact det_eq0 t h2 e
    | succ r =>
      obtain ⟨t, rfl⟩ : ∃ t, s = t + 1 := ⟨s - 1, by omega⟩
      rw [det_succ]
      refine sm_zero' fun j hj => ?_
      rw [ih (A := cut A j) (r := r) (s := t) (by omega) (by omega) fun c hc => e (sk j c) (sk_lt hc)]
      grind
theorem det_eq' {n : Nat} {A : Mt} {r s : Nat} (h : r ≠ s) (hr : r < n) (hs : s < n) (e : ∀ c, c < n → A r c = A s c) : det n A = 0 := by
  rcases Nat.lt_or_ge r s with h1 | h1
  · exact det_eq h1 hs e
  · exact det_eq (show s < r by omega) hr fun c hc => (e c hc).symm
theorem setr_self (A : Mt) (r : Nat) : setr A r (A r) = A := by
  funext i c; unfold setr; split
  · next h => rw [h]
  · rfl
theorem det_more {n : Nat} {A : Mt} {r s : Nat} (k : Rat) (h : r ≠ s) (hr : r < n) (hs : s < n) : det n (setr A r fun c => A r c + k * A s c) = det n A := by
  rw [det_lin (A r) (A s) k hr, setr_self]
  have e : det n (setr A r (A s)) = 0 := det_eq' h hr hs fun c _ => by
    simp only [setr, if_true]
    rw [if_neg (Ne.symm h)]
  rw [e]; grind
theorem det_scale {n : Nat} {A : Mt} {r : Nat} (k : Rat) (hr : r < n) : det n (setr A r fun c => k * A r c) = k * det n A := by
  have e1 := det_lin (A := A) (fun _ => 0) (A r) k hr
  have e2 := det_lin (A := A) (fun _ => 0) (fun _ => 0) 1 hr
  rw [setr_self] at e1
  rw [show (fun c => (0 : Rat) + k * A r c) = fun c => k * A r c from by funext c; grind] at e1
  rw [show (fun c : Nat => (0 : Rat) + 1 * 0) = fun _ => 0 from by funext c; grind] at e2
  rw [e1]; grind
theorem det_row0 {n : Nat} {A : Mt} {r : Nat} (hr : r < n) (h : ∀ c, c < n → A r c = 0) : det n A = 0 := by
  have e := det_scale (A := A) 0 hr
  rw [← det_congr (A := A) (B := setr A r fun c => 0 * A r c) fun i c hi hc => ?_] at e
  · rw [e]; grind
  · unfold setr
    split
    · next h1 => rw [h1, h c hc]; grind
    · rfl
def swp (A : Mt) (r s : Nat) : Mt := fun i => A (if i = r then s else if i = s then r else i)
theorem det_swp {n : Nat} {A : Mt} {r s : Nat} (h : r ≠ s) (hr : r < n) (hs : s < n) : det n (swp A r s) = -det n A := by
  have e1 := det_more (A := A) 1 h hr hs
  generalize hB : setr A r (fun c => A r c + 1 * A s c) = B at e1
  have e2 := det_more (A := B) (-1) (Ne.symm h) hs hr
  generalize hC : setr B s (fun c => B s c + -1 * B r c) = C at e2
  have e3 := det_more (A := C) 1 h hr hs
  generalize hD : setr C r (fun c => C r c + 1 * C s c) = D at e3
  have e4 := det_scale (A := D) (-1) hs
  have e5 : setr D s (fun c => -1 * D s c) = swp A r s := by
    subst hD; subst hC; subst hB
    funext i c
    unfold setr swp
    by_cases h1 : i = s
    · subst h1; simp [h, Ne.symm h]; grind
    · by_cases h2 : i = r
      · subst h2; simp [h, Ne.symm h]; grind
      · simp [h1, h2]
  rw [← e5, e4, e3, e2, e1]; grind
theorem det_id (n : Nat) : ∀ {A : Mt}, (∀ i c, i < n → c < n → A i c = if i = c then 1 else 0) → det n A = 1 := by
  induction n with
  | zero => intro A h; rfl
  | succ n ih =>
    intro A h
    rw [det_succ, sm_one (j := 0) (by omega) fun j hj hne => by rw [h 0 j (by omega) hj, if_neg (Ne.symm hne)]; grind]
    rw [h 0 0 (by omega) (by omega), if_pos rfl, ih fun i c hi hc => by
      show A (i + 1) (sk 0 c) = _
      rw [show sk 0 c = c + 1 from rfl, h (i + 1) (c + 1) (by omega) (by omega)]
      simp]
    unfold psg; simp
theorem det_int (n : Nat) : ∀ {A : Mt}, (∀ i c, i < n → c < n → ∃ z : Int, A i c = z) → ∃ z : Int, det n A = z := by
  induction n with
  | zero => intro A h; exact ⟨1, rfl⟩
  | succ n ih =>
    intro A h
    have hs : ∀ m f, (∀ j, j < m → ∃ z : Int, f j = (z : Rat)) → ∃ z : Int, sm m f = z := by
      intro m
      induction m with
      | zero => intro f _; exact ⟨0, rfl⟩
      | succ m ihm =>
        intro f hf
        obtain ⟨a, ha⟩ := ihm f fun j hj => hf j (by omega)
        obtain ⟨b, hb⟩ := hf m (by omega)
        exact ⟨a + b, by simp only [sm]; rw [ha, hb, Rat.intCast_add]⟩
    refine hs _ _ fun j hj => ?_
    obtain ⟨a, ha⟩ := h 0 j (by omega) hj
    obtain ⟨b, hb⟩ := ih (A := cut A j) fun i c hi hc => h (i + 1) (sk j c) (by omega) (sk_lt hc)
    rw [ha, hb]
    unfold psg
    split
    · exact ⟨a * b, by rw [Rat.intCast_mul]; grind⟩
    · exact ⟨-(a * b), by rw [Rat.intCast_neg, Rat.intCast_mul]; grind⟩
structure LinR (φ : (Nat → Rat) → Nat → Rat) : Prop where
  add : ∀ f g k c, φ (fun x => f x + k * g x) c = φ f c + k * φ g c
theorem LinR.zero {φ : (Nat → Rat) → Nat → Rat} (L : LinR φ) (c : Nat) : φ (fun _ => 0) c = 0 := by
  have h := L.add (fun _ => 0) (fun _ => 0) 1 c
  rw [show (fun x : Nat => (0 : Rat) + 1 * 0) = fun _ => 0 from by funext x; grind] at h
  grind
theorem LinR.mul {φ : (Nat → Rat) → Nat → Rat} (L : LinR φ) (f : Nat → Rat) (k : Rat) (c : Nat) : φ (fun x => k * f x) c = k * φ f c := by
  have h := L.add (fun _ => 0) f k c
  rw [show (fun x : Nat => (0 : Rat) + k * f x) = fun x => k * f x from by funext x; grind, L.zero] at h
  grind
end Go.S

end
section
set_option linter.unusedVariables false
set_option linter.unusedSimpArgs false
namespace Go.S
theorem setr_row (B : Mt) (r : Nat) (g : Nat → Rat) (i : Nat) : setr B r g i = if i = r then g else B i := by
  funext c; unfold setr; split <;> rfl
inductive Rop (n : Nat) : Mt → Mt → Rat → Prop
  | refl (A : Mt) : Rop n A A 1
  | scale {A B : Mt} {f : Rat} (r : Nat) (k : Rat) (hr : r < n) (hk : k ≠ 0) : Rop n A B f → Rop n A (setr B r fun x => k * B r x) (f * k⁻¹)
  | more {A B : Mt} {f : Rat} (r s : Nat) (k : Rat) (hr : r < n) (hs : s < n) (h : r ≠ s) : Rop n A B f → Rop n A (setr B r fun x => B r x + k * B s x) f
  | swap {A B : Mt} {f : Rat} (r s : Nat) (hr : r < n) (hs : s < n) (h : r ≠ s) : Rop n A B f → Rop n A (swp B r s) (-f)
theorem Rop.det {n : Nat} {A B : Mt} {f : Rat} (H : Rop n A B f) {φ : (Nat → Rat) → Nat → Rat} (L : LinR φ) : det n (fun i => φ (A i)) = f * det n (fun i => φ (B i)) := by
  induction H with
  | refl => grind
  | scale r k hr hk _ ih =>
    rename_i B f _
    have e : (fun i => φ (setr B r (fun x => k * B r x) i)) = setr (fun i => φ (B i)) r (fun c => k * φ (B r) c) := by
      funext i c
      rw [setr_row]
      unfold setr
      by_cases h : i = r
      · rw [if_pos h, if_pos h, L.mul]
      · rw [if_neg h, if_neg h]
    rw [e, det_scale (A := fun i => φ (B i)) k hr, ih]
    have : k⁻¹ * k = 1 := by rw [Rat.inv_mul_cancel _ hk]
    grind
  | more r s k hr hs h _ ih =>
    rename_i B f _
    have e : (fun i => φ (setr B r (fun x => B r x + k * B s x) i)) = setr (fun i => φ (B i)) r (fun c => φ (B r) c + k * φ (B s) c) := by
      funext i c
      rw [setr_row]
      unfold setr
      by_cases h : i = r
      · rw [if_pos h, if_pos h, L.add]
      · rw [if_neg h, if_neg h]
    rw [e, det_more (A := fun i => φ (B i)) k h hr hs, ih]
  | swap r s hr hs h _ ih =>
    rename_i B f _
    have e : (fun i => φ (swp B r s i)) = swp (fun i => φ (B i)) r s := rfl
    rw [e, det_swp (A := fun i => φ (B i)) h hr hs, ih]
    grind
theorem Rop.det1 {n : Nat} {A B : Mt} {f : Rat} (H : Rop n A B f) : Go.S.det n A = f * Go.S.det n B := H.det (φ := fun f => f) ⟨fun _ _ _ _ => rfl⟩
structure Sub (P : (Nat → Rat) → Prop) : Prop where
  more : ∀ f g k, P f → P g → P fun x => f x + k * g x
  scale : ∀ f k, P f → P fun x => k * f x
theorem Rop.sub {n : Nat} {A B : Mt} {f : Rat} (H : Rop n A B f) {P : (Nat → Rat) → Prop} (S : Sub P) : (∀ i, i < n → P (A i)) ↔ (∀ i, i < n → P (B i)) := by
  induction H with
  | refl => exact Iff.rfl
  | scale r k hr hk _ ih =>
    rename_i B f _
    rw [ih]
    constructor
    · intro h i hi
      rw [setr_row]
      split
      · exact S.scale _ _ (h r hr)
      · exact h i hi
    · intro h i hi
      have h1 := h i hi
      rw [setr_row] at h1
      by_cases e : i = r
      · rw [if_pos e] at h1
        have h2 := S.scale _ k⁻¹ h1
        have : k⁻¹ * k = 1 := by rw [Rat.inv_mul_cancel _ hk]
        rw [show (fun x => k⁻¹ * (k * B r x)) = B i from by funext x; rw [e]; grind] at h2
        exact h2
      · rw [if_neg e] at h1; exact h1
  | more r s k hr hs h _ ih =>
    rename_i B f _
    rw [ih]
    constructor
    · intro h i hi
      rw [setr_row]
      split
      · exact S.more _ _ _ (h r hr) (h s hs)
      · exact h i hi
    · intro h' i hi
      have h1 := h' i hi
      rw [setr_row] at h1
      by_cases e : i = r
      · rw [if_pos e] at h1
        have h3 := h' s hs
        rw [setr_row, if_neg (Ne.symm h)] at h3
        have h2 := S.more _ _ (-k) h1 h3
        rw [show (fun x => (B r x + k * B s x) + -k * B s x) = B i from by funext x; rw [e]; grind] at h2
        exact h2
      · rw [if_neg e] at h1; exact h1
  | swap r s hr hs h _ ih =>
    rename_i B f _
    rw [ih]
    constructor
    · intro h i hi
      unfold swp
      split
      · exact h s hs
      · split
        · exact h r hr
        · exact h i hi
    · intro h' i hi
      by_cases e : i = r
      · subst e; have := h' s hs; unfold swp at this; rwa [if_neg (Ne.symm h), if_pos rfl] at this
      · by_cases e2 : i = s
        · subst e2; have := h' r hr; unfold swp at this; rwa [if_pos rfl] at this
        · have := h' i hi; unfold swp at this; rwa [if_neg e, if_neg e2] at this
def fndF (A : Mt) (j : Nat) : Nat → Nat → Nat
  | 0, a => a
  | d + 1, a => if A a j = 0 then fndF A j d (a + 1) else a
def fnd (n : Nat) (A : Mt) (j a : Nat) : Nat := fndF A j (n - a) a
theorem fndF_spec (A : Mt) (j : Nat) : ∀ d a, a ≤ fndF A j d a ∧ fndF A j d a ≤ a + d ∧ (∀ i, a ≤ i → i < fndF A j d a → A i j = 0) ∧ (fndF A j d a < a + d → A (fndF A j d a) j ≠ 0) := by
  intro d
  induction d with
  | zero => intro a; exact ⟨Nat.le_refl _, Nat.le_refl _, fun i h1 h2 => by simp only [fndF] at h2; omega, fun h => by simp only [fndF] at h; omega⟩
  | succ d ih =>
    intro a
    simp only [fndF]
    by_cases h : A a j = 0
    · rw [if_pos h]
      obtain ⟨h1, h2, h3, h4⟩ := ih (a + 1)
      refine ⟨by omega, by omega, fun i hi hi2 => ?_, fun hlt => h4 (by omega)⟩
      by_cases e : i = a
      · rw [e]; exact h
      · exact h3 i (by omega) hi2
    · rw [if_neg h]
      exact ⟨Nat.le_refl _, by omega, fun i h1 h2 => by omega, fun _ => h⟩
theorem fnd_spec {n : Nat} {A : Mt} {j a : Nat} (h : a ≤ n) : a ≤ fnd n A j a ∧ fnd n A j a ≤ n ∧ (∀ i, a ≤ i → i < fnd n A j a → A i j = 0) ∧ (fnd n A j a < n → A (fnd n A j a) j ≠ 0) := by
  obtain ⟨h1, h2, h3, h4⟩ := fndF_spec A j (n - a) a
  exact ⟨h1, by unfold fnd; omega, h3, fun hlt => h4 (by unfold fnd at hlt; omega)⟩
def elimTo (A : Mt) (a j i : Nat) : Mt := fun r x => if r < i ∧ r ≠ a then A r x - A r j * A a x else A r x
theorem elimTo_zero (A : Mt) (a j : Nat) : elimTo A a j 0 = A := by funext r x; simp [elimTo]
theorem elimTo_self (A : Mt) (a j : Nat) : elimTo A a j (a + 1) = elimTo A a j a := by
  funext r x
  unfold elimTo
  by_cases h : r < a
  · rw [if_pos (show r < a + 1 ∧ r ≠ a by omega), if_pos (show r < a ∧ r ≠ a by omega)]
  · rw [if_neg (show ¬ (r < a ∧ r ≠ a) by omega), if_neg (by omega)]
theorem elimTo_succ (A : Mt) {a j i : Nat} (h : i ≠ a) : elimTo A a j (i + 1) = setr (elimTo A a j i) i fun x => elimTo A a j i i x + -(A i j) * elimTo A a j i a x := by
  funext r x
  unfold setr
  by_cases e : r = i
  · subst e
    rw [if_pos rfl]
    unfold elimTo
    rw [if_pos (show r < r + 1 ∧ r ≠ a by omega)]
    show _ = (if r < r ∧ r ≠ a then _ else _) + -A r j * (if a < r ∧ a ≠ a then _ else _)
    rw [if_neg (by omega), if_neg (by omega)]
    grind
  · rw [if_neg e]
    unfold elimTo
    by_cases h1 : r < i ∧ r ≠ a
    · rw [if_pos h1, if_pos ⟨by omega, h1.2⟩]
    · rw [if_neg h1, if_neg (by omega)]
theorem elimTo_at (A : Mt) (a j i : Nat) : elimTo A a j i a = A a := by funext x; unfold elimTo; rw [if_neg (by omega)]
theorem Rop.elim {n : Nat} {A B : Mt} {f : Rat} (H : Rop n A B f) {a j : Nat} (ha : a < n) : ∀ i, i ≤ n → Rop n A (elimTo B a j i) f := by
  intro i
  induction i with
  | zero => intro _; rw [elimTo_zero]; exact H
  | succ i ih =>
    intro hi
    by_cases e : i = a
    · subst e; rw [elimTo_self]; exact ih (by omega)
    · rw [elimTo_succ _ e]
      exact .more i a _ (by omega) ha e (ih (by omega))
theorem swp_self (A : Mt) (a : Nat) : swp A a a = A := by
  funext i; unfold swp; congr 1; split
  · next h => exact h.symm
  · rfl
def pivR (A : Mt) (a k j : Nat) : Mt := setr (swp A a k) a fun x => (A k j)⁻¹ * A k x
def gstep (n j : Nat) (s : Mt × List Nat × Rat) : Mt × List Nat × Rat :=
  if fnd n s.1 j s.2.1.length = n then s else
    (elimTo (pivR s.1 s.2.1.length (fnd n s.1 j s.2.1.length) j) s.2.1.length j n, s.2.1 ++ [j], (if s.2.1.length = fnd n s.1 j s.2.1.length then s.2.2 else -s.2.2) * s.1 (fnd n s.1 j s.2.1.length) j)
def grun (n : Nat) (A : Mt) : Nat → Mt × List Nat × Rat
  | 0 => (A, [], 1)
  | j + 1 => gstep n j (grun n A j)
theorem Rop.gstep {n j : Nat} {A : Mt} {s : Mt × List Nat × Rat} (H : Rop n A s.1 s.2.2) (h : s.2.1.length ≤ n) : Rop n A (Go.S.gstep n j s).1 (Go.S.gstep n j s).2.2 := by
  unfold Go.S.gstep
  obtain ⟨g1, g2, g3, g4⟩ := fnd_spec (n := n) (A := s.1) (j := j) (a := s.2.1.length) h
  generalize fnd n s.1 j s.2.1.length = k at *
  split
  · exact H
  · next hk =>
    have hk2 : k < n := by omega
    have hp := g4 hk2
    generalize s.2.1.length = a at *
    refine Rop.elim ?_ (by omega) n (Nat.le_refl _)
    have h1 : Rop n A (swp s.1 a k) (if a = k then s.2.2 else -s.2.2) := by
      by_cases e : a = k
      · subst e; rw [swp_self, if_pos rfl]; exact H
      · rw [if_neg e]; exact .swap a k (by omega) hk2 e H
    have h2 := Rop.scale a (s.1 k j)⁻¹ (by omega) (by
      intro e
      have := Rat.mul_inv_cancel _ hp
      rw [e] at this
      grind) h1
    rw [Rat.inv_inv] at h2
    have e : swp s.1 a k a = s.1 k := by unfold swp; rw [if_pos rfl]
    rw [e] at h2
    exact h2
structure RR (n j : Nat) (A : Mt) (piv : List Nat) : Prop where
  le : piv.length ≤ n
  lt : ∀ i, i < piv.length → piv.getD i default < j
  one : ∀ i, i < piv.length → A i (piv.getD i default) = 1
  col : ∀ i, i < piv.length → ∀ r, r < n → r ≠ i → A r (piv.getD i default) = 0
  ahead : ∀ i, i < piv.length → ∀ x, x < piv.getD i default → A i x = 0
  rest : ∀ r, piv.length ≤ r → r < n → ∀ x, x < j → A r x = 0
  mono : ∀ i i', i < i' → i' < piv.length → piv.getD i default < piv.getD i' default
theorem RR.nil (n : Nat) (A : Mt) : RR n 0 A [] := ⟨Nat.zero_le _, fun i h => by simp at h, fun i h => by simp at h, fun i h => by simp at h, fun i h => by simp at h, fun r _ _ x h => by omega, fun i i' _ h => by simp at h⟩
theorem snoc_lt {l : List Nat} {x i : Nat} (h : i < l.length) : (l ++ [x]).getD i default = l.getD i default := by simp [List.getD, List.getElem?_append_left h]
theorem snoc_at {l : List Nat} {x : Nat} : (l ++ [x]).getD l.length default = x := by simp [List.getD]
theorem RR.step {n j : Nat} {A : Mt} {piv : List Nat} {d : Rat} (H : RR n j A piv) : RR n (j + 1) (gstep n j (A, piv, d)).1 (gstep n j (A, piv, d)).2.1 := by
  unfold gstep
  obtain ⟨g1, g2, g3, g4⟩ := fnd_spec (n := n) (A := A) (j := j) (a := piv.length) H.le
  simp only
  generalize fnd n A j piv.length = k at *
  split
  · next hk =>
    subst hk
    refine ⟨H.le, fun i hi => Nat.lt_succ_of_lt (H.lt i hi), H.one, H.col, H.ahead, fun r h1 h2 x hx => ?_, H.mono⟩
    by_cases e : x = j
    · rw [e]; exact g3 r h1 h2
    · exact H.rest r h1 h2 x (by omega)
  · next hk =>
    have hk2 : k < n := by omega
    have hp := g4 hk2
    simp only
    have hpi : (A k j)⁻¹ * A k j = 1 := Rat.inv_mul_cancel _ hp
    have z0 : ∀ x, x < j → A k x = 0 := fun x hx => H.rest k g1 hk2 x hx
    have va : ∀ x, elimTo (pivR A piv.length k j) piv.length j n piv.length x = (A k j)⁻¹ * A k x := fun x => by
      rw [elimTo_at]; simp [pivR, setr]
    have vr : ∀ r, r < n → r ≠ piv.length → ∀ x, elimTo (pivR A piv.length k j) piv.length j n r x = swp A piv.length k r x - swp A piv.length k r j * ((A k j)⁻¹ * A k x) := fun r hr hne x => by
      unfold elimTo
      rw [if_pos ⟨hr, hne⟩]
      simp [pivR, setr, hne]
    generalize elimTo (pivR A piv.length k j) piv.length j n = D at *
    have sr : ∀ r, r < n → r ≠ piv.length → ∃ r', r' < n ∧ swp A piv.length k r = A r' ∧ (r < piv.length → r' = r) ∧ (piv.length ≤ r → piv.length ≤ r') ∧ ∀ i, i < piv.length → r ≠ i → r' ≠ i := fun r hr hne => by
      unfold swp
      rw [if_neg hne]
      by_cases e : r = k
      · rw [if_pos e]; exact ⟨piv.length, by omega, rfl, fun h => by omega, fun _ => Nat.le_refl _, fun i hi _ => by omega⟩
      · rw [if_neg e]; exact ⟨r, hr, rfl, fun _ => rfl, fun h => h, fun i _ h => h⟩
    have low : ∀ r, r < n → r ≠ piv.length → ∀ x, x < j → D r x = swp A piv.length k r x := fun r hr hne x hx => by
      rw [vr r hr hne x, z0 x hx]; grind
    have lowa : ∀ x, x < j → D piv.length x = 0 := fun x hx => by rw [va, z0 x hx]; grind
    refine ⟨by simp; omega, ?_, ?_, ?_, ?_, ?_, ?_⟩
    · intro i hi
      by_cases e : i < piv.length
      · rw [snoc_lt e]; have := H.lt i e; omega
      · have : i = piv.length := by simp at hi; omega
        subst this; rw [snoc_at]; omega
    · intro i hi
      by_cases e : i < piv.length
      · rw [snoc_lt e, low i (by have := H.le; omega) (by omega) _ (H.lt i e)]
        obtain ⟨r', _, h2, h3, _, _⟩ := sr i (by have := H.le; omega) (by omega)
        rw [h2, h3 e]; exact H.one i e
      · have : i = piv.length := by simp at hi; omega
        subst this; rw [snoc_at, va, hpi]
    · intro i hi r hr hne
      by_cases e : i < piv.length
      · rw [snoc_lt e]
        by_cases e2 : r = piv.length
        · rw [e2]; exact lowa _ (H.lt i e)
        · rw [low r hr e2 _ (H.lt i e)]
          obtain ⟨r', h1, h2, _, _, h5⟩ := sr r hr e2
          rw [h2]; exact H.col i e r' h1 (h5 i e hne)
      · have : i = piv.length := by simp at hi; omega
        subst this; rw [snoc_at, vr r hr hne, hpi]; grind
    · intro i hi x hx
      by_cases e : i < piv.length
      · rw [snoc_lt e] at hx
        have := H.lt i e
        rw [low i (by have := H.le; omega) (by omega) x (by omega)]
        obtain ⟨r', _, h2, h3, _, _⟩ := sr i (by have := H.le; omega) (by omega)
        rw [h2, h3 e]; exact H.ahead i e x hx
      · have : i = piv.length := by simp at hi; omega
        subst this; rw [snoc_at] at hx; exact lowa x hx
    · intro r h1 h2 x hx
      simp at h1
      by_cases e : x = j
      · rw [e, vr r h2 (by omega), hpi]; grind
      · rw [low r h2 (by omega) x (by omega)]
        obtain ⟨r', q1, q2, _, q4, _⟩ := sr r h2 (by omega)
        rw [q2]; exact H.rest r' (q4 (by omega)) q1 x (by omega)
    · intro i i' h1 h2
      simp at h2
      by_cases e : i' < piv.length
      · rw [snoc_lt e, snoc_lt (by omega)]; exact H.mono i i' h1 e
      · have : i' = piv.length := by omega
        subst this; rw [snoc_at, snoc_lt h1]; exact H.lt i h1
theorem grun_RR (n : Nat) (A : Mt) : ∀ j, RR n j (grun n A j).1 (grun n A j).2.1 := by
  intro j
  induction j with
  | zero => exact RR.nil n A
  | succ j ih => exact RR.step (d := (grun n A j).2.2) ih
theorem grun_Rop (n : Nat) (A : Mt) : ∀ j, Rop n A (grun n A j).1 (grun n A j).2.2 := by
  intro j
  induction j with
  | zero => exact .refl A
  | succ j ih => exact Rop.gstep ih (grun_RR n A j).le
end Go.S

end
section
set_option linter.unusedVariables false
set_option linter.unusedSimpArgs false
namespace Go.S
def rowf (c : Nat) (f : Nat → Rat) : List Rat := (List.range c).map f
def tab (n c : Nat) (A : Mt) : List (List Rat) := (List.range n).map fun i => rowf c (A i)
def mm (m : Nat) (A B : Mt) : Mt := fun i j => sm m fun k => A i k * B k j
def idm : Mt := fun i j => if i = j then 1 else 0
theorem mm_one_r {m : Nat} {A : Mt} {j : Nat} (i : Nat) (h : j < m) : mm m A idm i j = A i j := by
  unfold mm idm
  rw [sm_one h fun k hk hne => by rw [if_neg hne]; grind, if_pos rfl]; grind
end Go.S

end
section
set_option linter.unusedVariables false
set_option linter.unusedSimpArgs false
namespace Go.S
theorem piv_ge {n j : Nat} {S : Mt} {piv : List Nat} (H : RR n j S piv) : ∀ i, i < piv.length → i ≤ piv.getD i default := by
  intro i
  induction i with
  | zero => intro _; exact Nat.zero_le _
  | succ i ih =>
    intro h
    have := ih (by omega)
    have := H.mono i (i + 1) (by omega) h
    omega
theorem piv_le {n : Nat} {S : Mt} {piv : List Nat} (H : RR n n S piv) (hl : piv.length = n) : ∀ d i, i + d + 1 = n → piv.getD i default ≤ i := by
  intro d
  induction d with
  | zero =>
    intro i h
    have := H.lt i (by omega)
    omega
  | succ d ih =>
    intro i h
    have h1 := ih (i + 1) (by omega)
    have h2 := H.mono i (i + 1) (by omega) (by omega)
    omega
theorem full_id {n : Nat} {S : Mt} {piv : List Nat} (H : RR n n S piv) (hl : piv.length = n) : ∀ i c, i < n → c < n → S i c = if i = c then 1 else 0 := by
  have hp : ∀ i, i < n → piv.getD i default = i := fun i hi => by
    have h1 := piv_ge H i (by omega)
    have h2 := piv_le H hl (n - 1 - i) i (by omega)
    omega
  intro i c hi hc
  have e := hp c hc
  by_cases h : i = c
  · subst h
    have := H.one i (by omega)
    rw [e] at this
    rw [if_pos rfl, this]
  · have := H.col c (by omega) i hi h
    rw [e] at this
    rw [if_neg h, this]
def gdet (n : Nat) (A : Mt) : Rat := if (grun n A n).2.1.length < n then 0 else (grun n A n).2.2
theorem det_mm {n : Nat} {A B : Mt} : det n (mm n A B) = gdet n A * det n B := by
  have H := grun_RR n A n
  have R := grun_Rop n A n
  unfold gdet
  generalize (grun n A n).2.2 = d at *
  generalize (grun n A n).1 = S at *
  generalize (grun n A n).2.1 = piv at *
  have L : LinR (fun (f : Nat → Rat) (j : Nat) => sm n fun k => f k * B k j) := ⟨fun f g k c => by
    show sm n (fun x => (f x + k * g x) * B x c) = sm n (fun x => f x * B x c) + k * sm n (fun x => g x * B x c)
    rw [← sm_mul, ← sm_add]
    exact sm_congr fun x _ => by grind⟩
  have h1 : det n (mm n A B) = d * det n (mm n S B) := R.det L
  rw [h1]
  by_cases hl : piv.length < n
  · rw [if_pos hl]
    have : det n (mm n S B) = 0 := det_row0 (r := piv.length) hl fun c hc => sm_zero' fun k hk => by
      rw [H.rest piv.length (Nat.le_refl _) hl k hk]; grind
    rw [this]; grind
  · rw [if_neg hl]
    have hl2 : piv.length = n := by have := H.le; omega
    have hS := full_id H hl2
    have : det n (mm n S B) = det n B := det_congr fun i c hi hc => by
      unfold mm
      rw [sm_one hi fun k hk hne => by rw [hS i k hi hk, if_neg (Ne.symm hne)]; grind, hS i i hi hi, if_pos rfl]; grind
    rw [this]
theorem det_gdet (n : Nat) (A : Mt) : det n A = gdet n A := by
  have h := det_mm (n := n) (A := A) (B := idm)
  have h1 : det n (mm n A idm) = det n A := det_congr fun i c hi hc => mm_one_r i hc
  have h2 : det n idm = 1 := det_id n fun i c hi hc => rfl
  rw [h1, h2] at h
  rw [h]; grind
end Go.S

end
section
set_option linter.unusedVariables false
set_option linter.unusedSimpArgs false
namespace Go.S
theorem det_last {n : Nat} : ∀ {A : Mt}, (∀ c, c < n → A n c = 0) → det (n + 1) A = A n n * det n A := by
  induction n with
  | zero =>
    intro A _
    show 0 + psg 0 * A 0 0 * 1 = A 0 0 * 1
    rw [show psg 0 = 1 from rfl]; grind
  | succ n ih =>
    intro A h
    rw [det_succ (n + 1) A, det_succ n A, ← sm_mul]
    show sm (n + 1) _ + psg (n + 1) * A 0 (n + 1) * det (n + 1) (cut A (n + 1)) = _
    have z : det (n + 1) (cut A (n + 1)) = 0 := det_row0 (r := n) (by omega) fun c hc => by
      show A (n + 1) (sk (n + 1) c) = 0
      rw [show sk (n + 1) c = c from by unfold sk; rw [if_pos (by omega)]]
      exact h c (by omega)
    have e : sm (n + 1) (fun j => psg j * A 0 j * det (n + 1) (cut A j)) = sm (n + 1) fun j => A (n + 1) (n + 1) * (psg j * A 0 j * det n (cut A j)) := sm_congr fun j hj => by
      have hi := ih (A := cut A j) fun c hc => by
        show A (n + 1) (sk j c) = 0
        exact h _ (by unfold sk; split <;> omega)
      have : cut A j n n = A (n + 1) (n + 1) := by
        show A (n + 1) (sk j n) = _
        rw [show sk j n = n + 1 from by unfold sk; rw [if_neg (by omega)]]
      rw [hi, this]; grind
    rw [e, z]; grind
theorem det_lastc {n : Nat} : ∀ {A : Mt}, (∀ r, r < n → A r n = 0) → det (n + 1) A = A n n * det n A := by
  induction n with
  | zero =>
    intro A _
    show 0 + psg 0 * A 0 0 * 1 = A 0 0 * 1
    rw [show psg 0 = 1 from rfl]; grind
  | succ n ih =>
    intro A h
    rw [det_succ (n + 1) A, det_succ n A, ← sm_mul]
    show sm (n + 1) _ + psg (n + 1) * A 0 (n + 1) * det (n + 1) (cut A (n + 1)) = _
    have e : sm (n + 1) (fun j => psg j * A 0 j * det (n + 1) (cut A j)) = sm (n + 1) fun j => A (n + 1) (n + 1) * (psg j * A 0 j * det n (cut A j)) := sm_congr fun j hj => by
      have sn : sk j n = n + 1 := by unfold sk; rw [if_neg (by omega)]
      have hi := ih (A := cut A j) fun r hr => by
        show A (r + 1) (sk j n) = 0
        rw [sn]; exact h _ (by omega)
      have : cut A j n n = A (n + 1) (n + 1) := by
        show A (n + 1) (sk j n) = _
        rw [sn]
      rw [hi, this]; grind
    rw [e, h 0 (by omega)]; grind
theorem det_zeros {n : Nat} : ∀ {A : Mt} {k : Nat}, k < n → (∀ i c, k ≤ i → i < n → c ≤ k → A i c = 0) → det n A = 0 := by
  induction n with
  | zero => intro A k h; omega
  | succ n ih =>
    intro A k hk h
    rw [det_succ]
    refine sm_zero' fun j hj => ?_
    cases k with
    | zero =>
      cases j with
      | zero => rw [h 0 0 (by omega) (by omega) (by omega)]; grind
      | succ j =>
        rw [ih (A := cut A (j + 1)) (k := 0) (by omega) fun i c _ hi hc => ?_]
        · grind
        · obtain rfl : c = 0 := by omega
          show A (i + 1) (sk (j + 1) 0) = 0
          exact h (i + 1) 0 (by omega) (by omega) (by omega)
    | succ k =>
      rw [ih (A := cut A j) (k := k) (by omega) fun i c hi hi2 hc => ?_]
      · grind
      · show A (i + 1) (sk j c) = 0
        exact h (i + 1) _ (by omega) (by omega) (by unfold sk; split <;> omega)
def rpl (i j : Nat) : Nat → Nat := fun c => if c = i then j else c
theorem det_idcol {k i j : Nat} {H : Mt} (hi : i < k) (h : ∀ r c, r < k → c < k → H r c = if r = c then 1 else 0) : det k (fun r c => H r (rpl i j c)) = H i j := by
  have e1 := det_scale (n := k) (A := setr (fun r c => H r (rpl i j c)) i fun c => if c = i then 1 else 0) (r := i) (H i j) hi
  have e2 : det k (setr (setr (fun r c => H r (rpl i j c)) i fun c => if c = i then 1 else 0) i fun c => H i j * setr (fun r c => H r (rpl i j c)) i (fun c => if c = i then 1 else 0) i c) = det k (fun r c => H r (rpl i j c)) := by
    refine det_congr fun r c hr hc => ?_
    by_cases hri : r = i
    · subst hri
      simp only [setr, if_true, rpl]
      by_cases hc2 : c = r
      · simp only [hc2, if_true]; grind
      · simp only [hc2, if_false]; rw [h r c hr hc, if_neg (Ne.symm hc2)]; grind
    · simp only [setr, hri, if_false]
  rw [e2] at e1
  rw [e1]
  generalize hB : setr (fun r c => H r (rpl i j c)) i (fun c => if c = i then 1 else 0) = B
  have e3 := (Rop.refl (n := k) B).elim (j := i) hi k (Nat.le_refl k)
  rw [e3.det1, det_id k fun r c hr hc => ?_]
  · grind
  · subst hB
    by_cases hri : r = i
    · subst hri
      simp only [elimTo, setr, if_true, hr, ne_eq, not_true_eq_false, and_false, if_false]
      by_cases hc2 : c = r
      · rw [if_pos hc2, if_pos hc2.symm]
      · rw [if_neg hc2, if_neg (Ne.symm hc2)]
    · simp only [elimTo, setr, hr, hri, ne_eq, not_false_eq_true, and_self, if_true, if_false, rpl]
      by_cases hc2 : c = i
      · subst hc2
        simp only [if_true, if_neg hri]
        grind
      · simp only [hc2, if_false]
        rw [h r c hr hc]
        grind
structure BI (n k : Nat) (A M : Mt) (pv : Rat) : Prop where
  nz : pv ≠ 0
  d : det k A = pv
  id : ∀ i c, i < n → c < k → M i c = if i = c then pv else 0
  c : ∀ l j, l < n → A l j = sm k (fun i => A l i * (M i j / pv)) + (if k ≤ l then M l j / pv else 0)
theorem BI.init (n : Nat) (A : Mt) : BI n 0 A A 1 := ⟨by decide, rfl, fun i c _ h => by omega, fun l j _ => by
  rw [if_pos (Nat.zero_le _)]
  show A l j = 0 + A l j / 1
  grind⟩
theorem BI.hid {n k : Nat} {A M : Mt} {pv : Rat} (H : BI n k A M pv) {i c : Nat} (hi : i < n) (hc : c < k) : M i c / pv = if i = c then 1 else 0 := by
  have h1 := H.nz
  rw [H.id i c hi hc]
  split <;> grind
theorem BI.low {n k : Nat} {A M : Mt} {pv : Rat} (H : BI n k A M pv) (hk : k ≤ n) {i : Nat} (hi : i < n) (hik : k ≤ i) (j : Nat) :
    det (k + 1) (fun r c => A (if r < k then r else i) (if c < k then c else j)) = M i j := by
  have e : det (k + 1) (fun r c => A (if r < k then r else i) (if c < k then c else j)) = det (k + 1) (mm (k + 1) (fun r m => if m < k then A (if r < k then r else i) m else if r = k then 1 else 0) fun m c => M (if m < k then m else i) (if c < k then c else j) / pv) := by
    refine det_congr fun r c hr hc => ?_
    have hl : (if r < k then r else i) < n := by split <;> omega
    rw [H.c _ _ hl]
    show _ = sm k (fun m => (if m < k then A (if r < k then r else i) m else if r = k then 1 else 0) * (M (if m < k then m else i) (if c < k then c else j) / pv)) + (if k < k then A (if r < k then r else i) k else if r = k then 1 else 0) * (M (if k < k then k else i) (if c < k then c else j) / pv)
    congr 1
    · refine sm_congr fun m hm => ?_
      rw [if_pos hm, if_pos hm]
    · rw [if_neg (Nat.lt_irrefl k), if_neg (Nat.lt_irrefl k)]
      by_cases h : r < k
      · rw [if_pos h, if_neg (by omega : ¬ k ≤ r), if_neg (by omega : ¬ r = k)]; grind
      · rw [if_neg h, if_pos hik, if_pos (by omega : r = k)]; grind
  rw [e, det_mm, ← det_gdet, det_lastc fun r hr => by rw [if_neg (Nat.lt_irrefl k), if_neg (by omega)]]
  rw [if_neg (Nat.lt_irrefl k), if_pos rfl, det_last fun c hc => by
    show M (if k < k then k else i) (if c < k then c else j) / pv = 0
    rw [if_neg (Nat.lt_irrefl k), if_pos hc, H.hid hi hc, if_neg (by omega)]]
  have d1 : det k (fun r m => if m < k then A (if r < k then r else i) m else if r = k then 1 else 0) = pv := by
    rw [← H.d]
    exact det_congr fun r c hr hc => by rw [if_pos hc, if_pos hr]
  have d2 : det k (fun m c => M (if m < k then m else i) (if c < k then c else j) / pv) = 1 := det_id k fun r c hr hc => by
    rw [if_pos hr, if_pos hc, H.hid (by omega) hc]
  rw [if_neg (Nat.lt_irrefl k), if_neg (Nat.lt_irrefl k), d1, d2]
  have := H.nz
  grind
theorem BI.high {n k : Nat} {A M : Mt} {pv : Rat} (H : BI n k A M pv) (hk : k ≤ n) {i : Nat} (hi : i < k) (j : Nat) :
    det k (fun r c => A r (rpl i j c)) = M i j := by
  have e : det k (fun r c => A r (rpl i j c)) = det k (mm k A fun m c => M m (rpl i j c) / pv) := by
    refine det_congr fun r c hr hc => ?_
    rw [H.c _ _ (by omega), if_neg (by omega)]
    unfold mm
    grind
  rw [e, det_mm, ← det_gdet, det_idcol (H := fun m c => M m c / pv) hi fun r c hr hc => H.hid (by omega) hc, H.d]
  have := H.nz
  grind
def bstp (k : Nat) (M : Mt) (pv : Rat) : Mt := fun i j => if i = k then M k j else (M k k * M i j - M i k * M k j) / pv
theorem BI.step {n k : Nat} {A M : Mt} {pv : Rat} (H : BI n k A M pv) (hk : k < n) (hp : M k k ≠ 0) : BI n (k + 1) A (bstp k M pv) (M k k) := by
  have hv := H.nz
  refine ⟨hp, ?_, fun i c hi hc => ?_, fun l j hl => ?_⟩
  · rw [← H.low (by omega) hk (Nat.le_refl k) k]
    refine det_congr fun r c hr hc => ?_
    have e1 : (if r < k then r else k) = r := by split <;> omega
    have e2 : (if c < k then c else k) = c := by split <;> omega
    rw [e1, e2]
  · unfold bstp
    by_cases hik : i = k
    · subst hik
      rw [if_pos rfl]
      by_cases hc2 : i = c
      · subst hc2; rw [if_pos rfl]
      · rw [if_neg hc2, H.id i c hi (by omega), if_neg hc2]
    · rw [if_neg hik]
      by_cases hc2 : c = k
      · subst hc2; rw [if_neg hik]; grind
      · rw [H.id i c hi (by omega), H.id k c hk (by omega), if_neg (by omega : ¬ k = c)]
        split <;> grind
  · have a1 := H.c l j hl
    have a2 := H.c l k hl
    have e1 : sm k (fun i => A l i * (bstp k M pv i j / M k k)) = sm k (fun i => A l i * (M i j / pv)) + -(M k j / M k k) * sm k (fun i => A l i * (M i k / pv)) := by
      rw [← sm_mul, ← sm_add]
      refine sm_congr fun i hi => ?_
      unfold bstp
      rw [if_neg (by omega)]
      grind
    have e2 : bstp k M pv k j = M k j := by unfold bstp; rw [if_pos rfl]
    show A l j = sm k _ + A l k * (bstp k M pv k j / M k k) + _
    rw [e1, e2]
    generalize sm k (fun i => A l i * (M i j / pv)) = S1 at *
    generalize sm k (fun i => A l i * (M i k / pv)) = S2 at *
    rcases Nat.lt_trichotomy l k with h | h | h
    · rw [if_neg (by omega)] at a1 a2
      rw [if_neg (by omega), a1, a2]
      grind
    · subst h
      rw [if_pos (Nat.le_refl _)] at a1 a2
      rw [if_neg (by omega), a1, a2]
      grind
    · rw [if_pos (by omega)] at a1 a2
      rw [if_pos (by omega), a1, a2]
      unfold bstp
      rw [if_neg (by omega)]
      grind
theorem BI.swp {n k : Nat} {A M : Mt} {pv : Rat} (H : BI n k A M pv) {r s : Nat} (hr : k ≤ r) (hr2 : r < n) (hs : k ≤ s) (hs2 : s < n) : BI n k (swp A r s) (swp M r s) pv := by
  have hk : ∀ B : Mt, ∀ i, i < k → Go.S.swp B r s i = B i := fun B i hi => by
    unfold Go.S.swp
    rw [if_neg (by omega), if_neg (by omega)]
  refine ⟨H.nz, ?_, fun i c hi hc => ?_, fun l j hl => ?_⟩
  · rw [← H.d]
    exact det_congr fun i c hi hc => by rw [hk A i hi]
  · by_cases hik : i < k
    · rw [hk M i hik, H.id i c hi hc]
    · unfold Go.S.swp
      rw [H.id _ c (by split <;> (try split) <;> omega) hc, if_neg (by split <;> (try split) <;> omega), if_neg (by omega)]
  · rw [sm_congr (g := fun i => Go.S.swp A r s l i * (M i j / pv)) fun i hi => by rw [hk M i hi]]
    unfold Go.S.swp
    rw [H.c _ j (by split <;> (try split) <;> omega)]
    congr 1
    by_cases hik : k ≤ l
    · rw [if_pos hik, if_pos (by split <;> (try split) <;> omega)]
    · rw [if_neg hik, if_neg (by split <;> (try split) <;> omega)]
theorem BI.none {n k : Nat} {A M : Mt} {pv : Rat} (H : BI n k A M pv) (hk : k < n) (h : ∀ i, k ≤ i → i < n → M i k = 0) : det n A = 0 := by
  have e : det n A = det n (mm n (fun l i => if i < k then A l i else if i = l then 1 else 0) fun i j => M i j / pv) := by
    refine det_congr fun l j hl hj => ?_
    rw [H.c l j hl]
    unfold mm
    have key : ∀ d, k + d ≤ n → sm (k + d) (fun i => (if i < k then A l i else if i = l then 1 else 0) * (M i j / pv)) = sm k (fun i => A l i * (M i j / pv)) + if k ≤ l ∧ l < k + d then M l j / pv else 0 := by
      intro d
      induction d with
      | zero =>
        intro _
        rw [if_neg (by omega), Nat.add_zero, sm_congr (g := fun i => A l i * (M i j / pv)) fun i hi => by rw [if_pos hi]]
        grind
      | succ d ih =>
        intro hd
        show sm (k + d) _ + (if k + d < k then A l (k + d) else if k + d = l then 1 else 0) * (M (k + d) j / pv) = _
        rw [ih (by omega), if_neg (by omega : ¬ k + d < k)]
        by_cases h1 : k + d = l
        · rw [if_pos h1, if_neg (by omega), if_pos (by omega), h1]; grind
        · rw [if_neg h1]
          by_cases h2 : k ≤ l ∧ l < k + d
          · rw [if_pos h2, if_pos (by omega)]; grind
          · rw [if_neg h2, if_neg (by omega)]; grind
    have := key (n - k) (by omega)
    rw [show k + (n - k) = n by omega] at this
    rw [this]
    congr 1
    by_cases h1 : k ≤ l
    · rw [if_pos h1, if_pos ⟨h1, hl⟩]
    · rw [if_neg h1, if_neg (by omega)]
  rw [e, det_mm, det_zeros (k := k) hk fun i c hi hi2 hc => by
    by_cases h1 : c = k
    · rw [h1, h i hi hi2]; grind
    · rw [H.hid hi2 (by omega), if_neg (by omega)]]
  grind
def isI (x : Rat) : Prop := ∃ z : Int, x = z
theorem BI.int {n k : Nat} {A M : Mt} {pv : Rat} (H : BI n k A M pv) (hk : k ≤ n) (h : ∀ i, i < n → ∀ j, isI (A i j)) {i : Nat} (hi : i < n) (j : Nat) : isI (M i j) := by
  by_cases hik : k ≤ i
  · rw [← H.low hk hi hik j]
    exact det_int _ fun r c hr hc => h _ (by split <;> omega) _
  · rw [← H.high hk (by omega) j]
    exact det_int _ fun r c hr hc => h _ (by omega) _
theorem BI.pint {n k : Nat} {A M : Mt} {pv : Rat} (H : BI n k A M pv) (hk : k ≤ n) (h : ∀ i, i < n → ∀ j, isI (A i j)) : isI pv := by
  rw [← H.d]
  exact det_int _ fun r c hr hc => h _ (by omega) _
structure BS where
  M : Mt
  neg : Bool
  pv : Rat
def bnext (n k : Nat) (s : BS) : Option BS :=
  if fnd n s.M k k = n then none else some ⟨bstp k (swp s.M k (fnd n s.M k k)) s.pv, if k = fnd n s.M k k then s.neg else !s.neg, s.M (fnd n s.M k k) k⟩
def brun (n : Nat) (A : Mt) : Nat → Option BS
  | 0 => some ⟨A, false, 1⟩
  | k + 1 => (brun n A k).bind (bnext n k)
def sgb (b : Bool) : Rat := if b then -1 else 1
structure BP (n : Nat) (A B : Mt) (neg : Bool) : Prop where
  all : ∀ P : (Nat → Rat) → Prop, (∀ i, i < n → P (A i)) ↔ (∀ i, i < n → P (B i))
  det : ∀ γ : Nat → Nat, Go.S.det n (fun i c => B i (γ c)) = sgb neg * Go.S.det n (fun i c => A i (γ c))
theorem BP.refl (n : Nat) (A : Mt) : BP n A A false := ⟨fun _ => Iff.rfl, fun γ => by unfold sgb; rw [if_neg (by decide)]; grind⟩
theorem BP.swp {n : Nat} {A B : Mt} {neg : Bool} (H : BP n A B neg) {r s : Nat} (hr : r < n) (hs : s < n) (h : r ≠ s) : BP n A (swp B r s) (!neg) := by
  refine ⟨fun P => (H.all P).trans ⟨fun h2 i hi => ?_, fun h2 i hi => ?_⟩, fun γ => ?_⟩
  · unfold Go.S.swp
    exact h2 _ (by split <;> (try split) <;> omega)
  · have h3 := h2 (if i = r then s else if i = s then r else i) (by split <;> (try split) <;> omega)
    unfold Go.S.swp at h3
    by_cases h4 : i = r
    · subst h4; simp only [if_true, Ne.symm h, if_false] at h3; exact h3
    · by_cases h5 : i = s
      · subst h5; simp only [Ne.symm h, if_true, if_false] at h3; exact h3
      · simp only [h4, h5, if_false] at h3; exact h3
  · have e := det_swp (A := fun i c => B i (γ c)) h hr hs
    have e2 : Go.S.swp (fun i c => B i (γ c)) r s = fun i c => Go.S.swp B r s i (γ c) := rfl
    rw [e2] at e
    rw [e, H.det γ]
    unfold sgb
    cases neg <;> simp <;> grind
theorem brun_BI {n : Nat} {A : Mt} : ∀ {k : Nat} {s : BS}, k ≤ n → brun n A k = some s → ∃ B, BI n k B s.M s.pv ∧ BP n A B s.neg := by
  intro k
  induction k with
  | zero =>
    intro s _ h
    cases h
    exact ⟨A, BI.init n A, BP.refl n A⟩
  | succ k ih =>
    intro s hk h
    unfold brun at h
    cases hb : brun n A k with
    | none => rw [hb] at h; cases h
    | some s0 =>
      rw [hb] at h
      obtain ⟨B, h1, h2⟩ := ih (by omega) hb
      obtain ⟨k1, k2, k3, k4⟩ := fnd_spec (n := n) (A := s0.M) (j := k) (a := k) (by omega)
      change bnext n k s0 = some s at h
      unfold bnext at h
      generalize fnd n s0.M k k = r at *
      by_cases hr : r = n
      · rw [if_pos hr] at h; cases h
      · rw [if_neg hr] at h
        cases h
        have hp := k4 (by omega)
        have b1 := h1.swp (r := k) (s := r) (Nat.le_refl k) (by omega) k1 (by omega)
        have e : swp s0.M k r k k = s0.M r k := by unfold swp; rw [if_pos rfl]
        have b2 := b1.step (by omega) (by rw [e]; exact hp)
        rw [e] at b2
        refine ⟨_, b2, ?_⟩
        by_cases hkr : k = r
        · rw [if_pos hkr, ← hkr, swp_self]; exact h2
        · rw [if_neg hkr]; exact h2.swp (by omega) (by omega) hkr
theorem sgb_sq (b : Bool) : sgb b * sgb b = 1 := by unfold sgb; cases b <;> simp <;> grind
theorem brun_none {n : Nat} {A : Mt} : ∀ {k : Nat}, k ≤ n → brun n A k = none → det n A = 0 := by
  intro k
  induction k with
  | zero => intro _ h; cases h
  | succ k ih =>
    intro hk h
    unfold brun at h
    cases hb : brun n A k with
    | none => exact ih (by omega) hb
    | some s0 =>
      rw [hb] at h
      obtain ⟨B, h1, h2⟩ := brun_BI (by omega) hb
      obtain ⟨k1, k2, k3, k4⟩ := fnd_spec (n := n) (A := s0.M) (j := k) (a := k) (by omega)
      change bnext n k s0 = none at h
      unfold bnext at h
      generalize fnd n s0.M k k = r at *
      by_cases hr : r = n
      · have z := h1.none (by omega) fun i hi hi2 => k3 i hi (by omega)
        have d := h2.det fun c => c
        have s := sgb_sq s0.neg
        have e : det n A = sgb s0.neg * (sgb s0.neg * det n A) := by grind
        rw [e]
        rw [z] at d
        rw [← d]
        grind
      · rw [if_neg hr] at h; cases h
theorem brun_det {n : Nat} {A : Mt} {s : BS} (h : brun n A n = some s) : det n A = sgb s.neg * s.pv := by
  obtain ⟨B, h1, h2⟩ := brun_BI (Nat.le_refl n) h
  have d := h2.det fun c => c
  have q := sgb_sq s.neg
  have := h1.d
  grind
theorem brun_nz {n : Nat} {A : Mt} {s : BS} (h : brun n A n = some s) : det n A ≠ 0 := by
  obtain ⟨B, h1, h2⟩ := brun_BI (Nat.le_refl n) h
  rw [brun_det h]
  have := h1.nz
  have q := sgb_sq s.neg
  intro e
  apply this
  have : s.pv = sgb s.neg * (sgb s.neg * s.pv) := by grind
  rw [this, e]; grind
theorem brun_cramer {n : Nat} {A : Mt} {s : BS} (h : brun n A n = some s) {i : Nat} (hi : i < n) (j : Nat) : det n (fun r c => A r (rpl i j c)) = sgb s.neg * s.M i j := by
  obtain ⟨B, h1, h2⟩ := brun_BI (Nat.le_refl n) h
  have d := h2.det (rpl i j)
  rw [h1.high (Nat.le_refl n) hi j] at d
  have q := sgb_sq s.neg
  grind
theorem brun_solves {n : Nat} {A : Mt} {s : BS} (h : brun n A n = some s) {l : Nat} (hl : l < n) (j : Nat) : sm n (fun i => A l i * (sgb s.neg * s.M i j)) = A l j * (sgb s.neg * s.pv) := by
  obtain ⟨B, h1, h2⟩ := brun_BI (Nat.le_refl n) h
  refine (h2.all fun f => sm n (fun i => f i * (sgb s.neg * s.M i j)) = f j * (sgb s.neg * s.pv)).2 (fun l hl => ?_) l hl
  have e := h1.c l j hl
  rw [if_neg (by omega)] at e
  have hv := h1.nz
  have e2 : sm n (fun i => B l i * (sgb s.neg * s.M i j)) = (sgb s.neg * s.pv) * sm n (fun i => B l i * (s.M i j / s.pv)) := by
    rw [← sm_mul]
    refine sm_congr fun i _ => ?_
    grind
  rw [e2]
  grind
theorem brun_int {n : Nat} {A : Mt} (hA : ∀ i, i < n → ∀ j, isI (A i j)) {k : Nat} {s : BS} (hk : k ≤ n) (h : brun n A k = some s) : (∀ i, i < n → ∀ j, isI (s.M i j)) ∧ isI s.pv ∧ s.pv ≠ 0 := by
  obtain ⟨B, h1, h2⟩ := brun_BI hk h
  have hB := (h2.all fun f => ∀ j, isI (f j)).1 hA
  exact ⟨fun i hi j => h1.int hk hB hi j, h1.pint hk hB, h1.nz⟩
end Go.S

end
section
set_option linter.unusedVariables false
set_option linter.unusedSimpArgs false
namespace Go.S
section
variable {α : Type} [Inhabited α]
def rwg (c : Nat) (f : Nat → α) : List α := (List.range c).map f
def tbg (n c : Nat) (A : Nat → Nat → α) : List (List α) := (List.range n).map fun i => rwg c (A i)
def eng (t : List (List α)) : Nat → Nat → α := fun i j => (t.getD i default).getD j default
def setg (A : Nat → Nat → α) (r : Nat) (f : Nat → α) : Nat → Nat → α := fun i => if i = r then f else A i
theorem rwg_len (c : Nat) (f : Nat → α) : (rwg c f).length = c := by simp [rwg]
theorem rwg_get {c : Nat} {f : Nat → α} {j : Nat} (h : j < c) : (rwg c f).getD j default = f j := by simp [rwg, List.getD, h]
theorem rwg_getE {c : Nat} {f : Nat → α} {j : Nat} (h : j < c) : (rwg c f)[j]? = some (f j) := by simp [rwg, h]
theorem rwg_congr {c : Nat} {f g : Nat → α} (h : ∀ j, j < c → f j = g j) : rwg c f = rwg c g := List.map_congr_left fun j hj => h j (by simpa using hj)
theorem rwg_of (r : List α) : rwg r.length (fun j => r.getD j default) = r := by
  refine List.ext_getElem (by simp [rwg]) fun i h1 h2 => ?_
  simp [rwg, List.getD, List.getElem?_eq_getElem h2]
theorem rwg_app (c d : Nat) (f g : Nat → α) : rwg c f ++ rwg d g = rwg (c + d) fun j => if j < c then f j else g (j - c) := by
  refine List.ext_getElem (by simp [rwg]) fun i h1 h2 => ?_
  by_cases h : i < c
  · rw [List.getElem_append_left (by simpa [rwg] using h)]; simp [rwg, h]
  · rw [List.getElem_append_right (by simpa [rwg] using h)]; simp [rwg, h]
theorem rwg_snoc (c : Nat) (f : Nat → α) : rwg c f ++ [f c] = rwg (c + 1) f := by simp [rwg, List.range_succ]
theorem rwg_set {c j : Nat} {f : Nat → α} {x : α} (h : j < c) : (rwg c f).set j x = rwg c fun y => if y = j then x else f y := by
  refine List.ext_getElem (by simp [rwg]) fun k h1 h2 => ?_
  rw [List.getElem_set]
  by_cases e : j = k
  · subst e; simp [rwg]
  · simp [rwg, e, Ne.symm e]
theorem tbg_len (n c : Nat) (A : Nat → Nat → α) : (tbg n c A).length = n := by simp [tbg]
theorem tbg_get {n c : Nat} {A : Nat → Nat → α} {i : Nat} (h : i < n) : (tbg n c A).getD i default = rwg c (A i) := by simp [tbg, List.getD, h]
theorem mem_tbg {n c : Nat} {A : Nat → Nat → α} {r : List α} : r ∈ tbg n c A ↔ ∃ i, i < n ∧ rwg c (A i) = r := by simp [tbg]
theorem tbg_row {n c : Nat} {A : Nat → Nat → α} : ∀ r ∈ tbg n c A, r.length = c := fun r h => by obtain ⟨i, _, rfl⟩ := mem_tbg.1 h; exact rwg_len _ _
theorem tbg_congr {n c : Nat} {A B : Nat → Nat → α} (h : ∀ i, i < n → ∀ j, j < c → A i j = B i j) : tbg n c A = tbg n c B := List.map_congr_left fun i hi => rwg_congr (h i (by simpa using hi))
theorem tbg_of {t : List (List α)} {c : Nat} (h : ∀ r ∈ t, r.length = c) : tbg t.length c (eng t) = t := by
  refine List.ext_getElem (by simp [tbg]) fun i h1 h2 => ?_
  have e := rwg_of t[i]
  rw [h _ (List.getElem_mem h2)] at e
  rw [← e]
  simp only [tbg, List.getElem_map, List.getElem_range]
  refine rwg_congr fun j _ => ?_
  simp [eng, List.getD, List.getElem?_eq_getElem h2]
theorem tbg_snoc (n c : Nat) (A : Nat → Nat → α) : tbg n c A ++ [rwg c (A n)] = tbg (n + 1) c A := by simp [tbg, List.range_succ]
end
end Go.S

end
section
set_option linter.unusedVariables false
set_option linter.unusedSimpArgs false
namespace Go.S
open Go.K
theorem isI_num {x : Rat} (h : isI x) : ((x.num : Int) : Rat) = x := by
  obtain ⟨z, rfl⟩ := h
  rw [Rat.num_intCast]
abbrev Zt := Nat → Nat → Int
def zq (A : Zt) : Mt := fun i j => ((A i j : Int) : Rat)
def nz (M : Mt) : Zt := fun i j => (M i j).num
theorem zq_isI (A : Zt) (i j : Nat) : isI (zq A i j) := ⟨A i j, rfl⟩
theorem nz_zq (A : Zt) : nz (zq A) = A := by funext i j; exact Rat.num_intCast _
theorem zinj {a b : Int} (h : (a : Rat) = (b : Rat)) : a = b := Rat.intCast_inj.1 h
def zsm : Nat → (Nat → Int) → Int
  | 0, _ => 0
  | n + 1, f => zsm n f + f n
def cutz (A : Zt) (j : Nat) : Zt := fun i c => A (i + 1) (sk j c)
def zdet : Nat → Zt → Int
  | 0, _ => 1
  | n + 1, A => zsm (n + 1) fun j => if j % 2 = 1 then -(A 0 j * zdet n (cutz A j)) else A 0 j * zdet n (cutz A j)
theorem zsm_cast (n : Nat) (f : Nat → Int) : ((zsm n f : Int) : Rat) = sm n fun j => ((f j : Int) : Rat) := by
  induction n with
  | zero => rfl
  | succ n ih => simp only [zsm, sm]; rw [Rat.intCast_add, ih]
theorem zsm_congr {n : Nat} {f g : Nat → Int} (h : ∀ i, i < n → f i = g i) : zsm n f = zsm n g := by
  induction n with
  | zero => rfl
  | succ n ih => simp only [zsm]; rw [ih fun i hi => h i (by omega), h n (by omega)]
theorem zdet_succ (n : Nat) (A : Zt) : zdet (n + 1) A = zsm (n + 1) fun j => if j % 2 = 1 then -(A 0 j * zdet n (cutz A j)) else A 0 j * zdet n (cutz A j) := rfl
theorem zdet_cast (n : Nat) : ∀ A : Zt, ((zdet n A : Int) : Rat) = det n (zq A) := by
  induction n with
  | zero => intro A; rfl
  | succ n ih =>
    intro A
    rw [zdet_succ, zsm_cast, det_succ]
    refine sm_congr fun j _ => ?_
    have e := ih (cutz A j)
    have e2 : zq (cutz A j) = cut (zq A) j := rfl
    rw [e2] at e
    rw [← e]
    unfold psg
    split
    · next h => rw [if_neg (by omega), Rat.intCast_neg, Rat.intCast_mul]; show _ = -1 * (A 0 j : Rat) * _; grind
    · next h => rw [if_pos (by omega), Rat.intCast_mul]; show _ = 1 * (A 0 j : Rat) * _; grind
theorem zdet_congr {n : Nat} {A B : Zt} (h : ∀ i c, i < n → c < n → A i c = B i c) : zdet n A = zdet n B := by
  refine zinj ?_
  rw [zdet_cast, zdet_cast]
  exact det_congr fun i c hi hc => by unfold zq; rw [h i c hi hc]
def sgz (b : Bool) : Int := if b then -1 else 1
theorem sgz_cast (b : Bool) : ((sgz b : Int) : Rat) = sgb b := by cases b <;> rfl
structure ZS where
  Z : Zt
  neg : Bool
  pv : Int
def znum (s : BS) : ZS := ⟨nz s.M, s.neg, s.pv.num⟩
def zrun (n : Nat) (A : Zt) (k : Nat) : Option ZS := (brun n (zq A) k).map znum
def swz (A : Zt) (r s : Nat) : Zt := fun i => A (if i = r then s else if i = s then r else i)
theorem swz_self (A : Zt) (a : Nat) : swz A a a = A := by
  funext i
  unfold swz
  split
  · next h => rw [h]
  · rfl
theorem zrun_zero (n : Nat) (A : Zt) : zrun n A 0 = some ⟨A, false, 1⟩ := by
  show some (znum ⟨zq A, false, 1⟩) = _
  unfold znum
  simp only [nz_zq]
  rfl
structure ZN (n c k : Nat) (s : ZS) (r : Nat) (t : ZS) : Prop where
  kr : k ≤ r
  rn : r < n
  z : ∀ i, k ≤ i → i < r → s.Z i k = 0
  p : s.Z r k ≠ 0
  v : s.pv ≠ 0
  neg : t.neg = if k = r then s.neg else !s.neg
  pv : t.pv = s.Z r k
  at_ : ∀ j, t.Z k j = s.Z r j
  d : ∀ i, i < n → i ≠ k → ∀ j, s.pv * t.Z i j = s.Z r k * swz s.Z k r i j - swz s.Z k r i k * s.Z r j
theorem num_zero {x : Rat} : x.num = 0 ↔ x = 0 := Rat.num_eq_zero
theorem zrun_succ {n : Nat} {A : Zt} {k : Nat} {s : ZS} (hk : k < n) (h : zrun n A k = some s) :
    (∃ r t, zrun n A (k + 1) = some t ∧ ∀ c, ZN n c k s r t) ∨ (zrun n A (k + 1) = none ∧ ∀ i, k ≤ i → i < n → s.Z i k = 0) := by
  unfold zrun at h
  cases hb : brun n (zq A) k with
  | none => rw [hb] at h; cases h
  | some s0 =>
    rw [hb] at h
    cases h
    obtain ⟨k1, k2, k3, k4⟩ := fnd_spec (n := n) (A := s0.M) (j := k) (a := k) (by omega)
    have hn : brun n (zq A) (k + 1) = bnext n k s0 := by
      show (brun n (zq A) k).bind (bnext n k) = _
      rw [hb]; rfl
    obtain ⟨i1, i2, i3⟩ := brun_int (A := zq A) (fun i _ j => zq_isI A i j) (by omega) hb
    unfold zrun
    rw [hn]
    have hbn : bnext n k s0 = if fnd n s0.M k k = n then none else some ⟨bstp k (swp s0.M k (fnd n s0.M k k)) s0.pv, if k = fnd n s0.M k k then s0.neg else !s0.neg, s0.M (fnd n s0.M k k) k⟩ := rfl
    rw [hbn] at hn ⊢
    clear hbn
    generalize fnd n s0.M k k = r at *
    by_cases hr : r = n
    · rw [if_pos hr]
      refine .inr ⟨rfl, fun i h1 h2 => ?_⟩
      show (s0.M i k).num = 0
      rw [k3 i h1 (by omega)]; rfl
    · rw [if_neg hr] at hn ⊢
      refine .inl ⟨r, _, rfl, fun c => ⟨k1, by omega, fun i h1 h2 => ?_, ?_, ?_, rfl, rfl, fun j => ?_, fun i hi hik j => ?_⟩⟩
      · show (s0.M i k).num = 0
        rw [k3 i h1 h2]; rfl
      · exact fun e => k4 (by omega) (num_zero.1 e)
      · exact fun e => i3 (num_zero.1 e)
      · show (bstp k (swp s0.M k r) s0.pv k j).num = (s0.M r j).num
        unfold bstp swp
        rw [if_pos rfl, if_pos rfl]
      · obtain ⟨j1, j2, j3⟩ := brun_int (A := zq A) (fun i _ j => zq_isI A i j) (by omega) hn
        have iw : ∀ y, isI (swp s0.M k r i y) := fun y => i1 _ (by split <;> (try split) <;> omega) y
        refine zinj ?_
        show (((s0.pv.num * (bstp k (swp s0.M k r) s0.pv i j).num : Int)) : Rat) = ((((s0.M r k).num * (swp s0.M k r i j).num - (swp s0.M k r i k).num * (s0.M r j).num : Int)) : Rat)
        rw [Rat.intCast_mul, Rat.intCast_sub, Rat.intCast_mul, Rat.intCast_mul, isI_num i2, isI_num (j1 i hi j), isI_num (i1 r (by omega) k), isI_num (iw j), isI_num (iw k), isI_num (i1 r (by omega) j)]
        have e : ∀ y, swp s0.M k r k y = s0.M r y := fun y => by unfold swp; rw [if_pos rfl]
        have e2 : bstp k (swp s0.M k r) s0.pv i j = (swp s0.M k r k k * swp s0.M k r i j - swp s0.M k r i k * swp s0.M k r k j) / s0.pv := if_neg hik
        show s0.pv * bstp k (swp s0.M k r) s0.pv i j = _
        rw [e2, e, e]
        generalize swp s0.M k r i j = a
        generalize swp s0.M k r i k = b
        grind
theorem L_fac {a b c : Int} (ha : a ≠ 0) (h : a * b = c) : L b ≤ L c := by
  by_cases hb : b = 0
  · subst hb; rw [L_zero]; omega
  · refine L_dvd ⟨a, by rw [← h, Int.mul_comm]⟩ ?_
    rw [← h]
    exact Int.mul_ne_zero ha hb
theorem zrun_size {n c K : Nat} {A : Zt} (hc : n ≤ c) (hA : ∀ i, i < n → ∀ j, j < c → L (A i j) ≤ K) : ∀ {k : Nat} {s : ZS}, k ≤ n → zrun n A k = some s → (∀ i, i < n → ∀ j, j < c → L (s.Z i j) + 1 ≤ 2 ^ k * (K + 2)) ∧ L s.pv + 1 ≤ 2 ^ k * (K + 2) := by
  intro k
  induction k with
  | zero =>
    intro s _ h
    rw [zrun_zero] at h
    cases h
    refine ⟨fun i hi j hj => ?_, ?_⟩
    · have := hA i hi j hj; show L (A i j) + 1 ≤ 1 * _; omega
    · have := L_one; show L 1 + 1 ≤ 1 * _; omega
  | succ k ih =>
    intro t hk h
    have hs : ∃ s, zrun n A k = some s := by
      unfold zrun at h ⊢
      cases hb : brun n (zq A) k with
      | none =>
        rw [show brun n (zq A) (k + 1) = (brun n (zq A) k).bind (bnext n k) from rfl, hb] at h
        cases h
      | some s => exact ⟨_, rfl⟩
    obtain ⟨s, hs⟩ := hs
    obtain ⟨b1, b2⟩ := ih (by omega) hs
    rcases zrun_succ (by omega) hs with ⟨r, t', h1, h2⟩ | ⟨h1, _⟩
    · rw [h1] at h
      obtain rfl := Option.some.inj h
      have Z := h2 c
      rw [Nat.pow_succ, Nat.mul_assoc, Nat.mul_left_comm]
      generalize 2 ^ k * (K + 2) = Q at *
      have hr := Z.rn
      refine ⟨fun i hi j hj => ?_, ?_⟩
      · by_cases hik : i = k
        · subst hik
          rw [Z.at_]
          have := b1 r hr j hj
          omega
        · have e := L_fac Z.v (Z.d i hi hik j)
          have w : ∀ y, y < c → L (swz s.Z k r i y) + 1 ≤ Q := fun y hy => b1 _ (by split <;> (try split) <;> omega) y hy
          have l1 := L_sub (s.Z r k * swz s.Z k r i j) (swz s.Z k r i k * s.Z r j)
          have l2 := L_mul (s.Z r k) (swz s.Z k r i j)
          have l3 := L_mul (swz s.Z k r i k) (s.Z r j)
          have w1 := w j hj
          have w2 := w k (by omega)
          have w3 := b1 r hr k (by omega)
          have w4 := b1 r hr j hj
          omega
      · rw [Z.pv]
        have := b1 r hr k (by omega)
        omega
    · rw [h1] at h; cases h
theorem zrun_det {n : Nat} {A : Zt} {s : ZS} (h : zrun n A n = some s) : zdet n A = sgz s.neg * s.pv ∧ zdet n A ≠ 0 := by
  unfold zrun at h
  cases hb : brun n (zq A) n with
  | none => rw [hb] at h; cases h
  | some s0 =>
    rw [hb] at h
    cases h
    obtain ⟨i1, i2, i3⟩ := brun_int (A := zq A) (fun i _ j => zq_isI A i j) (Nat.le_refl n) hb
    have e : ((zdet n A : Int) : Rat) = det n (zq A) := zdet_cast n A
    constructor
    · refine zinj ?_
      rw [e, brun_det hb, Rat.intCast_mul, sgz_cast]
      show _ = _ * ((s0.pv.num : Int) : Rat)
      rw [isI_num i2]
      rfl
    · intro h0
      rw [h0] at e
      exact brun_nz hb e.symm
theorem zrun_none {n : Nat} {A : Zt} (h : zrun n A n = none) : zdet n A = 0 := by
  unfold zrun at h
  cases hb : brun n (zq A) n with
  | none =>
    refine zinj ?_
    rw [zdet_cast, brun_none (Nat.le_refl n) hb]
    rfl
  | some s => rw [hb] at h; cases h
theorem zrun_none_mono {n : Nat} {A : Zt} {k : Nat} (h : zrun n A k = none) : ∀ d, zrun n A (k + d) = none := by
  intro d
  induction d with
  | zero => exact h
  | succ d ih =>
    unfold zrun at ih ⊢
    rw [show brun n (zq A) (k + (d + 1)) = (brun n (zq A) (k + d)).bind (bnext n (k + d)) from rfl]
    cases hb : brun n (zq A) (k + d) with
    | none => rfl
    | some s => rw [hb] at ih; cases ih
theorem zrun_cramer {n : Nat} {A : Zt} {s : ZS} (h : zrun n A n = some s) {i : Nat} (hi : i < n) (j : Nat) : zdet n (fun r c => A r (rpl i j c)) = sgz s.neg * s.Z i j := by
  unfold zrun at h
  cases hb : brun n (zq A) n with
  | none => rw [hb] at h; cases h
  | some s0 =>
    rw [hb] at h
    cases h
    obtain ⟨i1, i2, i3⟩ := brun_int (A := zq A) (fun i _ j => zq_isI A i j) (Nat.le_refl n) hb
    refine zinj ?_
    rw [zdet_cast, Rat.intCast_mul, sgz_cast]
    show _ = _ * (((s0.M i j).num : Int) : Rat)
    rw [isI_num (i1 i hi j)]
    exact brun_cramer hb hi j
theorem zrun_solves {n : Nat} {A : Zt} {s : ZS} (h : zrun n A n = some s) {l : Nat} (hl : l < n) (j : Nat) : zsm n (fun i => A l i * (sgz s.neg * s.Z i j)) = A l j * (sgz s.neg * s.pv) := by
  unfold zrun at h
  cases hb : brun n (zq A) n with
  | none => rw [hb] at h; cases h
  | some s0 =>
    rw [hb] at h
    cases h
    obtain ⟨i1, i2, i3⟩ := brun_int (A := zq A) (fun i _ j => zq_isI A i j) (Nat.le_refl n) hb
    refine zinj ?_
    rw [zsm_cast, Rat.intCast_mul, Rat.intCast_mul, sgz_cast]
    have e := brun_solves hb hl j
    show _ = ((A l j : Int) : Rat) * (sgb s0.neg * ((s0.pv.num : Int) : Rat))
    rw [isI_num i2]
    rw [sm_congr (g := fun i => zq A l i * (sgb s0.neg * s0.M i j)) fun i hi => ?_]
    · exact e
    · show (((A l i * (sgz s0.neg * (s0.M i j).num) : Int)) : Rat) = _
      rw [Rat.intCast_mul, Rat.intCast_mul, sgz_cast, isI_num (i1 i hi j)]
      rfl
end Go.S

end
section
set_option linter.unusedVariables false
set_option linter.unusedSimpArgs false
set_option maxRecDepth 100000
namespace Go.S
open Go Go.AM Go.RowKit Go.K
theorem s_whole_Sub {x y : Int} (h1 : L x < 500000000) (h2 : L y < 500000000) : CP (CL F) 70 [eZ x, eZ y] = some (eZ (x - y)) := by
  refine CP_X (F := F) (f := 70) rfl rfl ?_
  have k1 := s_whole_Neg (z := y) (by omega)
  have k2 := s_whole_Add (x := x) (y := -y) (by omega) (by rw [L_neg]; omega)
  rw [← Int.sub_eq_add_neg] at k2
  clear h1 h2
  refine go3 ?_
  trivial
theorem s_divide_Exact {x y q : Int} (hx : 0 ≤ x) (hy : 0 < y) (hq : y * q = x) (h1 : L x < 1000000000) (h2 : L y < 1000000000) : CP (CL F) 76 [eN x, eN y] = some (.tup [eN q, eI 0]) := by
  refine ev_cp (exact_ev (x := x) (y := y) hx (by omega) (by rw [L_nat hx]; exact h1) (by rw [L_nat (x := y) (by omega)]; exact h2)) fun _ h => ?_
  have e := e_divide_Exact h
  have hr : exactR x y = (dg B q, 0) := by
    have a1 : x / y = q := by rw [← hq]; exact Int.mul_ediv_cancel_left q (by omega)
    have a2 : x % y = 0 := by rw [← hq]; exact Int.mul_emod_right y q
    unfold exactR
    rw [if_neg (by omega), if_pos a2, a1]
  rw [hr] at e
  exact e
theorem L_ab (x : Int) : L (ab x) = L x := by unfold L; rw [ab_of_nonneg (ab_nonneg x)]
theorem s_whole_Exact {x y q : Int} (hy : y ≠ 0) (hq : y * q = x) (h1 : L x < 1000000000) (h2 : L y < 1000000000) : CP (CL F) 71 [eZ x, eZ y] = some (.tup [eZ q, eI 0]) := by
  refine CP_X (F := F) (f := 71) rfl rfl ?_
  have hq2 : ab y * ab q = ab x := by rw [← ab_mul, hq]
  have k1 := s_divide_Exact (x := ab x) (y := ab y) (q := ab q) (ab_nonneg x) (by unfold ab; omega) hq2 (by rw [L_ab]; exact h1) (by rw [L_ab]; exact h2)
  have hl : L q ≤ L x := L_fac hy hq
  have hs : sg (decide (x < 0) != decide (y < 0)) (ab q) = q := by
    subst hq
    rcases Int.lt_trichotomy q 0 with h | h | h
    · rcases Int.lt_or_gt_of_ne hy with g | g
      · have a := Int.mul_pos_of_neg_of_neg g h
        rw [decide_eq_false (by omega), decide_eq_true g]; show -ab q = q; unfold ab; omega
      · have a := Int.mul_neg_of_pos_of_neg g h
        rw [decide_eq_true a, decide_eq_false (by omega)]; show -ab q = q; unfold ab; omega
    · subst h; unfold sg; split <;> rfl
    · rcases Int.lt_or_gt_of_ne hy with g | g
      · have a := Int.mul_neg_of_neg_of_pos g h
        rw [decide_eq_true a, decide_eq_true g]; show ab q = q; unfold ab; omega
      · have a := Int.mul_pos g h
        rw [decide_eq_false (by omega), decide_eq_false (by omega)]; show ab q = q; unfold ab; omega
  have k2 := s_whole_Made (decide (x < 0) != decide (y < 0)) (n := ab q) (ab_nonneg q) (by rw [L_ab]; omega)
  rw [hs] at k2
  clear hy hq h1 h2 hq2 hl hs
  refine go3 ?_
  trivial
abbrev aB (tb : AV) (pv : Int) (neg : Bool) : AV := .agg [tb, .bool (decide (pv < 0)), eN (ab pv), .bool neg]
structure WB (n c : Nat) (Z : Zt) (neg : Bool) (pv : Int) (G : Heap) (key : Nat → Nat) (vt b : Nat) : Prop where
  work : G[0]? = some (some ⟨0, 4, [aB (.ref (b + 3) vt 1 0 n) pv neg]⟩)
  tab : G[3]? = some (some ⟨vt, 1, rwg n fun i => .ref (b + key i) 0 2 0 c⟩)
  row : ∀ i, i < n → G[key i]? = some (some ⟨0, 2, em eZ (rwg c (Z i))⟩)
  ne : ∀ i, i < n → key i ≠ 0 ∧ key i ≠ 3
  inj : ∀ i j, i < n → j < n → key i = key j → i = j
theorem app_get {G : Heap} {i : Nat} {x : Option Blk} (h : G[i]? = some x) (l : Heap) : (G ++ l)[i]? = some x := by
  rw [List.getElem?_append_left (List.getElem?_eq_some_iff.1 h).1]; exact h
theorem app_set {G : Heap} {i : Nat} {x : Option Blk} (h : G[i]? = some x) (l : Heap) (y : Option Blk) : (G ++ l).set i y = G.set i y ++ l := List.set_append_left _ _ (List.getElem?_eq_some_iff.1 h).1
theorem WB.grow {n c : Nat} {Z : Zt} {neg : Bool} {pv : Int} {G : Heap} {key : Nat → Nat} {vt b : Nat} (H : WB n c Z neg pv G key vt b) (l : Heap) : WB n c Z neg pv (G ++ l) key vt b :=
  ⟨app_get H.work l, app_get H.tab l, fun i hi => app_get (H.row i hi) l, H.ne, H.inj⟩
theorem WB.putrow {n c : Nat} {Z : Zt} {neg : Bool} {pv : Int} {G : Heap} {key : Nat → Nat} {vt b : Nat} (H : WB n c Z neg pv G key vt b) {i : Nat} (hi : i < n) (f : Nat → Int) : WB n c (setg Z i f) neg pv (G.set (key i) (some ⟨0, 2, em eZ (rwg c f)⟩)) key vt b := by
  have ne := H.ne i hi
  have lt := (List.getElem?_eq_some_iff.1 (H.row i hi)).1
  refine ⟨?_, ?_, fun j hj => ?_, H.ne, H.inj⟩
  · rw [List.getElem?_set_ne ne.1]; exact H.work
  · rw [List.getElem?_set_ne ne.2]; exact H.tab
  · unfold setg
    by_cases e : j = i
    · subst e
      rw [if_pos rfl, List.getElem?_set_self lt]
    · rw [if_neg e, List.getElem?_set_ne fun h => e (H.inj i j hi hj h).symm]
      exact H.row j hj
theorem WB.congr {n c : Nat} {Z Z' : Zt} {neg : Bool} {pv : Int} {G : Heap} {key : Nat → Nat} {vt b : Nat} (H : WB n c Z neg pv G key vt b) (h : ∀ i, i < n → ∀ j, j < c → Z' i j = Z i j) : WB n c Z' neg pv G key vt b :=
  ⟨H.work, H.tab, fun i hi => by rw [rwg_congr (h i hi)]; exact H.row i hi, H.ne, H.inj⟩
theorem s_row {n c : Nat} {Z : Zt} {neg : Bool} {pv : Int} {h0 G : Heap} {key : Nat → Nat} {vt : Nat} (H : WB n c Z neg pv G key vt h0.length) {i k : Nat} (hi : i < n) (hk : k < n) (hik : i ≠ k) (hkc : k < c) (hn : n ≤ 1000000) (hc : c ≤ 1000000) {Q : Nat} (hQ : Q < 100000000)
    (hZi : ∀ j, j < c → L (Z i j) ≤ Q) (hZk : ∀ j, j < c → L (Z k j) ≤ Q) (hpv : pv ≠ 0) (hpl : L pv ≤ Q) {R : Nat → Int} (hR : ∀ j, j < c → pv * R j = Z k k * Z i j - Z i k * Z k j) :
    ∃ x, CL F 65 [.ptr h0.length 0 0 0, eI i, eI k] (h0 ++ G) = some x ∧ ∃ G', x = (.tup [], h0 ++ G') ∧ WB n c (setg Z i R) neg pv G' key vt h0.length := by
  refine CL_XE (F := F) (f := 65) rfl rfl ?_
  have w1 := H.work
  have w2 := H.tab
  have ri := H.row i hi
  have rk := H.row k hk
  have t1 := rwg_getE (f := fun i => AV.ref (h0.length + key i) 0 2 0 c) hi
  have t2 := rwg_getE (f := fun i => AV.ref (h0.length + key i) 0 2 0 c) hk
  have q1 := em_getN (f := eZ) (rwg c (Z i)) k (by rw [rwg_len]; exact hkc)
  have q2 := em_getN (f := eZ) (rwg c (Z k)) k (by rw [rwg_len]; exact hkc)
  rw [rwg_get hkc] at q1 q2
  have c1 := lt_c hi
  have c2 := lt_c hk
  have c3 := lt_c hkc
  have a1 := app_get w1
  have a2 := app_get w2
  have ai := app_get ri
  have ak := app_get rk
  refine go3 ?_
  clear w1 w2 ri rk q1 q2 c1 c3 a1 a2 ai ak
  refine X_up c (fun j s => ∃ j8 j9 j39 G1 g', WB n c (setg Z i fun y => if y < j then R y else Z i y) neg pv G1 key vt h0.length ∧ G.length = G1.length ∧ s = ⟨[(0, .ptr h0.length 0 0 0), (1, eI i), (2, eI k), (6, .ptr (h0.length + G.length) 0 0 0), (7, .ptr (h0.length + (G.length + 1)) 0 0 0), (8, j8), (9, j9), (37, eI c), (38, eI j), (39, j39)], h0 ++ (G1 ++ (some ⟨0, 2, [eZ (Z k k)]⟩ :: some ⟨0, 2, [eZ (Z i k)]⟩ :: g'))⟩) ?_ ?_ 0 (Nat.zero_le _) _ ⟨_, _, _, G, [], by
      have e : (setg Z i fun y => if y < 0 then R y else Z i y) = Z := by
        funext a b
        unfold setg
        split
        · next h => subst h; exact if_neg (Nat.not_lt_zero b)
        · rfl
      rw [e]; exact H, rfl, rfl⟩
  · rintro j s hj ⟨j8, j9, j39, G1, g', H1, hG, rfl⟩ rec
    have s1 : (rwg c fun y => if y < j then R y else Z i y).set j (R j) = rwg c fun y => if y < j + 1 then R y else Z i y := by
      rw [rwg_set hj]
      refine rwg_congr fun y hy => ?_
      by_cases e : y = j
      · rw [if_pos e, if_pos (by omega), e]
      · rw [if_neg e]
        by_cases e2 : y < j
        · rw [if_pos e2, if_pos (by omega)]
        · rw [if_neg e2, if_neg (by omega)]
    have w1 := H1.work
    have w2 := H1.tab
    have ri := H1.row i hi
    have rk := H1.row k hk
    have H2 := H1.putrow hi fun y => if y < j + 1 then R y else Z i y
    have hs2 : setg (setg Z i fun y => if y < j then R y else Z i y) i (fun y => if y < j + 1 then R y else Z i y) = setg Z i fun y => if y < j + 1 then R y else Z i y := by
      funext a
      unfold setg
      split <;> rfl
    rw [hs2] at H2
    have e1 : setg Z i (fun y => if y < j then R y else Z i y) i = fun y => if y < j then R y else Z i y := if_pos rfl
    have e2 : setg Z i (fun y => if y < j then R y else Z i y) k = Z k := if_neg (Ne.symm hik)
    rw [e1] at ri
    rw [e2] at rk
    have q1 := em_getN (f := eZ) (rwg c fun y => if y < j then R y else Z i y) j (by rw [rwg_len]; exact hj)
    have q2 := em_getN (f := eZ) (rwg c (Z k)) j (by rw [rwg_len]; exact hj)
    rw [rwg_get hj] at q1 q2
    rw [if_neg (Nat.lt_irrefl j)] at q1
    have c1 := lt_c hi
    have c2 := lt_c hk
    have c3 := lt_c hj
    have a1 := app_get w1
    have a2 := app_get w2
    have ai := app_get ri
    have ak := app_get rk
    have asx := app_set ri
    have rl1 := rwg_len c fun y => if y < j then R y else Z i y
    have rl2 := rwg_len c (Z k)
    have b1 := hZi j hj
    have b2 := hZk j hj
    have b3 := hZi k hkc
    have b4 := hZk k hkc
    have m1 := s_whole_Mul (x := Z k k) (y := Z i j) (by omega) (by omega)
    have m2 := s_whole_Mul (x := Z i k) (y := Z k j) (by omega) (by omega)
    have l1 := L_mul (Z k k) (Z i j)
    have l2 := L_mul (Z i k) (Z k j)
    have l3 := L_sub (Z k k * Z i j) (Z i k * Z k j)
    have m3 := s_whole_Sub (x := Z k k * Z i j) (y := Z i k * Z k j) (by omega) (by omega)
    have m4 := s_whole_Exact hpv (hR j hj) (by omega) (by omega)
    have hj6 : j < 9223372036854775807 := by omega
    rw [hG] at rec ⊢
    have hgl : (G1.set (key i) (some ⟨0, 2, em eZ (rwg c fun y => if y < j + 1 then R y else Z i y)⟩)).length = G1.length := List.length_set
    generalize (rwg c fun y => if y < j then R y else Z i y) = Ri at *
    generalize (rwg c fun y => if y < j + 1 then R y else Z i y) = Ri' at *
    generalize rwg c (Z k) = Rk at *
    generalize R j = v at *
    generalize Z k j = z4 at *
    generalize Z i j = z3 at *
    generalize Z k k = z1 at *
    generalize Z i k = z2 at *
    have hw := i64_nat hj6
    clear hZi hZk hR b1 b2 b3 b4 l1 l2 l3 hpv hpl hs2 e1 e2 H H1 hik hG
    refine go3 ?_
    exact rec _ ⟨_, _, _, _, _, H2, hgl.symm, rfl⟩
  · rintro s ⟨j8, j9, j39, G1, g', H1, hG, rfl⟩
    have hlt : ¬ ((c : Int) < (c : Int)) := nlt_c
    have H2 := (H1.congr (Z' := setg Z i R) fun a ha y hy => by
      unfold setg
      split
      · exact (if_pos hy).symm
      · rfl).grow (some ⟨0, 2, [eZ (Z k k)]⟩ :: some ⟨0, 2, [eZ (Z i k)]⟩ :: g')
    clear hZi hZk hR H H1
    refine go3 ?_
    exact ⟨_, rfl, _, rfl, H2⟩
end Go.S

end
section
set_option linter.unusedVariables false
set_option linter.unusedSimpArgs false
set_option maxRecDepth 100000
namespace Go.S
open Go Go.AM Go.RowKit Go.K
def key0 (i : Nat) : Nat := if i = 0 then 1 else 2 * i + 2
theorem WB.snoc {i c : Nat} {Z : Zt} {neg : Bool} {pv : Int} {G : Heap} {v b : Nat} (H : WB i c Z neg pv G key0 v b) (hl : G.length = 2 * i + 2) (hi : 0 < i) (y : Option Blk) :
    WB (i + 1) c Z neg pv ((G.set 3 (some ⟨v + 1, 1, rwg (i + 1) fun i => .ref (b + key0 i) 0 2 0 c⟩)).set 0 (some ⟨0, 4, [aB (.ref (b + 3) (v + 1) 1 0 (i + 1)) pv neg]⟩) ++ [some ⟨0, 2, em eZ (rwg c (Z i))⟩, y]) key0 (v + 1) b := by
  have l0 : 0 < G.length := by omega
  have ne : ∀ j, j < i + 1 → key0 j ≠ 0 ∧ key0 j ≠ 3 := fun j hj => by unfold key0; split <;> omega
  refine ⟨app_get ?_ _, app_get ?_ _, fun j hj => ?_, ne, fun a b ha hb h => ?_⟩
  · rw [List.getElem?_set_self (by rw [List.length_set]; exact l0)]
  · rw [List.getElem?_set_ne (by omega), List.getElem?_set_self (by omega)]
  · by_cases e : j = i
    · subst e
      have : key0 j = ((G.set 3 (some ⟨v + 1, 1, rwg (j + 1) fun i => .ref (b + key0 i) 0 2 0 c⟩)).set 0 (some ⟨0, 4, [aB (.ref (b + 3) (v + 1) 1 0 (j + 1)) pv neg]⟩)).length := by
        rw [List.length_set, List.length_set, hl]
        unfold key0
        rw [if_neg (by omega)]
      rw [this, get_app0]
      rfl
    · refine app_get ?_ _
      have := ne j hj
      rw [List.getElem?_set_ne (Ne.symm this.1), List.getElem?_set_ne (Ne.symm this.2)]
      exact H.row j (by omega)
  · unfold key0 at h
    split at h <;> split at h <;> omega
theorem WB.one (c : Nat) (Z : Zt) (b : Nat) : WB 1 c Z false 1 [some ⟨0, 4, [.agg [.ref (b + 3) 0 1 0 1, .bool false, eN (ab 1), .bool false]]⟩, some ⟨0, 2, em eZ (rwg c (Z 0))⟩, some ⟨0, 1, [.ref (b + 1) 0 2 0 c]⟩, some ⟨0, 1, [.ref (b + 1) 0 2 0 c]⟩] key0 0 b :=
  ⟨rfl, rfl, fun i hi => by
    obtain rfl : i = 0 := by omega
    rfl, fun i hi => by
    obtain rfl : i = 0 := by omega
    exact ⟨by decide, by decide⟩, fun i j hi hj _ => by omega⟩
theorem s_zbegin {n c : Nat} {Z : Zt} (hn : 0 < n) (hn2 : n ≤ 1000) (hc0 : 0 < c) (hc : c ≤ 1000) (h0 : Heap) :
    ∃ x, CL F 40 [eTZ (tbg n c Z)] h0 = some x ∧ ∃ G key vt, x = (.ptr h0.length 0 0 0, h0 ++ G) ∧ WB n c Z false 1 G key vt h0.length := by
  refine CL_XE (F := F) (f := 40) rfl rfl ?_
  have h3 := s_whole_Of (a := 1) (by decide) (by decide)
  have hlt0 : ((0 : Int) < (n : Int)) := by omega
  have gi : ∀ i, i < n → (em eRZ (tbg n c Z))[i]? = some (eRZ (rwg c (Z i))) := fun i hi => by
    have := em_getN (f := eRZ) (tbg n c Z) i (by rw [tbg_len]; exact hi)
    rwa [tbg_get hi] at this
  have ki : ∀ i h, cloneA (CL F) 63 (eRZ (rwg c (Z i))) h = some (.ref h.length 0 2 0 c, h ++ [some ⟨0, 2, em eZ (rwg c (Z i))⟩]) := fun i h => by
    have := z_clone' (l := rwg c (Z i)) (by rw [rwg_len]; omega) h (fun e => by have := rwg_len c (Z i); rw [e] at this; simp at this; omega)
    rwa [rwg_len] at this
  have g0 := gi 0 hn
  have k0 := fun h => ki 0 h
  have tl := tbg_len n c Z
  have hw1 : wrap64 (0 + 1) = 1 := by rw [show (0 : Int) + 1 = 1 from rfl, w64 (by omega) (by omega)]
  have e0 : (1 : Int) < 0 ↔ False := by simp
  generalize tbg n c Z = t at *
  refine go3 ?_
  refine X_round ?_
  refine go3 ?_
  refine X_up n (fun i s => 1 ≤ i ∧ ∃ j5 j12 v G, WB i c Z false 1 G key0 v h0.length ∧ G.length = 2 * i + 2 ∧ s = ⟨[(0, eTZ t), (2, .nilp), (3, .ptr h0.length 0 0 0), (5, j5), (9, eTZ t), (10, eI n), (11, eI i), (12, j12)], h0 ++ G⟩) ?_ ?_ 1 hn _ ⟨Nat.le_refl 1, _, _, _, _, WB.one c Z h0.length, rfl, rfl⟩
  · rintro i s hi ⟨hi1, j5, j12, v, G, H, hG, rfl⟩ rec
    have hlt := lt_c hi
    have g1 := gi i hi
    have k1 := fun h => ki i h
    have w1 := H.work
    have w2 := H.tab
    have a1 := app_get w1
    have a2 := app_get w2
    have as2 := app_set w2
    have l0 : 0 < G.length := by omega
    have b1 : ∀ y l, (G.set 3 y ++ l)[0]? = some (some ⟨0, 4, [aB (.ref (h0.length + 3) v 1 0 i) 1 false]⟩) := fun y l => app_get (by rw [List.getElem?_set_ne (by omega)]; exact w1) l
    have b2 : ∀ y z l, (G.set 3 y ++ l).set 0 z = (G.set 3 y).set 0 z ++ l := fun y z l => app_set (by rw [List.getElem?_set_ne (by omega)]; exact w1) l z
    have sn : rwg i (fun i => AV.ref (h0.length + key0 i) 0 2 0 c) ++ [.ref (h0.length + G.length) 0 2 0 c] = rwg (i + 1) fun i => .ref (h0.length + key0 i) 0 2 0 c := by
      rw [← rwg_snoc, hG]
      have : key0 i = 2 * i + 2 := by unfold key0; rw [if_neg (by omega)]
      rw [this]
    have sb : sub (rwg i fun i => AV.ref (h0.length + key0 i) 0 2 0 c) 0 i = rwg i fun i => .ref (h0.length + key0 i) 0 2 0 c := by
      unfold sub
      rw [List.drop_zero]
      exact List.take_of_length_le (by rw [rwg_len]; omega)
    have H2 := H.snoc hG (by omega) (some ⟨0, 1, [.ref (h0.length + G.length) 0 2 0 c]⟩)
    have hlim : i < 5864062014805 := by omega
    have hi6 : i < 9223372036854775807 := by omega
    have hG2 : ∀ y z l, (((G.set 3 y).set 0 z) ++ l).length = G.length + l.length := fun y z l => by simp
    clear gi ki k0 g0 H hi1
    generalize (rwg i fun i => AV.ref (h0.length + key0 i) 0 2 0 c) = T at *
    generalize (rwg (i + 1) fun i => AV.ref (h0.length + key0 i) 0 2 0 c) = T' at *
    generalize rwg c (Z i) = Ri at *
    have hw := i64_nat hi6
    replace hG := eq_true hG
    refine go3 ?_
    exact rec _ ⟨by omega, _, _, _, _, H2, by rw [hG2, of_eq_true hG]; simp; omega, rfl⟩
  · rintro s ⟨hi1, j5, j12, v, G, H, hG, rfl⟩
    have hlt : ¬ ((n : Int) < (n : Int)) := nlt_c
    clear gi ki k0 g0 hG
    refine go3 ?_
    exact ⟨_, rfl, _, _, _, rfl, H⟩
theorem WB.swap {n c : Nat} {Z : Zt} {neg : Bool} {pv : Int} {G : Heap} {key : Nat → Nat} {v b : Nat} (H : WB n c Z neg pv G key v b) {k r : Nat} (hk : k < n) (hr : r < n) (neg' : Bool) :
    WB n c (swz Z k r) neg' pv ((G.set 3 (some ⟨v, 1, ((rwg n fun i => .ref (b + key i) 0 2 0 c).set r (.ref (b + key k) 0 2 0 c)).set k (.ref (b + key r) 0 2 0 c)⟩)).set 0 (some ⟨0, 4, [aB (.ref (b + 3) v 1 0 n) pv neg']⟩)) (fun j => key (if j = k then r else if j = r then k else j)) v b := by
  have l0 := (List.getElem?_eq_some_iff.1 H.work).1
  have l3 := (List.getElem?_eq_some_iff.1 H.tab).1
  have sl : ∀ j, j < n → (if j = k then r else if j = r then k else j) < n := fun j hj => by split <;> (try split) <;> omega
  refine ⟨?_, ?_, fun j hj => ?_, fun j hj => H.ne _ (sl j hj), fun i j hi hj h => ?_⟩
  · rw [List.getElem?_set_self (by rw [List.length_set]; exact l0)]
  · rw [List.getElem?_set_ne (by omega), List.getElem?_set_self l3, rwg_set hr, rwg_set hk]
    congr 4
    funext j
    by_cases e1 : j = k
    · rw [if_pos e1, if_pos e1]
    · rw [if_neg e1, if_neg e1]
      by_cases e2 : j = r
      · rw [if_pos e2, if_pos e2]
      · rw [if_neg e2, if_neg e2]
  · have ne := H.ne _ (sl j hj)
    rw [List.getElem?_set_ne (Ne.symm ne.1), List.getElem?_set_ne (Ne.symm ne.2)]
    exact H.row _ (sl j hj)
  · have := H.inj _ _ (sl i hi) (sl j hj) h
    split at this <;> split at this <;> (try split at this) <;> (try split at this) <;> omega
theorem sgn_zero {z : Int} : sgn z = 0 ↔ z = 0 := by unfold sgn; split <;> (try split) <;> omega
theorem s_pivot {n c : Nat} {Z : Zt} {neg : Bool} {pv : Int} {h0 G : Heap} {key : Nat → Nat} {vt : Nat} (H : WB n c Z neg pv G key vt h0.length) {k r : Nat} (hk : k < n) (hkc : k < c) (hn : n ≤ 1000000) (kr : k ≤ r) (rn : r < n)
    (hz : ∀ i, k ≤ i → i < r → Z i k = 0) (hp : Z r k ≠ 0) :
    ∃ x, CL F 64 [.ptr h0.length 0 0 0, eI k] (h0 ++ G) = some x ∧ ∃ G' key', x = (.bool true, h0 ++ G') ∧ WB n c (swz Z k r) (if k = r then neg else !neg) pv G' key' vt h0.length := by
  refine CL_XE (F := F) (f := 64) rfl rfl ?_
  have w1 := H.work
  have w2 := H.tab
  refine go3 ?_
  refine X_upto (r - k) (fun i s => ∃ j13 j27 j30, s = ⟨[(0, .ptr h0.length 0 0 0), (1, eI k), (4, .bool false), (5, eI (k + i : Nat)), (13, j13), (27, j27), (30, j30)], h0 ++ G⟩) ?_ 0 (Nat.zero_le _) _ ⟨_, _, _, rfl⟩
  rintro i s hi ⟨j13, j27, j30, rfl⟩ rec
  have hin : k + i < n := by omega
  have ri := H.row (k + i) hin
  have t1 := rwg_getE (f := fun i => AV.ref (h0.length + key i) 0 2 0 c) hin
  have q1 := em_getN (f := eZ) (rwg c (Z (k + i))) k (by rw [rwg_len]; exact hkc)
  rw [rwg_get hkc] at q1
  have c1 := lt_c hin
  have c2 := lt_c hk
  have c3 := lt_c hkc
  have sg := s_whole_Sign (Z (k + i) k)
  by_cases e : i < r - k
  · have z : Z (k + i) k = 0 := hz (k + i) (by omega) (by omega)
    have z2 : sgn (Z (k + i) k) = 0 := sgn_zero.2 z
    rw [z2] at sg
    have hw : wrap64 (((k + i : Nat) : Int) + 1) = ((k + (i + 1) : Nat) : Int) := i64_nat (by omega)
    generalize rwg c (Z (k + i)) = Ri at *
    generalize Z (k + i) k = y at *
    generalize k + i = ki at *
    clear hz hp z z2 hi H
    refine go3 ?_
    exact rec _ e ⟨_, _, _, rfl⟩
  · have hik : k + i = r := by omega
    have z : sgn (Z (k + i) k) ≠ 0 := by rw [hik]; exact fun h => hp (sgn_zero.1 h)
    rw [hik] at ri t1 q1 c1 sg z
    rw [hik]
    have z3 : ¬ (sgn (Z r k) = 0) := z
    by_cases ekr : k = r
    · subst ekr
      rw [if_pos rfl, swz_self]
      have c4 : ¬ ((k : Int) ≠ (k : Int)) := by omega
      clear hz hp rec hi z e
      refine go3 ?_
      exact ⟨_, rfl, _, _, rfl, H⟩
    · rw [if_neg ekr]
      have c4 : ((r : Int) ≠ (k : Int)) := by omega
      have c5 : ¬ ((r : Int) = (k : Int)) := by omega
      have t2 := rwg_getE (f := fun i => AV.ref (h0.length + key i) 0 2 0 c) hk
      have H2 := H.swap hk rn (!neg)
      have l0 := (List.getElem?_eq_some_iff.1 w1).1
      have l3 := (List.getElem?_eq_some_iff.1 w2).1
      have b1 : ∀ y, (G.set 3 y)[0]? = some (some ⟨0, 4, [aB (.ref (h0.length + 3) vt 1 0 n) pv neg]⟩) := fun y => by rw [List.getElem?_set_ne (by omega)]; exact w1
      have b3 : ∀ y, (G.set 3 y)[3]? = some y := fun y => List.getElem?_set_self l3
      have b4 : ∀ y z, (G.set 3 y).set 3 z = G.set 3 z := fun y z => List.set_set ..
      have tl := rwg_len n fun i => AV.ref (h0.length + key i) 0 2 0 c
      have b5 : ((rwg n fun i => AV.ref (h0.length + key i) 0 2 0 c).set r (.ref (h0.length + key k) 0 2 0 c))[k]? = some (.ref (h0.length + key k) 0 2 0 c) := by
        rw [List.getElem?_set_ne (Ne.symm ekr)]; exact t2
      generalize (rwg n fun i => AV.ref (h0.length + key i) 0 2 0 c) = T at *
      clear hz hp rec hi z e H hik
      refine go3 ?_
      exact ⟨_, rfl, _, _, rfl, H2⟩
theorem s_pivot0 {n c : Nat} {Z : Zt} {neg : Bool} {pv : Int} {h0 G : Heap} {key : Nat → Nat} {vt : Nat} (H : WB n c Z neg pv G key vt h0.length) {k : Nat} (hk : k < n) (hkc : k < c) (hn : n ≤ 1000000)
    (hz : ∀ i, k ≤ i → i < n → Z i k = 0) : CL F 64 [.ptr h0.length 0 0 0, eI k] (h0 ++ G) = some (.bool false, h0 ++ G) := by
  refine CL_X (F := F) (f := 64) rfl rfl ?_
  have w1 := H.work
  have w2 := H.tab
  refine go3 ?_
  refine X_up (n - k) (fun i s => ∃ j13 j27 j30, s = ⟨[(0, .ptr h0.length 0 0 0), (1, eI k), (4, .bool false), (5, eI (k + i : Nat)), (13, j13), (27, j27), (30, j30)], h0 ++ G⟩) ?_ ?_ 0 (Nat.zero_le _) _ ⟨_, _, _, rfl⟩
  · rintro i s hi ⟨j13, j27, j30, rfl⟩ rec
    have hin : k + i < n := by omega
    have ri := H.row (k + i) hin
    have t1 := rwg_getE (f := fun i => AV.ref (h0.length + key i) 0 2 0 c) hin
    have q1 := em_getN (f := eZ) (rwg c (Z (k + i))) k (by rw [rwg_len]; exact hkc)
    rw [rwg_get hkc] at q1
    have c1 := lt_c hin
    have c3 := lt_c hkc
    have sg := s_whole_Sign (Z (k + i) k)
    have z : Z (k + i) k = 0 := hz (k + i) (by omega) (by omega)
    have z2 : sgn (Z (k + i) k) = 0 := sgn_zero.2 z
    rw [z2] at sg
    have hw : wrap64 (((k + i : Nat) : Int) + 1) = ((k + (i + 1) : Nat) : Int) := i64_nat (by omega)
    generalize rwg c (Z (k + i)) = Ri at *
    generalize Z (k + i) k = y at *
    generalize k + i = ki at *
    clear hz z z2 hi H
    refine go3 ?_
    exact rec _ ⟨_, _, _, rfl⟩
  · rintro s ⟨j13, j27, j30, rfl⟩
    have e : k + (n - k) = n := by omega
    rw [e]
    have hlt : ¬ ((n : Int) < (n : Int)) := nlt_c
    clear hz H e
    refine go3 ?_
    trivial
end Go.S

end
section
set_option linter.unusedVariables false
set_option linter.unusedSimpArgs false
set_option maxRecDepth 100000
namespace Go.S
open Go Go.AM Go.RowKit Go.K
theorem WB.setpv {n c : Nat} {Z : Zt} {neg : Bool} {pv : Int} {G : Heap} {key : Nat → Nat} {v b : Nat} (H : WB n c Z neg pv G key v b) (pv' : Int) : WB n c Z neg pv' (G.set 0 (some ⟨0, 4, [aB (.ref (b + 3) v 1 0 n) pv' neg]⟩)) key v b := by
  have l0 := (List.getElem?_eq_some_iff.1 H.work).1
  refine ⟨List.getElem?_set_self l0, ?_, fun i hi => ?_, H.ne, H.inj⟩
  · rw [List.getElem?_set_ne (by omega)]; exact H.tab
  · rw [List.getElem?_set_ne (Ne.symm (H.ne i hi).1)]; exact H.row i hi
theorem WB.eqs {n c : Nat} {Z Z' : Zt} {neg : Bool} {pv : Int} {G : Heap} {key : Nat → Nat} {vt b : Nat} (H : WB n c Z neg pv G key vt b) (h : ∀ i, i < n → Z' i = Z i) : WB n c Z' neg pv G key vt b :=
  H.congr fun i hi j _ => by rw [h i hi]
def mixz (k : Nat) (ahead : Bool) (T Z : Zt) (i : Nat) : Zt := fun a => if a < i ∧ a ≠ k ∧ (k < a ∨ ahead = true) then T a else Z a
theorem mixz_zero (k : Nat) (ahead : Bool) (T Z : Zt) : mixz k ahead T Z 0 = Z := by
  funext a
  exact if_neg (by omega)
theorem mixz_k (k : Nat) (ahead : Bool) (T Z : Zt) (i : Nat) : mixz k ahead T Z i k = Z k := if_neg (by omega)
theorem mixz_ge {k : Nat} {ahead : Bool} {T Z : Zt} {i a : Nat} (h : i ≤ a) : mixz k ahead T Z i a = Z a := if_neg (by omega)
theorem mixz_do {k : Nat} {ahead : Bool} {T Z : Zt} {i : Nat} (h : i ≠ k) (h2 : k < i ∨ ahead = true) : setg (mixz k ahead T Z i) i (T i) = mixz k ahead T Z (i + 1) := by
  funext a
  unfold setg mixz
  by_cases e : a = i
  · subst e
    rw [if_pos rfl, if_pos ⟨by omega, h, h2⟩]
  · rw [if_neg e]
    by_cases e2 : a < i ∧ a ≠ k ∧ (k < a ∨ ahead = true)
    · rw [if_pos e2, if_pos ⟨by omega, e2.2⟩]
    · rw [if_neg e2, if_neg fun h3 => e2 ⟨by omega, h3.2⟩]
theorem mixz_skip {k : Nat} {ahead : Bool} {T Z : Zt} {i : Nat} (h : ¬ (i ≠ k ∧ (k < i ∨ ahead = true))) : mixz k ahead T Z (i + 1) = mixz k ahead T Z i := by
  funext a
  unfold mixz
  by_cases e : a = i
  · subst e
    rw [if_neg fun h2 => h h2.2, if_neg fun h2 => h h2.2]
  · by_cases e2 : a < i ∧ a ≠ k ∧ (k < a ∨ ahead = true)
    · rw [if_pos e2, if_pos ⟨by omega, e2.2⟩]
    · rw [if_neg e2, if_neg fun h3 => e2 ⟨by omega, h3.2⟩]
def RunP (n c : Nat) (A : Zt) (ahead : Bool) (h0 : Heap) (x : AV × Heap) : Prop := ∃ G', (zrun n A n = none ∧ x = (.bool false, h0 ++ G')) ∨
      ∃ s, zrun n A n = some s ∧ ∃ Z key' vt', x = (.bool true, h0 ++ G') ∧ WB n c Z s.neg s.pv G' key' vt' h0.length ∧ (ahead = true → ∀ i, i < n → Z i = s.Z i)
set_option maxHeartbeats 1000000
theorem s_zrun {n c K : Nat} {A : Zt} {h0 G : Heap} {key : Nat → Nat} {vt : Nat} (H : WB n c A false 1 G key vt h0.length) (nc : n ≤ c) (hc : c ≤ 1000)
    (hA : ∀ i, i < n → ∀ j, j < c → L (A i j) ≤ K) (hK : 2 ^ n * (K + 2) < 100000000) (ahead : Bool) :
    ∃ x, CL F 41 [.ptr h0.length 0 0 0, .bool ahead] (h0 ++ G) = some x ∧ RunP n c A ahead h0 x := by
  refine CL_XE (F := F) (f := 41) rfl rfl ?_
  have w1 := H.work
  refine go3 ?_
  clear w1
  refine X_up n (fun k s => ∃ j5 j6 j13 j18 j23 j24 j25 j37 G Z key vt zs, (zrun n A k = some zs ∧ WB n c Z zs.neg zs.pv G key vt h0.length ∧ (∀ i, k ≤ i → i < n → Z i = zs.Z i) ∧ (ahead = true → ∀ i, i < n → Z i = zs.Z i)) ∧ s = ⟨[(0, .ptr h0.length 0 0 0), (1, .bool ahead), (4, .bool false), (5, j5), (6, j6), (11, eI n), (12, eI k), (13, j13), (18, j18), (23, j23), (24, j24), (25, j25), (37, j37)], h0 ++ G⟩) ?_ ?_ 0 (Nat.zero_le _) _ ⟨_, _, _, _, _, _, _, _, _, _, _, _, _, ⟨zrun_zero n A, H, fun _ _ _ => rfl, fun _ _ _ => rfl⟩, rfl⟩
  · clear H G key vt
    rintro k s hk ⟨j5, j6, j13, j18, j23, j24, j25, j37, G, Z, key, vt, zs, ⟨hz, H, hlo, hall⟩, rfl⟩ rec
    have hlt := lt_c hk
    have w1 := H.work
    have hk6 : k < 9223372036854775807 := by omega
    obtain ⟨b1, b2⟩ := zrun_size nc hA (by omega) hz
    have hQ : 2 ^ k * (K + 2) ≤ 2 ^ n * (K + 2) := Nat.mul_le_mul_right _ (Nat.pow_le_pow_right (by decide) (by omega))
    generalize 2 ^ k * (K + 2) = Q at *
    generalize 2 ^ n * (K + 2) = QN at *
    rcases zrun_succ hk hz with ⟨r, t, hn, hZ⟩ | ⟨hn, h0z⟩
    · have ZZ := hZ 0
      clear hZ
      have hrn := ZZ.rn
      have hkr := ZZ.kr
      have er : Z r = zs.Z r := hlo r hkr hrn
      obtain ⟨x, p1, G', key', rfl, H'⟩ := s_pivot H hk (by omega) (by omega) hkr hrn (fun i h1 h2 => by rw [hlo i h1 (by omega)]; exact ZZ.z i h1 h2) (by rw [er]; exact ZZ.p)
      rw [← ZZ.neg] at H'
      have ek : swz Z k r k = zs.Z r := by unfold swz; rw [if_pos rfl]; exact er
      have ei : ∀ i, i < n → (k < i ∨ ahead = true) → swz Z k r i = swz zs.Z k r i := fun i hi h => by
        unfold swz
        rcases h with h | h
        · exact hlo _ (by split <;> (try split) <;> omega) (by split <;> (try split) <;> omega)
        · exact hall h _ (by split <;> (try split) <;> omega)
      have w2 := H'.work
      clear H hz
      refine go3 ?_
      clear w1 w2
      refine X_up n (fun i s => ∃ j6 j25 j37 G', WB n c (mixz k ahead t.Z (swz Z k r) i) t.neg zs.pv G' key' vt h0.length ∧ s = ⟨[(0, .ptr h0.length 0 0 0), (1, .bool ahead), (4, .bool false), (5, eI k), (6, j6), (11, eI n), (12, eI k), (13, .bool true), (18, .bool false), (23, eI n), (24, eI i), (25, j25), (37, j37)], h0 ++ G'⟩) ?_ ?_ 0 (Nat.zero_le _) _ ⟨_, _, _, _, by rw [mixz_zero]; exact H', rfl⟩
      · clear p1 H' G'
        rintro i s hi ⟨j6, j25, j37, G', H', rfl⟩ rec2
        have hlt2 := lt_c hi
        have hi6 : i < 9223372036854775807 := by omega
        by_cases hdo : i ≠ k ∧ (k < i ∨ ahead = true)
        · obtain ⟨hik, hd⟩ := hdo
          have mk : mixz k ahead t.Z (swz Z k r) i k = zs.Z r := by rw [mixz_k, ek]
          have mi : mixz k ahead t.Z (swz Z k r) i i = swz zs.Z k r i := by rw [mixz_ge (Nat.le_refl i), ei i hi hd]
          obtain ⟨x, p2, G2, rfl, H2⟩ := s_row H' hi hk hik (by omega) (by omega) (by omega) (Q := Q) (by omega) (fun j hj => by
              rw [mi]
              have := b1 (if i = k then r else if i = r then k else i) (by split <;> (try split) <;> omega) j hj
              show L (zs.Z (if i = k then r else if i = r then k else i) j) ≤ Q
              omega) (fun j hj => by rw [mk]; have := b1 r hrn j hj; omega) ZZ.v (by omega) (R := t.Z i) (fun j hj => by rw [mk, mi]; exact ZZ.d i hi hik j)
          rw [mixz_do hik hd] at H2
          rcases Nat.lt_or_ge k i with hki | hki
          · have c1 : ((k : Int) < (i : Int)) := by omega
            clear H' hd mk mi b1 b2 hn ZZ rec
            have hw := i64_nat hi6
            refine go3 ?_
            exact rec2 _ ⟨_, _, _, _, H2, rfl⟩
          · have ha : ahead = true := by
              rcases hd with h | h
              · omega
              · exact h
            subst ha
            have c1 : ¬ ((k : Int) < (i : Int)) := by omega
            have c2 : ((i : Int) < (k : Int)) := by omega
            clear H' hd mk mi b1 b2 hn ZZ rec
            have hw := i64_nat hi6
            refine go3 ?_
            exact rec2 _ ⟨_, _, _, _, H2, rfl⟩
        · rw [← mixz_skip hdo] at H'
          have c0 : ¬ (k < i) := fun h => hdo ⟨by omega, .inl h⟩
          have c1 : ¬ ((k : Int) < (i : Int)) := by omega
          cases ahead with
          | true =>
            have c3 : ¬ (i < k) := fun h => hdo ⟨by omega, .inr rfl⟩
            have c2 : ¬ ((i : Int) < (k : Int)) := by omega
            clear b1 b2 hn ZZ rec hdo
            have hw := i64_nat hi6
            refine go3 ?_
            exact rec2 _ ⟨_, _, _, _, H', rfl⟩
          | false =>
            clear b1 b2 hn ZZ rec hdo
            have hw := i64_nat hi6
            refine go3 ?_
            exact rec2 _ ⟨_, _, _, _, H', rfl⟩
      · clear p1 H' G'
        rintro s ⟨j6, j25, j37, G', H', rfl⟩
        have hlt2 : ¬ ((n : Int) < (n : Int)) := nlt_c
        have w1 := H'.work
        have w2 := H'.tab
        have rk := H'.row k hk
        have t1 := rwg_getE (f := fun i => AV.ref (h0.length + key' i) 0 2 0 c) hk
        rw [mixz_k, ek] at rk
        have q1 := em_getN (f := eZ) (rwg c (zs.Z r)) k (by rw [rwg_len]; omega)
        rw [rwg_get (by omega), ← ZZ.pv] at q1
        have c3 : ((k : Int) < (c : Int)) := by omega
        have H2 := H'.setpv t.pv
        have lo2 : ∀ i, k + 1 ≤ i → i < n → mixz k ahead t.Z (swz Z k r) n i = t.Z i := fun i h1 h2 => if_pos ⟨h2, by omega, .inl (by omega)⟩
        have all2 : ahead = true → ∀ i, i < n → mixz k ahead t.Z (swz Z k r) n i = t.Z i := fun ha i hi => by
          by_cases e : i = k
          · subst e
            rw [mixz_k, ek]
            funext j
            exact (ZZ.at_ j).symm
          · exact if_pos ⟨hi, e, .inr ha⟩
        clear H' b1 b2 ZZ
        have hw := i64_nat hk6
        refine go3 ?_
        exact rec _ ⟨_, _, _, _, _, _, _, _, _, _, _, _, _, ⟨hn, H2, lo2, all2⟩, rfl⟩
    · have p1 := s_pivot0 H hk (by omega) (by omega) fun i h1 h2 => by rw [hlo i h1 h2]; exact h0z i h1 h2
      have hnone : zrun n A n = none := by
        have := zrun_none_mono hn (n - (k + 1))
        rwa [show k + 1 + (n - (k + 1)) = n by omega] at this
      clear b1 b2 h0z hz H rec
      refine go3 ?_
      exact ⟨_, rfl, _, .inl ⟨hnone, rfl⟩⟩
  · clear H G key vt
    rintro s ⟨j5, j6, j13, j18, j23, j24, j25, j37, G, Z, key, vt, zs, ⟨hz, H, hlo, hall⟩, rfl⟩
    have hlt : ¬ ((n : Int) < (n : Int)) := nlt_c
    clear hA hlo
    refine go3 ?_
    exact ⟨_, rfl, _, .inr ⟨zs, hz, _, _, _, rfl, H, hall⟩⟩
end Go.S

end
section
set_option linter.unusedVariables false
set_option linter.unusedSimpArgs false
set_option maxRecDepth 100000
namespace Go.S
open Go Go.AM Go.RowKit Go.K
theorem s_shaped1 (r : List Int) (c : Int) : CP (CL F) 50 [eRZ r, .fad (.int .i64 c)] = some (.bool (decide ((r.length : Int) ≠ c))) := by
  refine CP_X (F := F) (f := 50) rfl rfl ?_
  have c3 : ∀ h, fz h (.fad (.int .i64 c)) = some (.fad (.int .i64 c)) := fun _ => rfl
  refine go3 ?_
  simp
def shp (t : List (List Int)) (c : Nat) : Bool := decide (t.length ≤ 100) && decide (c ≤ 100) && t.all fun r => decide (r.length = c)
theorem shp_iff {t : List (List Int)} {c : Nat} : shp t c = true ↔ t.length ≤ 100 ∧ c ≤ 100 ∧ ∀ r ∈ t, r.length = c := by
  unfold shp
  simp [and_assoc]
theorem s_shaped {t : List (List Int)} (hl : t.length ≤ 1000000) (c : Nat) : CP (CL F) 26 [eTZ t, eI c] = some (.bool (shp t c)) := by
  refine CP_X (F := F) (f := 26) rfl rfl ?_
  have h1 := z_ContainsRow (t := t) (g := 50) (c := c) hl fun x _ => s_shaped1 x _
  have h2 : t.any (fun x => decide ((x.length : Int) ≠ (c : Int))) = !(t.all fun r => decide (r.length = c)) := by
    rw [List.not_all_eq_any_not]
    congr 1
    funext r
    by_cases h : r.length = c
    · simp [h]
    · simp [h]; omega
  have c5 : ∀ g, fz (some ⟨0, 1, [eI c]⟩ :: g) (.fn 50 [] [.ptr 0 0 0 0]) = some (.fn 50 [] [.fad (eI c)]) := fun _ => rfl
  have c6 : ∀ g, used (some ⟨0, 1, [eI c]⟩ :: g) deep (.fn 50 [] [.ptr 0 0 0 0]) = [0] := fun _ => rfl
  rw [h2] at h1
  clear h2
  unfold shp
  generalize (t.all fun r => decide (r.length = c)) = b at *
  by_cases a1 : t.length ≤ 100
  · have b1 : ((t.length : Int) ≤ 100) := by omega
    have b3 : decide (t.length ≤ 100) = true := decide_eq_true a1
    by_cases a2 : c ≤ 100
    · have b2 : ((c : Int) ≤ 100) := by omega
      have b4 : decide (c ≤ 100) = true := decide_eq_true a2
      cases b with
      | true =>
        rw [Bool.not_true] at h1
        clear a1 a2
        refine go3 ?_
        trivial
      | false =>
        rw [Bool.not_false] at h1
        clear a1 a2
        refine go3 ?_
        trivial
    · have b2 : ¬ ((c : Int) ≤ 100) := by omega
      have b4 : decide (c ≤ 100) = false := decide_eq_false a2
      have b5 : (true && false && b) = false := rfl
      clear a1 a2
      refine go3 ?_
      trivial
  · have b1 : ¬ ((t.length : Int) ≤ 100) := by omega
    have b3 : decide (t.length ≤ 100) = false := decide_eq_false a1
    have b5 : ∀ x, (false && x && b) = false := fun _ => rfl
    clear a1
    refine go3 ?_
    trivial
theorem s_signed {n c : Nat} {Z : Zt} {neg : Bool} {pv : Int} {h0 G : Heap} {key : Nat → Nat} {vt : Nat} {tb : AV} (w1 : G[0]? = some (some ⟨0, 4, [aB tb pv neg]⟩)) {a : Int} (ha : L a < 100000000) :
    CL F 42 [.ptr h0.length 0 0 0, eZ a] (h0 ++ G) = some (eZ (sgz neg * a), h0 ++ (G ++ [some ⟨0, 2, [eZ a]⟩, some ⟨0, 2, [eZ (sgz neg * a)]⟩])) := by
  refine CL_X (F := F) (f := 42) rfl rfl ?_
  have a1 := app_get w1
  have k1 := s_whole_Neg (z := a) (by omega)
  have k2 := s_whole_Neg (z := -a) (by rw [L_neg]; omega)
  cases neg with
  | true =>
    have e : sgz true * a = -a := by unfold sgz; simp
    rw [e]
    clear e ha
    refine go3 ?_
    trivial
  | false =>
    have e : sgz false * a = a := by unfold sgz; simp
    rw [Int.neg_neg] at k2
    rw [e]
    clear e ha
    refine go3 ?_
    trivial
theorem s_zbegin0 (h0 : Heap) : CL F 40 [.lst []] h0 = some (.ptr h0.length 0 0 0, h0 ++ [some ⟨0, 4, [aB .nil 1 false]⟩]) := by
  refine CL_X (F := F) (f := 40) rfl rfl ?_
  have h3 := s_whole_Of (a := 1) (by decide) (by decide)
  refine go3 ?_
  refine X_round ?_
  refine go3 ?_
  trivial
theorem s_zrun0 (h0 : Heap) (ahead : Bool) : CL F 41 [.ptr h0.length 0 0 0, .bool ahead] (h0 ++ [some ⟨0, 4, [aB .nil 1 false]⟩]) = some (.bool true, h0 ++ [some ⟨0, 4, [aB .nil 1 false]⟩]) := by
  refine CL_X (F := F) (f := 41) rfl rfl ?_
  refine go3 ?_
  refine X_round ?_
  refine go3 ?_
  trivial
end Go.S

end
section
set_option linter.unusedVariables false
set_option linter.unusedSimpArgs false
set_option maxRecDepth 100000
namespace Go.S
open Go Go.AM Go.RowKit Go.K
def zB (K : Nat) : Nat → Nat
  | 0 => 1
  | n + 1 => K + zB K n + (n + 1)
theorem zsm_size {f : Nat → Int} {M : Nat} : ∀ j, (∀ i, i < j → L (f i) ≤ M) → L (zsm j f) ≤ M + j := by
  intro j
  induction j with
  | zero => intro _; show L 0 ≤ _; rw [L_zero]; omega
  | succ j ih =>
    intro h
    have h1 := ih fun i hi => h i (by omega)
    have h2 := h j (by omega)
    have h3 := L_add (zsm j f) (f j)
    show L (zsm j f + f j) ≤ _
    omega
def ztm (n : Nat) (A : Zt) (j : Nat) : Int := if j % 2 = 1 then -(A 0 j * zdet n (cutz A j)) else A 0 j * zdet n (cutz A j)
theorem ztm_size {K n : Nat} {A : Zt} {j : Nat} (hj : L (A 0 j) ≤ K) (hd : L (zdet n (cutz A j)) ≤ zB K n) : L (ztm n A j) ≤ K + zB K n := by
  have := L_mul (A 0 j) (zdet n (cutz A j))
  unfold ztm
  split
  · rw [L_neg]; omega
  · omega
theorem zdet_size {K : Nat} : ∀ n {A : Zt}, (∀ i, i < n → ∀ c, c < n → L (A i c) ≤ K) → L (zdet n A) ≤ zB K n := by
  intro n
  induction n with
  | zero => intro A _; exact L_one
  | succ n ih =>
    intro A h
    rw [zdet_succ]
    exact zsm_size (f := ztm n A) (n + 1) fun j hj => ztm_size (h 0 (by omega) j hj) (ih fun i hi c hc => h (i + 1) (by omega) (sk j c) (sk_lt hc))
end Go.S

end
section
set_option linter.unusedVariables false
namespace Go.S
open Go Go.AM Go.RowKit Go.K
def runsTrue2 (F : Nat → Option AFunc) (n f : Nat) : Bool := match callN F n f [] [] with
  | some (.bool b, _) => b
  | _ => false
theorem CP_run2 {F : Nat → Option AFunc} {f : Nat} (n : Nat) (h : runsTrue2 F n f = true) : CP (CL F) f [] = some (.bool true) := by
  unfold runsTrue2 at h
  split at h
  · next b g hb =>
    subst h
    exact CP_raw (CL_of n hb) rfl
  · cases h
end Go.S

end
section
set_option linter.unusedVariables false
set_option linter.unusedSimpArgs false
set_option maxRecDepth 100000
namespace Go.S
open Go Go.AM Go.RowKit Go.K
abbrev XZ := Bool × List Int
def XZ.ok (x : XZ) : Prop := (∀ y ∈ x.2, 0 ≤ y) ∧ x.2.length < 17592186044416
def eXZ (x : XZ) : AV := .agg [.bool x.1, .lst (u x.2)]
theorem cells_eXZ {x : XZ} : cells (eXZ x) = [.bool x.1, .lst (u x.2)] := rfl
theorem agg_eXZ {x : XZ} : AV.agg [.bool x.1, .lst (u x.2)] = eXZ x := rfl
theorem fz_eXZ {x : XZ} {h} : fz h (eXZ x) = some (eXZ x) := fz_plain1 rfl
theorem us_eXZ {x : XZ} {h} : used h deep (eXZ x) = [] := us_plain1 rfl
abbrev eXZL (l : List XZ) : AV := .lst (em eXZ l)
instance : Inhabited XZ := ⟨(false, [])⟩
def clz (x : XZ) : Int := sg x.1 (cl x.2 2)
theorem L_sg (b : Bool) (n : Int) : L (sg b n) = L n := by unfold sg; split <;> simp [L_neg]
theorem clz_L (x : XZ) : L (clz x) ≤ 2 := by unfold clz; rw [L_sg]; exact L_cl _ _
theorem s_Cleanz {x : XZ} (h : x.ok) : CP (CL F) 24 [eXZ x, eI 2] = some (eZ (clz x)) := s_r07_Clean x.1 x.2 2 h.1 h.2
def fewz (most : Nat) (t : List (List XZ)) : List (List Int) := (t.take most).map fun l => (l.take most).map clz
theorem s_Few15 {t : List (List XZ)} (hx : ∀ l ∈ t, ∀ x ∈ l, x.ok) {most : Nat} (hm : most ≤ 1000000) : CP (CL F) 7 [.lst (em eXZL t), eI most] = some (.tup [eTZ (fewz most t), rTZ (fewz most t)]) := by
  refine CP_X (F := F) (f := 7) rfl rfl ?_
  unfold fewz
  have cx : ∀ i, i < t.length → ∀ k, k < (t.getD i default).length → CP (CL F) 24 [eXZ ((t.getD i default).getD k default), eI 2] = some (eZ (clz ((t.getD i default).getD k default))) := fun i hi k hk => s_Cleanz (hx _ (getD_mem hi) _ (getD_mem hk))
  clear hx
  refine go3 ?_
  refine X_upto (min t.length most) (fun i s => ∃ j9 j10 j11 j12 j23 j39 v w g, s = ⟨[(0, .lst (em eXZL t)), (1, eI most), (4, .nil), (5, .nil), (6, .ref 0 v 1 0 i), (7, .ref 1 w 1 0 i), (8, eI i), (9, j9), (10, j10), (11, j11), (12, j12), (23, j23), (39, j39)], some ⟨v, 1, em eRZ ((t.take i).map fun l => (l.take most).map clz)⟩ :: some ⟨w, 1, em rRZ ((t.take i).map fun l => (l.take most).map clz)⟩ :: g⟩) ?_ 0 (Nat.zero_le _) _ ⟨_, _, _, _, _, _, _, _, [], rfl⟩
  rintro i s hi ⟨j9, j10, j11, j12, j23, j39, v, w, g, rfl⟩ rec
  have hlen : ((t.take i).map fun l => (l.take most).map clz).length = i := by simp; omega
  have ht : List.take i ((t.take i).map fun l => (l.take most).map clz) = (t.take i).map fun l => (l.take most).map clz := take_len_g _ hlen.symm
  by_cases h1 : i < t.length
  · have h1' := lt_c h1
    by_cases h2 : i < most
    · have h2' := lt_c h2
      have hi2 : i < min t.length most := by omega
      have hg0 := em_getN (f := eXZL) t i h1
      have ck := cx i h1
      have hs : ((t.take i).map fun l => (l.take most).map clz) ++ [((t.getD i default).take most).map clz] = (t.take (i + 1)).map fun l => (l.take most).map clz := by rw [take_succ_getD t i h1]; simp
      have hlim : i < 5864062014805 := by omega
      have hi6 : i < 9223372036854775807 := by omega
      generalize ((t.take i).map fun l => (l.take most).map clz) = Q at *
      generalize ((t.take (i + 1)).map fun l => (l.take most).map clz) = Q' at *
      generalize t.getD i default = l at *
      clear hi cx h1
      have c1 := @cells_eXZ
      have c2 := @agg_eXZ
      have c3 := @fz_eXZ
      have c4 := @us_eXZ
      refine go3 ?_
      refine X_upto (min l.length most) (fun k s => ∃ j12 j39 v' w' g', s = ⟨[(0, .lst (em eXZL t)), (1, eI most), (4, .nil), (5, .nil), (6, .ref 0 v 1 0 i), (7, .ref 1 w 1 0 i), (8, eI i), (9, .ref (g.length + 1 + 1) v' 2 0 k), (10, .ref (g.length + 1 + 1 + 1) w' 2 0 k), (11, eI k), (12, j12), (23, .bool true), (39, j39)], some ⟨v, 1, em eRZ Q⟩ :: some ⟨w, 1, em rRZ Q⟩ :: (g ++ (some ⟨v', 2, em eZ ((l.take k).map clz)⟩ :: some ⟨w', 2, em rZ ((l.take k).map clz)⟩ :: g'))⟩) ?_ 0 (Nat.zero_le _) _ ⟨_, _, _, _, [], rfl⟩
      rintro k s hk ⟨j12, j39, v', w', g', rfl⟩ rec2
      have hlk : ((l.take k).map clz).length = k := by simp; omega
      have htk : List.take k ((l.take k).map clz) = (l.take k).map clz := take_len_g _ hlk.symm
      by_cases d1 : k < l.length
      · have d1' := lt_c d1
        by_cases d2 : k < most
        · have d2' := lt_c d2
          have hk2 : k < min l.length most := by omega
          have hg1 := em_getN (f := eXZ) l k d1
          have cl1 := ck k d1
          have o1 := s_r07_Of (z := clz (l.getD k default)) (by have := clz_L (l.getD k default); omega)
          have hs2 : ((l.take k).map clz) ++ [clz (l.getD k default)] = (l.take (k + 1)).map clz := by rw [take_succ_getD l k d1]; simp
          have hlim2 : k < 4398046511104 := by omega
          have hk6 : k < 9223372036854775807 := by omega
          generalize (l.take k).map clz = R at *
          generalize (l.take (k + 1)).map clz = R' at *
          generalize clz (l.getD k default) = z at *
          generalize l.getD k default = xz at *
          clear ck hk rec
          have hw := i64_nat hk6
          refine go3 ?_
          exact rec2 _ hk2 ⟨_, _, _, _, _, rfl⟩
        · have d2' : ¬ ((k : Int) < (most : Int)) := by omega
          have hke : k = most := by omega
          subst hke
          generalize (l.take k).map clz = R at *
          have sb1 : sub (em eZ R) 0 k = em eZ R := by rw [em_sub, List.drop_zero, htk]
          have sb2 : sub (em rZ R) 0 k = em rZ R := by rw [em_sub, List.drop_zero, htk]
          clear ck rec2 hk d1
          have hw := i64_nat hi6
          refine go3 ?_
          exact rec _ hi2 ⟨_, _, _, _, _, _, _, _, _, rfl⟩
      · have d1' : ¬ ((k : Int) < (l.length : Int)) := by omega
        have e1 : l.take most = l := List.take_of_length_le (by omega)
        have e2 : l.take k = l := List.take_of_length_le (by omega)
        rw [e2] at hlk htk
        rw [e2]
        rw [e1] at hs
        generalize l.map clz = R at *
        have sb1 : sub (em eZ R) 0 k = em eZ R := by rw [em_sub, List.drop_zero, htk]
        have sb2 : sub (em rZ R) 0 k = em rZ R := by rw [em_sub, List.drop_zero, htk]
        clear ck rec2 hk d1 e1 e2
        have hw := i64_nat hi6
        refine go3 ?_
        exact rec _ hi2 ⟨_, _, _, _, _, _, _, _, _, rfl⟩
    · have h2' : ¬ ((i : Int) < (most : Int)) := by omega
      have hie : i = most := by omega
      subst hie
      generalize ((t.take i).map fun l => (l.take i).map clz) = Q at *
      clear cx rec hi h1
      refine go3 ?_
      trivial
  · have h1' : ¬ ((i : Int) < (t.length : Int)) := by omega
    have e1 : t.take most = t := List.take_of_length_le (by omega)
    have e2 : t.take i = t := List.take_of_length_le (by omega)
    rw [e2] at hlen ht
    rw [e2, e1]
    generalize (t.map fun l => (l.take most).map clz) = Q at *
    clear cx rec hi h1 e1 e2
    refine go3 ?_
    trivial
theorem s_works15 : CP (CL F) 11 [] = some (.bool true) := CP_run2 300 (by decide +kernel)
end Go.S

end
section
set_option linter.unusedVariables false
set_option linter.unusedSimpArgs false
set_option maxRecDepth 100000
namespace Go.Proofs.Ytflnfnemhgjglaa.R
open Go Go.AM Go.S Go.RowKit Go.K Go.Proofs
def okN (l : List Int) : Prop := (∀ x ∈ l, 0 ≤ x) ∧ l.length < 17592186044416
theorem bytes64 : Try.prog.bytesOf 61 = 8 := by kernel_rfl
theorem rdU : Rd Try.prog 61 (fun n : Int => [.int .u64 n]) fun n => (Lit.int .u64 n).wf = true := rd_int Try.underlying61
theorem rdN : Rd Try.prog 27 (fun l : List Int => [.lst (u l)]) okN :=
  (rd_slice Try.underlying27 rdU (fun n => AV.int .u64 n) (fun _ => rfl) (s := 1) (by kernel_rfl) (fun _ => rfl) (by decide)).map id (fun _ => rfl) fun l ⟨h1, h2⟩ => ⟨fun x hx => (wf_u64 (h1 x hx)).1, by
    rw [bytes64] at h2
    have : reachBytes = 140737488351232 := rfl
    show l.length < _
    omega⟩
theorem rdZ : Rd Try.prog 29 (fun z : Bool × List Int => [.bool z.1, .lst (u z.2)]) fun z => okN z.2 := by
  refine Rd.map (f := fun p : Bool × List Int × Unit => [AV.bool p.1] ++ ([AV.lst (u p.2.1)] ++ [])) (ok := fun p => True ∧ okN p.2.1 ∧ True) (rd_struct Try.underlying29 (fun _ => by kernel_rfl) ?_) (fun p => (p.1, p.2.1)) (fun _ => rfl) fun p h => h.2.1
  refine rdfs_cons (s := 1) (f := fun b : Bool => [AV.bool b]) (g := fun q : List Int × Unit => [AV.lst (u q.1)] ++ []) (ok := fun _ => True) (okb := fun q => okN q.1 ∧ True) rfl (by kernel_rfl) (fun _ => rfl) (rd_bool Try.underlying4) ?_
  exact rdfs_cons (s := 1) (f := fun l : List Int => [AV.lst (u l)]) (g := fun _ : Unit => []) (ok := okN) (okb := fun _ => True) rfl (by kernel_rfl) (fun _ => rfl) rdN rdfs_nil
theorem rdRZ : Rd Try.prog 46 (fun l : List XZ => [.lst (em eXZ l)]) fun l => ∀ x ∈ l, XZ.ok x :=
  (rd_slice Try.underlying46 rdZ eXZ (fun _ => rfl) (s := 2) (by kernel_rfl) (fun _ => rfl) (by decide)).map id (fun _ => rfl) fun l h => h.1
theorem rdTZ : Rd Try.prog 22 (fun l : List (List XZ) => [.lst (em eXZL l)]) fun l => ∀ r ∈ l, ∀ x ∈ r, XZ.ok x :=
  (rd_slice Try.underlying22 rdRZ eXZL (fun _ => rfl) (s := 1) (by kernel_rfl) (fun _ => rfl) (by decide)).map id (fun _ => rfl) fun l h => h.1
end Go.Proofs.Ytflnfnemhgjglaa.R

end
