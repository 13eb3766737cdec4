/- A part of the proof of the law SolveSolved: an abstract machine for the functions' code with its soundness, words, lemmas (assembled by a program). -/
import Derived.Test.YtflnfnemhgjglaaGreatProg
import Derived.KernelRfl
import Derived.Test.YtflnfnemhgjglaaGreatCSolveSolved3
set_option linter.unusedVariables false
set_option linter.unusedSimpArgs false
set_option linter.unusedSectionVars false
section
set_option linter.unusedVariables false
set_option linter.unusedSimpArgs false
set_option maxRecDepth 100000
namespace Go.S
open Go Go.AM Go.RowKit Go.K
theorem e_nat_Cmp {k : Nat} {l0 : List Int} {l1 : List Int} {r : Int} (H : nat_Cmp.f k l0 l1 = some r) : CP (CL F) 69 [(.lst (u l0)), (.lst (u l1))] = some (.int .i64 r) := by
  refine CP_X (F := F) (f := 69) rfl rfl ?_
  unfold nat_Cmp.f at H
  repeat' with_reducible (first | (refine none_some H; done) | (refine ite_e H ?_ ?_ <;> clear H <;> intro c H <;> (try simp only [int_beq, decide_eq_true_eq] at c) <;> first | (have : (_ : Bool) = _ := c; clear this) | (have : ¬ (_ : Bool) = _ := c; clear this) | (replace c := eq_false c; try simp only [List.length_replicate, List.length_set, List.length_nil, List.length_cons, Nat.zero_add] at c) | (replace c := eq_true c; try simp only [List.length_replicate, List.length_set, List.length_nil, List.length_cons, Nat.zero_add] at c)) | (refine bind_k (by assumption) H ?_; clear H; intro H) | (refine bind_e H ?_; clear H; intro _ q H; first | (replace q := Option.some.inj q; subst q) | skip))
  all_goals with_reducible (first | (replace H := Option.some.inj H; subst H) | skip)
  all_goals (try simp only [List.length_replicate, List.length_set] at H)
  all_goals (refine go2 ?_)
  all_goals (first | trivial | skip)
  all_goals first
   |
      (refine X_fuel3 (L := fun n (y : List Int × List Int × Int) => nat_Cmp.l0 n y.1 y.2.1 y.2.2) (S := fun y s => ∃ j4 j6 j12 j22 j25 j35 g, s = ⟨[(0, (.lst (u y.1))), (1, (.lst (u y.2.1))), (4, j4), (5, (.int .i64 y.2.2)), (6, j6), (12, j12), (22, j22), (25, j25), (35, j35)], g⟩) (fun _ => by simp only [nat_Cmp.l0]) _ ?_ _ (Nat.le_refl _) (_, _, _) _ H ⟨_, _, _, _, _, _, _, rfl⟩
       clear H
       rintro nl0 hnl0 ⟨x0, x1, x5⟩ s H ⟨j4, j6, j12, j22, j25, j35, g, rfl⟩ recl0
       simp only [nat_Cmp.l0] at H
       repeat' with_reducible (first | (refine none_some H; done) | (refine ite_e H ?_ ?_ <;> clear H <;> intro c H <;> (try simp only [int_beq, decide_eq_true_eq] at c) <;> first | (have : (_ : Bool) = _ := c; clear this) | (have : ¬ (_ : Bool) = _ := c; clear this) | (replace c := eq_false c; try simp only [List.length_replicate, List.length_set, List.length_nil, List.length_cons, Nat.zero_add] at c) | (replace c := eq_true c; try simp only [List.length_replicate, List.length_set, List.length_nil, List.length_cons, Nat.zero_add] at c)) | (refine bind_k (by assumption) H ?_; clear H; intro H) | (refine bind_e H ?_; clear H; intro _ q H; first | (replace q := Option.some.inj q; subst q) | skip))
       all_goals with_reducible (first | (replace H := Option.some.inj H; subst H) | skip)
       all_goals (try simp only [List.length_replicate, List.length_set] at H)
       all_goals (refine go2 ?_)
       all_goals (first | (trivial) | (exact recl0 _ (by omega) (_, _, _) _ H ⟨_, _, _, _, _, _, _, rfl⟩) | skip))
   | skip
theorem e_nat_trim {k : Nat} {l0 : List Int} {r : List Int} (H : nat_trim.f k l0 = some r) : CP (CL F) 139 [(.lst (u l0))] = some (.lst (u r)) := by
  refine CP_X (F := F) (f := 139) rfl rfl ?_
  unfold nat_trim.f at H
  repeat' with_reducible (first | (refine none_some H; done) | (refine ite_e H ?_ ?_ <;> clear H <;> intro c H <;> (try simp only [int_beq, decide_eq_true_eq] at c) <;> first | (have : (_ : Bool) = _ := c; clear this) | (have : ¬ (_ : Bool) = _ := c; clear this) | (replace c := eq_false c; try simp only [List.length_replicate, List.length_set, List.length_nil, List.length_cons, Nat.zero_add] at c) | (replace c := eq_true c; try simp only [List.length_replicate, List.length_set, List.length_nil, List.length_cons, Nat.zero_add] at c)) | (refine bind_k (by assumption) H ?_; clear H; intro H) | (refine bind_e H ?_; clear H; intro _ q H; first | (replace q := Option.some.inj q; subst q) | skip))
  all_goals with_reducible (first | (replace H := Option.some.inj H; subst H) | skip)
  all_goals (try simp only [List.length_replicate, List.length_set] at H)
  all_goals (refine go2 ?_)
  all_goals (first | trivial | skip)
  all_goals first
   |
      (refine X_fuel3 (L := fun n (y : List Int × Int) => nat_trim.l0 n y.1 y.2) (S := fun y s => ∃ j2 j15 g, s = ⟨[(0, (.lst (u y.1))), (2, j2), (3, (.int .i64 y.2)), (15, j15)], g⟩) (fun _ => by simp only [nat_trim.l0]) _ ?_ _ (Nat.le_refl _) (_, _) _ H ⟨_, _, _, rfl⟩
       clear H
       rintro nl0 hnl0 ⟨x0, x3⟩ s H ⟨j2, j15, g, rfl⟩ recl0
       simp only [nat_trim.l0] at H
       repeat' with_reducible (first | (refine none_some H; done) | (refine ite_e H ?_ ?_ <;> clear H <;> intro c H <;> (try simp only [int_beq, decide_eq_true_eq] at c) <;> first | (have : (_ : Bool) = _ := c; clear this) | (have : ¬ (_ : Bool) = _ := c; clear this) | (replace c := eq_false c; try simp only [List.length_replicate, List.length_set, List.length_nil, List.length_cons, Nat.zero_add] at c) | (replace c := eq_true c; try simp only [List.length_replicate, List.length_set, List.length_nil, List.length_cons, Nat.zero_add] at c)) | (refine bind_k (by assumption) H ?_; clear H; intro H) | (refine bind_e H ?_; clear H; intro _ q H; first | (replace q := Option.some.inj q; subst q) | skip))
       all_goals with_reducible (first | (replace H := Option.some.inj H; subst H) | skip)
       all_goals (try simp only [List.length_replicate, List.length_set] at H)
       all_goals (refine go2 ?_)
       all_goals (first | (trivial) | (exact recl0 _ (by omega) (_, _) _ H ⟨_, _, _, rfl⟩) | skip))
   | skip
theorem e_nat_Make {k : Nat} {l0 : List Int} {r : List Int × Int} (H : nat_Make.f k l0 = some r) : CP (CL F) 142 [(.lst (u l0))] = some (.tup [(.lst (u r.1)), (.int .i64 r.2)]) := by
  refine CP_X (F := F) (f := 142) rfl rfl ?_
  unfold nat_Make.f at H
  repeat' with_reducible (first | (refine none_some H; done) | (refine ite_e H ?_ ?_ <;> clear H <;> intro c H <;> (try simp only [int_beq, decide_eq_true_eq] at c) <;> first | (have : (_ : Bool) = _ := c; clear this) | (have : ¬ (_ : Bool) = _ := c; clear this) | (replace c := eq_false c; try simp only [List.length_replicate, List.length_set, List.length_nil, List.length_cons, Nat.zero_add] at c) | (replace c := eq_true c; try simp only [List.length_replicate, List.length_set, List.length_nil, List.length_cons, Nat.zero_add] at c)) | (refine bind_k (by assumption) H ?_; clear H; intro H) | (refine bind_e H ?_; clear H; intro _ q H; first | (have q' := e_nat_trim q; try simp only [u_nil, ui_nil, List.length_replicate, List.length_set, List.cons_append, List.nil_append] at q') | (replace q := Option.some.inj q; subst q) | skip))
  all_goals with_reducible (first | (replace H := Option.some.inj H; subst H) | skip)
  all_goals (try simp only [List.length_replicate, List.length_set] at H)
  all_goals (refine go2 ?_)
  all_goals (first | trivial | skip)
  all_goals first
   |
      (refine X_fuel3 (L := fun n (y : List Int × List Int × Int × Int) => nat_Make.l0 n y.1 y.2.1 y.2.2.1 y.2.2.2) (S := fun y s => ∃ j2 j3 m0 j6 j13 j17 v0 g, s = ⟨[(0, (.lst (u l0))), (2, j2), (3, j3), (4, .ref 0 v0 1 0 m0), (6, j6), (10, (.lst (u y.2.1))), (11, (.int .i64 y.2.2.1)), (12, (.int .i64 y.2.2.2)), (13, j13), (17, j17)], some ⟨v0, 1, u y.1⟩ :: g⟩ ∧ m0 = y.1.length) (fun _ => by simp only [nat_Make.l0]) _ ?_ _ (Nat.le_refl _) (_, _, _, _) _ H ⟨_, _, _, _, _, _, _, _, rfl, by simp⟩
       clear H
       rintro nl0 hnl0 ⟨x4, x10, x11, x12⟩ s H ⟨j2, j3, m0, j6, j13, j17, v0, g, rfl, rfl⟩ recl0
       simp only [nat_Make.l0] at H
       repeat' with_reducible (first | (refine none_some H; done) | (refine ite_e H ?_ ?_ <;> clear H <;> intro c H <;> (try simp only [int_beq, decide_eq_true_eq] at c) <;> first | (have : (_ : Bool) = _ := c; clear this) | (have : ¬ (_ : Bool) = _ := c; clear this) | (replace c := eq_false c; try simp only [List.length_replicate, List.length_set, List.length_nil, List.length_cons, Nat.zero_add] at c) | (replace c := eq_true c; try simp only [List.length_replicate, List.length_set, List.length_nil, List.length_cons, Nat.zero_add] at c)) | (refine bind_k (by assumption) H ?_; clear H; intro H) | (refine bind_e H ?_; clear H; intro _ q H; first | (have q' := e_nat_trim q; try simp only [u_nil, ui_nil, List.length_replicate, List.length_set, List.cons_append, List.nil_append] at q') | (replace q := Option.some.inj q; subst q) | skip))
       all_goals with_reducible (first | (replace H := Option.some.inj H; subst H) | skip)
       all_goals (try simp only [List.length_replicate, List.length_set] at H)
       all_goals (refine go2 ?_)
       all_goals (first | (trivial) | (exact recl0 _ (by omega) (_, _, _, _) _ H ⟨_, _, _, _, _, _, _, _, rfl, by simp⟩) | skip))
   | skip
theorem e_whole_Made {k : Nat} {a0 : Bool} {l1 : List Int} {r : Bool × List Int} (H : whole_Made.f k a0 l1 = some r) : CP (CL F) 96 [(.bool a0), (.lst (u l1))] = some (.agg [(.bool r.1), (.lst (u r.2))]) := by
  refine CP_X (F := F) (f := 96) rfl rfl ?_
  unfold whole_Made.f at H
  repeat' with_reducible (first | (refine none_some H; done) | (refine ite_e H ?_ ?_ <;> clear H <;> intro c H <;> (try simp only [int_beq, decide_eq_true_eq] at c) <;> first | (have : (_ : Bool) = _ := c; clear this) | (have : ¬ (_ : Bool) = _ := c; clear this) | (replace c := eq_false c; try simp only [List.length_replicate, List.length_set, List.length_nil, List.length_cons, Nat.zero_add] at c) | (replace c := eq_true c; try simp only [List.length_replicate, List.length_set, List.length_nil, List.length_cons, Nat.zero_add] at c)) | (refine bind_k (by assumption) H ?_; clear H; intro H) | (refine bind_e H ?_; clear H; intro _ q H; first | (have q' := e_nat_Make q; try simp only [u_nil, ui_nil, List.length_replicate, List.length_set, List.cons_append, List.nil_append] at q') | (replace q := Option.some.inj q; subst q) | skip))
  all_goals with_reducible (first | (replace H := Option.some.inj H; subst H) | skip)
  all_goals (try simp only [List.length_replicate, List.length_set] at H)
  all_goals (refine go2 ?_)
  all_goals (first | trivial | skip)
theorem e_limb_Add {a0 : Int} {a1 : Int} {a2 : Int} {r : Int × Int} (H : limb_Add.f a0 a1 a2 = some r) : CP (CL F) 149 [(.int .u64 a0), (.int .u64 a1), (.int .u64 a2)] = some (.tup [(.int .u64 r.1), (.int .u64 r.2)]) := by
  refine CP_X (F := F) (f := 149) rfl rfl ?_
  unfold limb_Add.f at H
  repeat' with_reducible (first | (refine none_some H; done) | (refine ite_e H ?_ ?_ <;> clear H <;> intro c H <;> (try simp only [int_beq, decide_eq_true_eq] at c) <;> first | (have : (_ : Bool) = _ := c; clear this) | (have : ¬ (_ : Bool) = _ := c; clear this) | (replace c := eq_false c; try simp only [List.length_replicate, List.length_set, List.length_nil, List.length_cons, Nat.zero_add] at c) | (replace c := eq_true c; try simp only [List.length_replicate, List.length_set, List.length_nil, List.length_cons, Nat.zero_add] at c)) | (refine bind_k (by assumption) H ?_; clear H; intro H) | (refine bind_e H ?_; clear H; intro _ q H; first | (replace q := Option.some.inj q; subst q) | skip))
  all_goals with_reducible (first | (replace H := Option.some.inj H; subst H) | skip)
  all_goals (try simp only [List.length_replicate, List.length_set] at H)
  all_goals (refine go2 ?_)
  all_goals (first | trivial | skip)
theorem e_nat_at {l0 : List Int} {a1 : Int} {r : Int} (H : nat_at.f l0 a1 = some r) : CP (CL F) 150 [(.lst (u l0)), (.int .i64 a1)] = some (.int .u64 r) := by
  refine CP_X (F := F) (f := 150) rfl rfl ?_
  unfold nat_at.f at H
  repeat' with_reducible (first | (refine none_some H; done) | (refine ite_e H ?_ ?_ <;> clear H <;> intro c H <;> (try simp only [int_beq, decide_eq_true_eq] at c) <;> first | (have : (_ : Bool) = _ := c; clear this) | (have : ¬ (_ : Bool) = _ := c; clear this) | (replace c := eq_false c; try simp only [List.length_replicate, List.length_set, List.length_nil, List.length_cons, Nat.zero_add] at c) | (replace c := eq_true c; try simp only [List.length_replicate, List.length_set, List.length_nil, List.length_cons, Nat.zero_add] at c)) | (refine bind_k (by assumption) H ?_; clear H; intro H) | (refine bind_e H ?_; clear H; intro _ q H; first | (replace q := Option.some.inj q; subst q) | skip))
  all_goals with_reducible (first | (replace H := Option.some.inj H; subst H) | skip)
  all_goals (try simp only [List.length_replicate, List.length_set] at H)
  all_goals (refine go2 ?_)
  all_goals (first | trivial | skip)
theorem e_nat_Add {k : Nat} {l0 : List Int} {l1 : List Int} {r : List Int} (H : nat_Add.f k l0 l1 = some r) : CP (CL F) 121 [(.lst (u l0)), (.lst (u l1))] = some (.lst (u r)) := by
  refine CP_X (F := F) (f := 121) rfl rfl ?_
  unfold nat_Add.f at H
  repeat' with_reducible (first | (refine none_some H; done) | (refine ite_e H ?_ ?_ <;> clear H <;> intro c H <;> (try simp only [int_beq, decide_eq_true_eq] at c) <;> first | (have : (_ : Bool) = _ := c; clear this) | (have : ¬ (_ : Bool) = _ := c; clear this) | (replace c := eq_false c; try simp only [List.length_replicate, List.length_set, List.length_nil, List.length_cons, Nat.zero_add] at c) | (replace c := eq_true c; try simp only [List.length_replicate, List.length_set, List.length_nil, List.length_cons, Nat.zero_add] at c)) | (refine bind_k (by assumption) H ?_; clear H; intro H) | (refine bind_e H ?_; clear H; intro _ q H; first | (have q' := e_limb_Add q; try simp only [u_nil, ui_nil, List.length_replicate, List.length_set, List.cons_append, List.nil_append] at q') | (have q' := e_nat_at q; try simp only [u_nil, ui_nil, List.length_replicate, List.length_set, List.cons_append, List.nil_append] at q') | (have q' := e_nat_trim q; try simp only [u_nil, ui_nil, List.length_replicate, List.length_set, List.cons_append, List.nil_append] at q') | (replace q := Option.some.inj q; subst q) | skip))
  all_goals with_reducible (first | (replace H := Option.some.inj H; subst H) | skip)
  all_goals (try simp only [List.length_replicate, List.length_set] at H)
  all_goals (refine go2 ?_)
  all_goals (first | trivial | skip)
  all_goals first
   |
      (refine X_fuel3 (L := fun n (y : List Int × List Int × Int × List Int × Int × Int × Int) => nat_Add.l0 n y.1 y.2.1 y.2.2.1 y.2.2.2.1 y.2.2.2.2.1 y.2.2.2.2.2.1 y.2.2.2.2.2.2) (S := fun y s => ∃ j4 m0 j8 j19 v0 g, s = ⟨[(0, (.lst (u y.1))), (1, (.lst (u y.2.1))), (4, j4), (5, (.int .i64 y.2.2.1)), (6, .ref 0 v0 1 0 m0), (7, (.int .u64 y.2.2.2.2.1)), (8, j8), (17, (.int .i64 y.2.2.2.2.2.1)), (18, (.int .i64 y.2.2.2.2.2.2)), (19, j19)], some ⟨v0, 1, u y.2.2.2.1⟩ :: g⟩ ∧ m0 = y.2.2.2.1.length) (fun _ => by simp only [nat_Add.l0]) _ ?_ _ (Nat.le_refl _) (_, _, _, _, _, _, _) _ H ⟨_, _, _, _, _, _, rfl, by simp⟩
       clear H
       rintro nl0 hnl0 ⟨x0, x1, x5, x6, x7, x17, x18⟩ s H ⟨j4, m0, j8, j19, v0, g, rfl, rfl⟩ recl0
       simp only [nat_Add.l0] at H
       repeat' with_reducible (first | (refine none_some H; done) | (refine ite_e H ?_ ?_ <;> clear H <;> intro c H <;> (try simp only [int_beq, decide_eq_true_eq] at c) <;> first | (have : (_ : Bool) = _ := c; clear this) | (have : ¬ (_ : Bool) = _ := c; clear this) | (replace c := eq_false c; try simp only [List.length_replicate, List.length_set, List.length_nil, List.length_cons, Nat.zero_add] at c) | (replace c := eq_true c; try simp only [List.length_replicate, List.length_set, List.length_nil, List.length_cons, Nat.zero_add] at c)) | (refine bind_k (by assumption) H ?_; clear H; intro H) | (refine bind_e H ?_; clear H; intro _ q H; first | (have q' := e_limb_Add q; try simp only [u_nil, ui_nil, List.length_replicate, List.length_set, List.cons_append, List.nil_append] at q') | (have q' := e_nat_at q; try simp only [u_nil, ui_nil, List.length_replicate, List.length_set, List.cons_append, List.nil_append] at q') | (have q' := e_nat_trim q; try simp only [u_nil, ui_nil, List.length_replicate, List.length_set, List.cons_append, List.nil_append] at q') | (replace q := Option.some.inj q; subst q) | skip))
       all_goals with_reducible (first | (replace H := Option.some.inj H; subst H) | skip)
       all_goals (try simp only [List.length_replicate, List.length_set] at H)
       all_goals (refine go2 ?_)
       all_goals (first | (trivial) | (exact recl0 _ (by omega) (_, _, _, _, _, _, _) _ H ⟨_, _, _, _, _, _, rfl, by simp⟩) | skip))
   | skip
theorem e_nat_Of {k : Nat} {a0 : Int} {r : List Int} (H : nat_Of.f k a0 = some r) : CP (CL F) 93 [(.int .u64 a0)] = some (.lst (u r)) := by
  refine CP_X (F := F) (f := 93) rfl rfl ?_
  unfold nat_Of.f at H
  repeat' with_reducible (first | (refine none_some H; done) | (refine ite_e H ?_ ?_ <;> clear H <;> intro c H <;> (try simp only [int_beq, decide_eq_true_eq] at c) <;> first | (have : (_ : Bool) = _ := c; clear this) | (have : ¬ (_ : Bool) = _ := c; clear this) | (replace c := eq_false c; try simp only [List.length_replicate, List.length_set, List.length_nil, List.length_cons, Nat.zero_add] at c) | (replace c := eq_true c; try simp only [List.length_replicate, List.length_set, List.length_nil, List.length_cons, Nat.zero_add] at c)) | (refine bind_k (by assumption) H ?_; clear H; intro H) | (refine bind_e H ?_; clear H; intro _ q H; first | (have q' := e_nat_trim q; try simp only [u_nil, ui_nil, List.length_replicate, List.length_set, List.cons_append, List.nil_append] at q') | (replace q := Option.some.inj q; subst q) | skip))
  all_goals with_reducible (first | (replace H := Option.some.inj H; subst H) | skip)
  all_goals (try simp only [List.length_replicate, List.length_set] at H)
  all_goals (refine go2 ?_)
  all_goals (first | trivial | skip)
theorem e_whole_Of {k : Nat} {a0 : Int} {r : Bool × List Int} (H : whole_Of.f k a0 = some r) : CP (CL F) 80 [(.int .i64 a0)] = some (.agg [(.bool r.1), (.lst (u r.2))]) := by
  refine CP_X (F := F) (f := 80) rfl rfl ?_
  unfold whole_Of.f at H
  repeat' with_reducible (first | (refine none_some H; done) | (refine ite_e H ?_ ?_ <;> clear H <;> intro c H <;> (try simp only [int_beq, decide_eq_true_eq] at c) <;> first | (have : (_ : Bool) = _ := c; clear this) | (have : ¬ (_ : Bool) = _ := c; clear this) | (replace c := eq_false c; try simp only [List.length_replicate, List.length_set, List.length_nil, List.length_cons, Nat.zero_add] at c) | (replace c := eq_true c; try simp only [List.length_replicate, List.length_set, List.length_nil, List.length_cons, Nat.zero_add] at c)) | (refine bind_k (by assumption) H ?_; clear H; intro H) | (refine bind_e H ?_; clear H; intro _ q H; first | (have q' := e_nat_Add q; try simp only [u_nil, ui_nil, List.length_replicate, List.length_set, List.cons_append, List.nil_append] at q') | (have q' := e_nat_Of q; try simp only [u_nil, ui_nil, List.length_replicate, List.length_set, List.cons_append, List.nil_append] at q') | (have q' := e_whole_Made q; try simp only [u_nil, ui_nil, List.length_replicate, List.length_set, List.cons_append, List.nil_append] at q') | (replace q := Option.some.inj q; subst q) | skip))
  all_goals with_reducible (first | (replace H := Option.some.inj H; subst H) | skip)
  all_goals (try simp only [List.length_replicate, List.length_set] at H)
  all_goals (refine go2 ?_)
  all_goals (first | trivial | skip)
theorem e_whole_Sign {a0_0 : Bool} {l0_1 : List Int} {r : Int} (H : whole_Sign.f a0_0 l0_1 = some r) : CP (CL F) 116 [(.agg [(.bool a0_0), (.lst (u l0_1))])] = some (.int .i64 r) := by
  refine CP_X (F := F) (f := 116) rfl rfl ?_
  unfold whole_Sign.f at H
  repeat' with_reducible (first | (refine none_some H; done) | (refine ite_e H ?_ ?_ <;> clear H <;> intro c H <;> (try simp only [int_beq, decide_eq_true_eq] at c) <;> first | (have : (_ : Bool) = _ := c; clear this) | (have : ¬ (_ : Bool) = _ := c; clear this) | (replace c := eq_false c; try simp only [List.length_replicate, List.length_set, List.length_nil, List.length_cons, Nat.zero_add] at c) | (replace c := eq_true c; try simp only [List.length_replicate, List.length_set, List.length_nil, List.length_cons, Nat.zero_add] at c)) | (refine bind_k (by assumption) H ?_; clear H; intro H) | (refine bind_e H ?_; clear H; intro _ q H; first | (replace q := Option.some.inj q; subst q) | skip))
  all_goals with_reducible (first | (replace H := Option.some.inj H; subst H) | skip)
  all_goals (try simp only [List.length_replicate, List.length_set] at H)
  all_goals (refine go2 ?_)
  all_goals (first | trivial | skip)
theorem e_triviumref02_Trim {k : Nat} {l0 : List Int} {r : List Int} (H : triviumref02_Trim.f k l0 = some r) : CP (CL F) 144 [(.lst (ui l0))] = some (.lst (ui r)) := by
  refine CP_X (F := F) (f := 144) rfl rfl ?_
  unfold triviumref02_Trim.f at H
  repeat' with_reducible (first | (refine none_some H; done) | (refine ite_e H ?_ ?_ <;> clear H <;> intro c H <;> (try simp only [int_beq, decide_eq_true_eq] at c) <;> first | (have : (_ : Bool) = _ := c; clear this) | (have : ¬ (_ : Bool) = _ := c; clear this) | (replace c := eq_false c; try simp only [List.length_replicate, List.length_set, List.length_nil, List.length_cons, Nat.zero_add] at c) | (replace c := eq_true c; try simp only [List.length_replicate, List.length_set, List.length_nil, List.length_cons, Nat.zero_add] at c)) | (refine bind_k (by assumption) H ?_; clear H; intro H) | (refine bind_e H ?_; clear H; intro _ q H; first | (replace q := Option.some.inj q; subst q) | skip))
  all_goals with_reducible (first | (replace H := Option.some.inj H; subst H) | skip)
  all_goals (try simp only [List.length_replicate, List.length_set] at H)
  all_goals (refine go2 ?_)
  all_goals (first | trivial | skip)
  all_goals first
   |
      (refine X_fuel3 (L := fun n (y : List Int × Int) => triviumref02_Trim.l0 n y.1 y.2) (S := fun y s => ∃ j2 j15 g, s = ⟨[(0, (.lst (ui y.1))), (2, j2), (3, (.int .i64 y.2)), (15, j15)], g⟩) (fun _ => by simp only [triviumref02_Trim.l0]) _ ?_ _ (Nat.le_refl _) (_, _) _ H ⟨_, _, _, rfl⟩
       clear H
       rintro nl0 hnl0 ⟨x0, x3⟩ s H ⟨j2, j15, g, rfl⟩ recl0
       simp only [triviumref02_Trim.l0] at H
       repeat' with_reducible (first | (refine none_some H; done) | (refine ite_e H ?_ ?_ <;> clear H <;> intro c H <;> (try simp only [int_beq, decide_eq_true_eq] at c) <;> first | (have : (_ : Bool) = _ := c; clear this) | (have : ¬ (_ : Bool) = _ := c; clear this) | (replace c := eq_false c; try simp only [List.length_replicate, List.length_set, List.length_nil, List.length_cons, Nat.zero_add] at c) | (replace c := eq_true c; try simp only [List.length_replicate, List.length_set, List.length_nil, List.length_cons, Nat.zero_add] at c)) | (refine bind_k (by assumption) H ?_; clear H; intro H) | (refine bind_e H ?_; clear H; intro _ q H; first | (replace q := Option.some.inj q; subst q) | skip))
       all_goals with_reducible (first | (replace H := Option.some.inj H; subst H) | skip)
       all_goals (try simp only [List.length_replicate, List.length_set] at H)
       all_goals (refine go2 ?_)
       all_goals (first | (trivial) | (exact recl0 _ (by omega) (_, _) _ H ⟨_, _, _, rfl⟩) | skip))
   | skip
theorem e_triviumref02_MulAdd {k : Nat} {l0 : List Int} {a1 : Int} {a2 : Int} {r : List Int} (H : triviumref02_MulAdd.f k l0 a1 a2 = some r) : CP (CL F) 102 [(.lst (ui l0)), (.int .i64 a1), (.int .i64 a2)] = some (.lst (ui r)) := by
  refine CP_X (F := F) (f := 102) rfl rfl ?_
  unfold triviumref02_MulAdd.f at H
  repeat' with_reducible (first | (refine none_some H; done) | (refine ite_e H ?_ ?_ <;> clear H <;> intro c H <;> (try simp only [int_beq, decide_eq_true_eq] at c) <;> first | (have : (_ : Bool) = _ := c; clear this) | (have : ¬ (_ : Bool) = _ := c; clear this) | (replace c := eq_false c; try simp only [List.length_replicate, List.length_set, List.length_nil, List.length_cons, Nat.zero_add] at c) | (replace c := eq_true c; try simp only [List.length_replicate, List.length_set, List.length_nil, List.length_cons, Nat.zero_add] at c)) | (refine bind_k (by assumption) H ?_; clear H; intro H) | (refine bind_e H ?_; clear H; intro _ q H; first | (have q' := e_triviumref02_Trim q; try simp only [u_nil, ui_nil, List.length_replicate, List.length_set, List.cons_append, List.nil_append] at q') | (replace q := Option.some.inj q; subst q) | skip))
  all_goals with_reducible (first | (replace H := Option.some.inj H; subst H) | skip)
  all_goals (try simp only [List.length_replicate, List.length_set] at H)
  all_goals (refine go2 ?_)
  all_goals (first | trivial | skip)
  all_goals first
   |
      (refine X_fuel3 (L := fun n (y : List Int × Int × Int × List Int × Int) => triviumref02_MulAdd.l0 n y.1 y.2.1 y.2.2.1 y.2.2.2.1 y.2.2.2.2) (S := fun y s => ∃ j6 m0 j13 j32 v0 g, s = ⟨[(0, (.lst (ui y.1))), (1, (.int .i64 y.2.1)), (2, (.int .i64 y.2.2.1)), (6, j6), (7, .ref 0 v0 1 0 m0), (8, (.int .i64 y.2.2.2.2)), (13, j13), (32, j32)], some ⟨v0, 1, ui y.2.2.2.1⟩ :: g⟩ ∧ m0 = y.2.2.2.1.length) (fun _ => by simp only [triviumref02_MulAdd.l0]) _ ?_ _ (Nat.le_refl _) (_, _, _, _, _) _ H ⟨_, _, _, _, _, _, rfl, by simp⟩
       clear H
       rintro nl0 hnl0 ⟨x0, x1, x2, x7, x8⟩ s H ⟨j6, m0, j13, j32, v0, g, rfl, rfl⟩ recl0
       simp only [triviumref02_MulAdd.l0] at H
       repeat' with_reducible (first | (refine none_some H; done) | (refine ite_e H ?_ ?_ <;> clear H <;> intro c H <;> (try simp only [int_beq, decide_eq_true_eq] at c) <;> first | (have : (_ : Bool) = _ := c; clear this) | (have : ¬ (_ : Bool) = _ := c; clear this) | (replace c := eq_false c; try simp only [List.length_replicate, List.length_set, List.length_nil, List.length_cons, Nat.zero_add] at c) | (replace c := eq_true c; try simp only [List.length_replicate, List.length_set, List.length_nil, List.length_cons, Nat.zero_add] at c)) | (refine bind_k (by assumption) H ?_; clear H; intro H) | (refine bind_e H ?_; clear H; intro _ q H; first | (have q' := e_triviumref02_Trim q; try simp only [u_nil, ui_nil, List.length_replicate, List.length_set, List.cons_append, List.nil_append] at q') | (replace q := Option.some.inj q; subst q) | skip))
       all_goals with_reducible (first | (replace H := Option.some.inj H; subst H) | skip)
       all_goals (try simp only [List.length_replicate, List.length_set] at H)
       all_goals (refine go2 ?_)
       all_goals (first | (trivial) | (exact recl0 _ (by omega) (_, _, _, _, _) _ H ⟨_, _, _, _, _, _, rfl, by simp⟩) | skip)
       all_goals first
        |
          (refine X_fuel3 (L := fun n (y : Int × List Int) => triviumref02_MulAdd.l1 n y.1 y.2) (S := fun y s => ∃ j0 j1 j6 m0 j8 j13 j32 v0 g, s = ⟨[(0, j0), (1, j1), (2, (.int .i64 y.1)), (6, j6), (7, .ref 0 v0 1 0 m0), (8, j8), (13, j13), (32, j32)], some ⟨v0, 1, ui y.2⟩ :: g⟩ ∧ m0 = y.2.length) (fun _ => by simp only [triviumref02_MulAdd.l1]) _ ?_ _ (Nat.le_refl _) (_, _) _ H ⟨_, _, _, _, _, _, _, _, _, rfl, by simp⟩
           clear H
           rintro nl1 hnl1 ⟨x2, x7⟩ s H ⟨j0, j1, j6, m0, j8, j13, j32, v0, g, rfl, rfl⟩ recl1
           simp only [triviumref02_MulAdd.l1] at H
           repeat' with_reducible (first | (refine none_some H; done) | (refine ite_e H ?_ ?_ <;> clear H <;> intro c H <;> (try simp only [int_beq, decide_eq_true_eq] at c) <;> first | (have : (_ : Bool) = _ := c; clear this) | (have : ¬ (_ : Bool) = _ := c; clear this) | (replace c := eq_false c; try simp only [List.length_replicate, List.length_set, List.length_nil, List.length_cons, Nat.zero_add] at c) | (replace c := eq_true c; try simp only [List.length_replicate, List.length_set, List.length_nil, List.length_cons, Nat.zero_add] at c)) | (refine bind_k (by assumption) H ?_; clear H; intro H) | (refine bind_e H ?_; clear H; intro _ q H; first | (have q' := e_triviumref02_Trim q; try simp only [u_nil, ui_nil, List.length_replicate, List.length_set, List.cons_append, List.nil_append] at q') | (replace q := Option.some.inj q; subst q) | skip))
           all_goals with_reducible (first | (replace H := Option.some.inj H; subst H) | skip)
           all_goals (try simp only [List.length_replicate, List.length_set] at H)
           all_goals (refine go2 ?_)
           all_goals (first | (trivial) | (exact recl1 _ (by omega) (_, _) _ H ⟨_, _, _, _, _, _, _, _, _, rfl, by simp⟩) | skip)))
   | skip
theorem e_triviumref02_Of {k : Nat} {l0 : List Int} {r : List Int} (H : triviumref02_Of.f k l0 = some r) : CP (CL F) 138 [(.lst (u l0))] = some (.lst (ui r)) := by
  refine CP_X (F := F) (f := 138) rfl rfl ?_
  unfold triviumref02_Of.f at H
  repeat' with_reducible (first | (refine none_some H; done) | (refine ite_e H ?_ ?_ <;> clear H <;> intro c H <;> (try simp only [int_beq, decide_eq_true_eq] at c) <;> first | (have : (_ : Bool) = _ := c; clear this) | (have : ¬ (_ : Bool) = _ := c; clear this) | (replace c := eq_false c; try simp only [List.length_replicate, List.length_set, List.length_nil, List.length_cons, Nat.zero_add] at c) | (replace c := eq_true c; try simp only [List.length_replicate, List.length_set, List.length_nil, List.length_cons, Nat.zero_add] at c)) | (refine bind_k (by assumption) H ?_; clear H; intro H) | (refine bind_e H ?_; clear H; intro _ q H; first | (have q' := e_triviumref02_MulAdd q; try simp only [u_nil, ui_nil, List.length_replicate, List.length_set, List.cons_append, List.nil_append] at q') | (replace q := Option.some.inj q; subst q) | skip))
  all_goals with_reducible (first | (replace H := Option.some.inj H; subst H) | skip)
  all_goals (try simp only [List.length_replicate, List.length_set] at H)
  all_goals (refine go2 ?_)
  all_goals (first | trivial | skip)
  all_goals first
   |
      (refine X_fuel3 (L := fun n (y : List Int × List Int × Int) => triviumref02_Of.l0 n y.1 y.2.1 y.2.2) (S := fun y s => ∃ j2 j10 g, s = ⟨[(0, (.lst (u y.1))), (2, j2), (3, (.lst (ui y.2.1))), (4, (.int .i64 y.2.2)), (10, j10)], g⟩) (fun _ => by simp only [triviumref02_Of.l0]) _ ?_ _ (Nat.le_refl _) (_, _, _) _ H ⟨_, _, _, rfl⟩
       clear H
       rintro nl0 hnl0 ⟨x0, x3, x4⟩ s H ⟨j2, j10, g, rfl⟩ recl0
       simp only [triviumref02_Of.l0] at H
       repeat' with_reducible (first | (refine none_some H; done) | (refine ite_e H ?_ ?_ <;> clear H <;> intro c H <;> (try simp only [int_beq, decide_eq_true_eq] at c) <;> first | (have : (_ : Bool) = _ := c; clear this) | (have : ¬ (_ : Bool) = _ := c; clear this) | (replace c := eq_false c; try simp only [List.length_replicate, List.length_set, List.length_nil, List.length_cons, Nat.zero_add] at c) | (replace c := eq_true c; try simp only [List.length_replicate, List.length_set, List.length_nil, List.length_cons, Nat.zero_add] at c)) | (refine bind_k (by assumption) H ?_; clear H; intro H) | (refine bind_e H ?_; clear H; intro _ q H; first | (have q' := e_triviumref02_MulAdd q; try simp only [u_nil, ui_nil, List.length_replicate, List.length_set, List.cons_append, List.nil_append] at q') | (replace q := Option.some.inj q; subst q) | skip))
       all_goals with_reducible (first | (replace H := Option.some.inj H; subst H) | skip)
       all_goals (try simp only [List.length_replicate, List.length_set] at H)
       all_goals (refine go2 ?_)
       all_goals (first | (trivial) | (exact recl0 _ (by omega) (_, _, _) _ H ⟨_, _, _, rfl⟩) | skip))
   | skip
theorem e_limb_Sub {a0 : Int} {a1 : Int} {a2 : Int} {r : Int × Int} (H : limb_Sub.f a0 a1 a2 = some r) : CP (CL F) 179 [(.int .u64 a0), (.int .u64 a1), (.int .u64 a2)] = some (.tup [(.int .u64 r.1), (.int .u64 r.2)]) := by
  refine CP_X (F := F) (f := 179) rfl rfl ?_
  unfold limb_Sub.f at H
  repeat' with_reducible (first | (refine none_some H; done) | (refine ite_e H ?_ ?_ <;> clear H <;> intro c H <;> (try simp only [int_beq, decide_eq_true_eq] at c) <;> first | (have : (_ : Bool) = _ := c; clear this) | (have : ¬ (_ : Bool) = _ := c; clear this) | (replace c := eq_false c; try simp only [List.length_replicate, List.length_set, List.length_nil, List.length_cons, Nat.zero_add] at c) | (replace c := eq_true c; try simp only [List.length_replicate, List.length_set, List.length_nil, List.length_cons, Nat.zero_add] at c)) | (refine bind_k (by assumption) H ?_; clear H; intro H) | (refine bind_e H ?_; clear H; intro _ q H; first | (replace q := Option.some.inj q; subst q) | skip))
  all_goals with_reducible (first | (replace H := Option.some.inj H; subst H) | skip)
  all_goals (try simp only [List.length_replicate, List.length_set] at H)
  all_goals (refine go2 ?_)
  all_goals (first | trivial | skip)
theorem e_nat_Sub {k : Nat} {l0 : List Int} {l1 : List Int} {r : List Int × Int} (H : nat_Sub.f k l0 l1 = some r) : CP (CL F) 164 [(.lst (u l0)), (.lst (u l1))] = some (.tup [(.lst (u r.1)), (.int .i64 r.2)]) := by
  refine CP_X (F := F) (f := 164) rfl rfl ?_
  unfold nat_Sub.f at H
  repeat' with_reducible (first | (refine none_some H; done) | (refine ite_e H ?_ ?_ <;> clear H <;> intro c H <;> (try simp only [int_beq, decide_eq_true_eq] at c) <;> first | (have : (_ : Bool) = _ := c; clear this) | (have : ¬ (_ : Bool) = _ := c; clear this) | (replace c := eq_false c; try simp only [List.length_replicate, List.length_set, List.length_nil, List.length_cons, Nat.zero_add] at c) | (replace c := eq_true c; try simp only [List.length_replicate, List.length_set, List.length_nil, List.length_cons, Nat.zero_add] at c)) | (refine bind_k (by assumption) H ?_; clear H; intro H) | (refine bind_e H ?_; clear H; intro _ q H; first | (have q' := e_limb_Sub q; try simp only [u_nil, ui_nil, List.length_replicate, List.length_set, List.cons_append, List.nil_append] at q') | (have q' := e_nat_Cmp q; try simp only [u_nil, ui_nil, List.length_replicate, List.length_set, List.cons_append, List.nil_append] at q') | (have q' := e_nat_at q; try simp only [u_nil, ui_nil, List.length_replicate, List.length_set, List.cons_append, List.nil_append] at q') | (have q' := e_nat_trim q; try simp only [u_nil, ui_nil, List.length_replicate, List.length_set, List.cons_append, List.nil_append] at q') | (replace q := Option.some.inj q; subst q) | skip))
  all_goals with_reducible (first | (replace H := Option.some.inj H; subst H) | skip)
  all_goals (try simp only [List.length_replicate, List.length_set] at H)
  all_goals (refine go2 ?_)
  all_goals (first | trivial | skip)
  all_goals first
   |
      (refine X_fuel3 (L := fun n (y : List Int × List Int × List Int × Int × Int × Int) => nat_Sub.l0 n y.1 y.2.1 y.2.2.1 y.2.2.2.1 y.2.2.2.2.1 y.2.2.2.2.2) (S := fun y s => ∃ j4 j5 m0 j8 j12 j19 v0 g, s = ⟨[(0, (.lst (u y.1))), (1, (.lst (u y.2.1))), (4, j4), (5, j5), (6, .ref 0 v0 1 0 m0), (7, (.int .u64 y.2.2.2.1)), (8, j8), (12, j12), (17, (.int .i64 y.2.2.2.2.1)), (18, (.int .i64 y.2.2.2.2.2)), (19, j19)], some ⟨v0, 1, u y.2.2.1⟩ :: g⟩ ∧ m0 = y.2.2.1.length) (fun _ => by simp only [nat_Sub.l0]) _ ?_ _ (Nat.le_refl _) (_, _, _, _, _, _) _ H ⟨_, _, _, _, _, _, _, _, rfl, by simp⟩
       clear H
       rintro nl0 hnl0 ⟨x0, x1, x6, x7, x17, x18⟩ s H ⟨j4, j5, m0, j8, j12, j19, v0, g, rfl, rfl⟩ recl0
       simp only [nat_Sub.l0] at H
       repeat' with_reducible (first | (refine none_some H; done) | (refine ite_e H ?_ ?_ <;> clear H <;> intro c H <;> (try simp only [int_beq, decide_eq_true_eq] at c) <;> first | (have : (_ : Bool) = _ := c; clear this) | (have : ¬ (_ : Bool) = _ := c; clear this) | (replace c := eq_false c; try simp only [List.length_replicate, List.length_set, List.length_nil, List.length_cons, Nat.zero_add] at c) | (replace c := eq_true c; try simp only [List.length_replicate, List.length_set, List.length_nil, List.length_cons, Nat.zero_add] at c)) | (refine bind_k (by assumption) H ?_; clear H; intro H) | (refine bind_e H ?_; clear H; intro _ q H; first | (have q' := e_limb_Sub q; try simp only [u_nil, ui_nil, List.length_replicate, List.length_set, List.cons_append, List.nil_append] at q') | (have q' := e_nat_Cmp q; try simp only [u_nil, ui_nil, List.length_replicate, List.length_set, List.cons_append, List.nil_append] at q') | (have q' := e_nat_at q; try simp only [u_nil, ui_nil, List.length_replicate, List.length_set, List.cons_append, List.nil_append] at q') | (have q' := e_nat_trim q; try simp only [u_nil, ui_nil, List.length_replicate, List.length_set, List.cons_append, List.nil_append] at q') | (replace q := Option.some.inj q; subst q) | skip))
       all_goals with_reducible (first | (replace H := Option.some.inj H; subst H) | skip)
       all_goals (try simp only [List.length_replicate, List.length_set] at H)
       all_goals (refine go2 ?_)
       all_goals (first | (trivial) | (exact recl0 _ (by omega) (_, _, _, _, _, _) _ H ⟨_, _, _, _, _, _, _, _, rfl, by simp⟩) | skip))
   | skip
theorem e_whole_Add {k : Nat} {a0_0 : Bool} {l0_1 : List Int} {a1_0 : Bool} {l1_1 : List Int} {r : Bool × List Int} (H : whole_Add.f k a0_0 l0_1 a1_0 l1_1 = some r) : CP (CL F) 148 [(.agg [(.bool a0_0), (.lst (u l0_1))]), (.agg [(.bool a1_0), (.lst (u l1_1))])] = some (.agg [(.bool r.1), (.lst (u r.2))]) := by
  refine CP_X (F := F) (f := 148) rfl rfl ?_
  unfold whole_Add.f at H
  repeat' with_reducible (first | (refine none_some H; done) | (refine ite_e H ?_ ?_ <;> clear H <;> intro c H <;> (try simp only [int_beq, decide_eq_true_eq] at c) <;> first | (have : (_ : Bool) = _ := c; clear this) | (have : ¬ (_ : Bool) = _ := c; clear this) | (replace c := eq_false c; try simp only [List.length_replicate, List.length_set, List.length_nil, List.length_cons, Nat.zero_add] at c) | (replace c := eq_true c; try simp only [List.length_replicate, List.length_set, List.length_nil, List.length_cons, Nat.zero_add] at c)) | (refine bind_k (by assumption) H ?_; clear H; intro H) | (refine bind_e H ?_; clear H; intro _ q H; first | (have q' := e_nat_Add q; try simp only [u_nil, ui_nil, List.length_replicate, List.length_set, List.cons_append, List.nil_append] at q') | (have q' := e_nat_Sub q; try simp only [u_nil, ui_nil, List.length_replicate, List.length_set, List.cons_append, List.nil_append] at q') | (have q' := e_whole_Made q; try simp only [u_nil, ui_nil, List.length_replicate, List.length_set, List.cons_append, List.nil_append] at q') | (replace q := Option.some.inj q; subst q) | skip))
  all_goals with_reducible (first | (replace H := Option.some.inj H; subst H) | skip)
  all_goals (try simp only [List.length_replicate, List.length_set] at H)
  all_goals (refine go2 ?_)
  all_goals (first | trivial | skip)
theorem e_limb_Mul {a0 : Int} {a1 : Int} {a2 : Int} {a3 : Int} {r : Int × Int} (H : limb_Mul.f a0 a1 a2 a3 = some r) : CP (CL F) 177 [(.int .u64 a0), (.int .u64 a1), (.int .u64 a2), (.int .u64 a3)] = some (.tup [(.int .u64 r.1), (.int .u64 r.2)]) := by
  refine CP_X (F := F) (f := 177) rfl rfl ?_
  unfold limb_Mul.f at H
  repeat' with_reducible (first | (refine none_some H; done) | (refine ite_e H ?_ ?_ <;> clear H <;> intro c H <;> (try simp only [int_beq, decide_eq_true_eq] at c) <;> first | (have : (_ : Bool) = _ := c; clear this) | (have : ¬ (_ : Bool) = _ := c; clear this) | (replace c := eq_false c; try simp only [List.length_replicate, List.length_set, List.length_nil, List.length_cons, Nat.zero_add] at c) | (replace c := eq_true c; try simp only [List.length_replicate, List.length_set, List.length_nil, List.length_cons, Nat.zero_add] at c)) | (refine bind_k (by assumption) H ?_; clear H; intro H) | (refine bind_e H ?_; clear H; intro _ q H; first | (replace q := Option.some.inj q; subst q) | skip))
  all_goals with_reducible (first | (replace H := Option.some.inj H; subst H) | skip)
  all_goals (try simp only [List.length_replicate, List.length_set] at H)
  all_goals (refine go2 ?_)
  all_goals (first | trivial | skip)
theorem e_mul_made {k : Nat} {l0 : List Int} {r : List Int} (H : mul_made.f k l0 = some r) : CP (CL F) 178 [(.lst (u l0))] = some (.lst (u r)) := by
  refine CP_X (F := F) (f := 178) rfl rfl ?_
  unfold mul_made.f at H
  repeat' with_reducible (first | (refine none_some H; done) | (refine ite_e H ?_ ?_ <;> clear H <;> intro c H <;> (try simp only [int_beq, decide_eq_true_eq] at c) <;> first | (have : (_ : Bool) = _ := c; clear this) | (have : ¬ (_ : Bool) = _ := c; clear this) | (replace c := eq_false c; try simp only [List.length_replicate, List.length_set, List.length_nil, List.length_cons, Nat.zero_add] at c) | (replace c := eq_true c; try simp only [List.length_replicate, List.length_set, List.length_nil, List.length_cons, Nat.zero_add] at c)) | (refine bind_k (by assumption) H ?_; clear H; intro H) | (refine bind_e H ?_; clear H; intro _ q H; first | (have q' := e_nat_Make q; try simp only [u_nil, ui_nil, List.length_replicate, List.length_set, List.cons_append, List.nil_append] at q') | (replace q := Option.some.inj q; subst q) | skip))
  all_goals with_reducible (first | (replace H := Option.some.inj H; subst H) | skip)
  all_goals (try simp only [List.length_replicate, List.length_set] at H)
  all_goals (refine go2 ?_)
  all_goals (first | trivial | skip)
theorem e_mul_Long {k : Nat} {l0 : List Int} {l1 : List Int} {r : List Int} (H : mul_Long.f k l0 l1 = some r) : CP (CL F) 162 [(.lst (u l0)), (.lst (u l1))] = some (.lst (u r)) := by
  refine CP_X (F := F) (f := 162) rfl rfl ?_
  unfold mul_Long.f at H
  repeat' with_reducible (first | (refine none_some H; done) | (refine ite_e H ?_ ?_ <;> clear H <;> intro c H <;> (try simp only [int_beq, decide_eq_true_eq] at c) <;> first | (have : (_ : Bool) = _ := c; clear this) | (have : ¬ (_ : Bool) = _ := c; clear this) | (replace c := eq_false c; try simp only [List.length_replicate, List.length_set, List.length_nil, List.length_cons, Nat.zero_add] at c) | (replace c := eq_true c; try simp only [List.length_replicate, List.length_set, List.length_nil, List.length_cons, Nat.zero_add] at c)) | (refine bind_k (by assumption) H ?_; clear H; intro H) | (refine bind_e H ?_; clear H; intro _ q H; first | (have q' := e_limb_Mul q; try simp only [u_nil, ui_nil, List.length_replicate, List.length_set, List.cons_append, List.nil_append] at q') | (have q' := e_mul_made q; try simp only [u_nil, ui_nil, List.length_replicate, List.length_set, List.cons_append, List.nil_append] at q') | (replace q := Option.some.inj q; subst q) | skip))
  all_goals with_reducible (first | (replace H := Option.some.inj H; subst H) | skip)
  all_goals (try simp only [List.length_replicate, List.length_set] at H)
  all_goals (refine go2 ?_)
  all_goals (first | trivial | skip)
  all_goals first
   |
      (refine X_fuel3 (L := fun n (y : List Int × List Int × List Int × Int × Int) => mul_Long.l0 n y.1 y.2.1 y.2.2.1 y.2.2.2.1 y.2.2.2.2) (S := fun y s => ∃ j4 m0 j6 j7 j8 j9 j10 j20 j24 j25 j26 j27 v0 g, s = ⟨[(0, (.lst (u l0))), (1, (.lst (u y.1))), (4, j4), (5, .ref 0 v0 1 0 m0), (6, j6), (7, j7), (8, j8), (9, j9), (10, j10), (17, (.lst (u y.2.2.1))), (18, (.int .i64 y.2.2.2.1)), (19, (.int .i64 y.2.2.2.2)), (20, j20), (24, j24), (25, j25), (26, j26), (27, j27)], some ⟨v0, 1, u y.2.1⟩ :: g⟩ ∧ m0 = y.2.1.length) (fun _ => by simp only [mul_Long.l0]) _ ?_ _ (Nat.le_refl _) (_, _, _, _, _) _ H ⟨_, _, _, _, _, _, _, _, _, _, _, _, _, _, rfl, by simp⟩
       clear H
       rintro nl0 hnl0 ⟨x1, x5, x17, x18, x19⟩ s H ⟨j4, m0, j6, j7, j8, j9, j10, j20, j24, j25, j26, j27, v0, g, rfl, rfl⟩ recl0
       simp only [mul_Long.l0] at H
       repeat' with_reducible (first | (refine none_some H; done) | (refine ite_e H ?_ ?_ <;> clear H <;> intro c H <;> (try simp only [int_beq, decide_eq_true_eq] at c) <;> first | (have : (_ : Bool) = _ := c; clear this) | (have : ¬ (_ : Bool) = _ := c; clear this) | (replace c := eq_false c; try simp only [List.length_replicate, List.length_set, List.length_nil, List.length_cons, Nat.zero_add] at c) | (replace c := eq_true c; try simp only [List.length_replicate, List.length_set, List.length_nil, List.length_cons, Nat.zero_add] at c)) | (refine bind_k (by assumption) H ?_; clear H; intro H) | (refine bind_e H ?_; clear H; intro _ q H; first | (have q' := e_limb_Mul q; try simp only [u_nil, ui_nil, List.length_replicate, List.length_set, List.cons_append, List.nil_append] at q') | (have q' := e_mul_made q; try simp only [u_nil, ui_nil, List.length_replicate, List.length_set, List.cons_append, List.nil_append] at q') | (replace q := Option.some.inj q; subst q) | skip))
       all_goals with_reducible (first | (replace H := Option.some.inj H; subst H) | skip)
       all_goals (try simp only [List.length_replicate, List.length_set] at H)
       all_goals (refine go2 ?_)
       all_goals (first | (trivial) | skip)
       all_goals first
        |
          (refine X_fuel3 (L := fun n (y : List Int × List Int × Int × Int × Int × List Int × Int × Int × List Int × Int × Int) => mul_Long.l1 n y.1 y.2.1 y.2.2.1 y.2.2.2.1 y.2.2.2.2.1 y.2.2.2.2.2.1 y.2.2.2.2.2.2.1 y.2.2.2.2.2.2.2.1 y.2.2.2.2.2.2.2.2.1 y.2.2.2.2.2.2.2.2.2.1 y.2.2.2.2.2.2.2.2.2.2) (S := fun y s => ∃ j4 m0 j9 j10 j20 j27 v0 g, s = ⟨[(0, (.lst (u l0))), (1, (.lst (u y.1))), (4, j4), (5, .ref 0 v0 1 0 m0), (6, (.int .i64 y.2.2.1)), (7, (.int .u64 y.2.2.2.1)), (8, (.int .u64 y.2.2.2.2.1)), (9, j9), (10, j10), (17, (.lst (u y.2.2.2.2.2.1))), (18, (.int .i64 y.2.2.2.2.2.2.1)), (19, (.int .i64 y.2.2.2.2.2.2.2.1)), (20, j20), (24, (.lst (u y.2.2.2.2.2.2.2.2.1))), (25, (.int .i64 y.2.2.2.2.2.2.2.2.2.1)), (26, (.int .i64 y.2.2.2.2.2.2.2.2.2.2)), (27, j27)], some ⟨v0, 1, u y.2.1⟩ :: g⟩ ∧ m0 = y.2.1.length) (fun _ => by simp only [mul_Long.l1]) _ ?_ _ (Nat.le_refl _) (_, _, _, _, _, _, _, _, _, _, _) _ H ⟨_, _, _, _, _, _, _, _, rfl, by simp⟩
           clear H
           rintro nl1 hnl1 ⟨x1, x5, x6, x7, x8, x17, x18, x19, x24, x25, x26⟩ s H ⟨j4, m0, j9, j10, j20, j27, v0, g, rfl, rfl⟩ recl1
           simp only [mul_Long.l1] at H
           repeat' with_reducible (first | (refine none_some H; done) | (refine ite_e H ?_ ?_ <;> clear H <;> intro c H <;> (try simp only [int_beq, decide_eq_true_eq] at c) <;> first | (have : (_ : Bool) = _ := c; clear this) | (have : ¬ (_ : Bool) = _ := c; clear this) | (replace c := eq_false c; try simp only [List.length_replicate, List.length_set, List.length_nil, List.length_cons, Nat.zero_add] at c) | (replace c := eq_true c; try simp only [List.length_replicate, List.length_set, List.length_nil, List.length_cons, Nat.zero_add] at c)) | (refine bind_k (by assumption) H ?_; clear H; intro H) | (refine bind_e H ?_; clear H; intro _ q H; first | (have q' := e_limb_Mul q; try simp only [u_nil, ui_nil, List.length_replicate, List.length_set, List.cons_append, List.nil_append] at q') | (have q' := e_mul_made q; try simp only [u_nil, ui_nil, List.length_replicate, List.length_set, List.cons_append, List.nil_append] at q') | (replace q := Option.some.inj q; subst q) | skip))
           all_goals with_reducible (first | (replace H := Option.some.inj H; subst H) | skip)
           all_goals (try simp only [List.length_replicate, List.length_set] at H)
           all_goals (refine go2 ?_)
           all_goals (first | (trivial) | (exact recl0 _ (by omega) (_, _, _, _, _) _ H ⟨_, _, _, _, _, _, _, _, _, _, _, _, _, _, rfl, by simp⟩) | (exact recl1 _ (by omega) (_, _, _, _, _, _, _, _, _, _, _) _ H ⟨_, _, _, _, _, _, _, _, rfl, by simp⟩) | skip)))
   | skip
theorem e_mul_cut {k : Nat} {l0 : List Int} {a1 : Int} {r : List Int × List Int} (H : mul_cut.f k l0 a1 = some r) : CP (CL F) 163 [(.lst (u l0)), (.int .i64 a1)] = some (.tup [(.lst (u r.1)), (.lst (u r.2))]) := by
  refine CP_X (F := F) (f := 163) rfl rfl ?_
  unfold mul_cut.f at H
  repeat' with_reducible (first | (refine none_some H; done) | (refine ite_e H ?_ ?_ <;> clear H <;> intro c H <;> (try simp only [int_beq, decide_eq_true_eq] at c) <;> first | (have : (_ : Bool) = _ := c; clear this) | (have : ¬ (_ : Bool) = _ := c; clear this) | (replace c := eq_false c; try simp only [List.length_replicate, List.length_set, List.length_nil, List.length_cons, Nat.zero_add] at c) | (replace c := eq_true c; try simp only [List.length_replicate, List.length_set, List.length_nil, List.length_cons, Nat.zero_add] at c)) | (refine bind_k (by assumption) H ?_; clear H; intro H) | (refine bind_e H ?_; clear H; intro _ q H; first | (have q' := e_mul_made q; try simp only [u_nil, ui_nil, List.length_replicate, List.length_set, List.cons_append, List.nil_append] at q') | (replace q := Option.some.inj q; subst q) | skip))
  all_goals with_reducible (first | (replace H := Option.some.inj H; subst H) | skip)
  all_goals (try simp only [List.length_replicate, List.length_set] at H)
  all_goals (refine go2 ?_)
  all_goals (first | trivial | skip)
theorem e_mul_up {k : Nat} {l0 : List Int} {a1 : Int} {r : List Int} (H : mul_up.f k l0 a1 = some r) : CP (CL F) 166 [(.lst (u l0)), (.int .i64 a1)] = some (.lst (u r)) := by
  refine CP_X (F := F) (f := 166) rfl rfl ?_
  unfold mul_up.f at H
  repeat' with_reducible (first | (refine none_some H; done) | (refine ite_e H ?_ ?_ <;> clear H <;> intro c H <;> (try simp only [int_beq, decide_eq_true_eq] at c) <;> first | (have : (_ : Bool) = _ := c; clear this) | (have : ¬ (_ : Bool) = _ := c; clear this) | (replace c := eq_false c; try simp only [List.length_replicate, List.length_set, List.length_nil, List.length_cons, Nat.zero_add] at c) | (replace c := eq_true c; try simp only [List.length_replicate, List.length_set, List.length_nil, List.length_cons, Nat.zero_add] at c)) | (refine bind_k (by assumption) H ?_; clear H; intro H) | (refine bind_e H ?_; clear H; intro _ q H; first | (have q' := e_mul_made q; try simp only [u_nil, ui_nil, List.length_replicate, List.length_set, List.cons_append, List.nil_append] at q') | (replace q := Option.some.inj q; subst q) | skip))
  all_goals with_reducible (first | (replace H := Option.some.inj H; subst H) | skip)
  all_goals (try simp only [List.length_replicate, List.length_set] at H)
  all_goals (refine go2 ?_)
  all_goals (first | trivial | skip)
theorem e_nat_May {k : Nat} {l0 : List Int} {r : Bool} (H : nat_May.f k l0 = some r) : CP (CL F) 159 [(.lst (u l0))] = some (.bool r) := by
  refine CP_X (F := F) (f := 159) rfl rfl ?_
  unfold nat_May.f at H
  repeat' with_reducible (first | (refine none_some H; done) | (refine ite_e H ?_ ?_ <;> clear H <;> intro c H <;> (try simp only [int_beq, decide_eq_true_eq] at c) <;> first | (have : (_ : Bool) = _ := c; clear this) | (have : ¬ (_ : Bool) = _ := c; clear this) | (replace c := eq_false c; try simp only [List.length_replicate, List.length_set, List.length_nil, List.length_cons, Nat.zero_add] at c) | (replace c := eq_true c; try simp only [List.length_replicate, List.length_set, List.length_nil, List.length_cons, Nat.zero_add] at c)) | (refine bind_k (by assumption) H ?_; clear H; intro H) | (refine bind_e H ?_; clear H; intro _ q H; first | (replace q := Option.some.inj q; subst q) | skip))
  all_goals with_reducible (first | (replace H := Option.some.inj H; subst H) | skip)
  all_goals (try simp only [List.length_replicate, List.length_set] at H)
  all_goals (refine go2 ?_)
  all_goals (first | trivial | skip)
  all_goals first
   |
      (refine X_fuel3 (L := fun n (y : List Int × List Int × Int × Int) => nat_May.l0 n y.1 y.2.1 y.2.2.1 y.2.2.2) (S := fun y s => ∃ j2 j4 j8 j12 g, s = ⟨[(0, (.lst (u y.1))), (2, j2), (4, j4), (5, (.lst (u y.2.1))), (6, (.int .i64 y.2.2.1)), (7, (.int .i64 y.2.2.2)), (8, j8), (12, j12)], g⟩) (fun _ => by simp only [nat_May.l0]) _ ?_ _ (Nat.le_refl _) (_, _, _, _) _ H ⟨_, _, _, _, _, rfl⟩
       clear H
       rintro nl0 hnl0 ⟨x0, x5, x6, x7⟩ s H ⟨j2, j4, j8, j12, g, rfl⟩ recl0
       simp only [nat_May.l0] at H
       repeat' with_reducible (first | (refine none_some H; done) | (refine ite_e H ?_ ?_ <;> clear H <;> intro c H <;> (try simp only [int_beq, decide_eq_true_eq] at c) <;> first | (have : (_ : Bool) = _ := c; clear this) | (have : ¬ (_ : Bool) = _ := c; clear this) | (replace c := eq_false c; try simp only [List.length_replicate, List.length_set, List.length_nil, List.length_cons, Nat.zero_add] at c) | (replace c := eq_true c; try simp only [List.length_replicate, List.length_set, List.length_nil, List.length_cons, Nat.zero_add] at c)) | (refine bind_k (by assumption) H ?_; clear H; intro H) | (refine bind_e H ?_; clear H; intro _ q H; first | (replace q := Option.some.inj q; subst q) | skip))
       all_goals with_reducible (first | (replace H := Option.some.inj H; subst H) | skip)
       all_goals (try simp only [List.length_replicate, List.length_set] at H)
       all_goals (refine go2 ?_)
       all_goals (first | (trivial) | (exact recl0 _ (by omega) (_, _, _, _) _ H ⟨_, _, _, _, _, rfl⟩) | skip))
   | skip
theorem e_limb_Div {a0 : Int} {a1 : Int} {a2 : Int} {r : Int × Int × Int} (H : limb_Div.f a0 a1 a2 = some r) : CP (CL F) 170 [(.int .u64 a0), (.int .u64 a1), (.int .u64 a2)] = some (.tup [(.int .u64 r.1), (.int .u64 r.2.1), (.int .i64 r.2.2)]) := by
  refine CP_X (F := F) (f := 170) rfl rfl ?_
  unfold limb_Div.f at H
  repeat' with_reducible (first | (refine none_some H; done) | (refine ite_e H ?_ ?_ <;> clear H <;> intro c H <;> (try simp only [int_beq, decide_eq_true_eq] at c) <;> first | (have : (_ : Bool) = _ := c; clear this) | (have : ¬ (_ : Bool) = _ := c; clear this) | (replace c := eq_false c; try simp only [List.length_replicate, List.length_set, List.length_nil, List.length_cons, Nat.zero_add] at c) | (replace c := eq_true c; try simp only [List.length_replicate, List.length_set, List.length_nil, List.length_cons, Nat.zero_add] at c)) | (refine bind_k (by assumption) H ?_; clear H; intro H) | (refine bind_e H ?_; clear H; intro _ q H; first | (replace q := Option.some.inj q; subst q) | skip))
  all_goals with_reducible (first | (replace H := Option.some.inj H; subst H) | skip)
  all_goals (try simp only [List.length_replicate, List.length_set] at H)
  all_goals (refine go2 ?_)
  all_goals (first | trivial | skip)
theorem e_divide_Small {k : Nat} {l0 : List Int} {a1 : Int} {r : List Int × Int × Int} (H : divide_Small.f k l0 a1 = some r) : CP (CL F) 160 [(.lst (u l0)), (.int .u64 a1)] = some (.tup [(.lst (u r.1)), (.int .u64 r.2.1), (.int .i64 r.2.2)]) := by
  refine CP_X (F := F) (f := 160) rfl rfl ?_
  unfold divide_Small.f at H
  repeat' with_reducible (first | (refine none_some H; done) | (refine ite_e H ?_ ?_ <;> clear H <;> intro c H <;> (try simp only [int_beq, decide_eq_true_eq] at c) <;> first | (have : (_ : Bool) = _ := c; clear this) | (have : ¬ (_ : Bool) = _ := c; clear this) | (replace c := eq_false c; try simp only [List.length_replicate, List.length_set, List.length_nil, List.length_cons, Nat.zero_add] at c) | (replace c := eq_true c; try simp only [List.length_replicate, List.length_set, List.length_nil, List.length_cons, Nat.zero_add] at c)) | (refine bind_k (by assumption) H ?_; clear H; intro H) | (refine bind_e H ?_; clear H; intro _ q H; first | (have q' := e_limb_Div q; try simp only [u_nil, ui_nil, List.length_replicate, List.length_set, List.cons_append, List.nil_append] at q') | (have q' := e_nat_Make q; try simp only [u_nil, ui_nil, List.length_replicate, List.length_set, List.cons_append, List.nil_append] at q') | (replace q := Option.some.inj q; subst q) | skip))
  all_goals with_reducible (first | (replace H := Option.some.inj H; subst H) | skip)
  all_goals (try simp only [List.length_replicate, List.length_set] at H)
  all_goals (refine go2 ?_)
  all_goals (first | trivial | skip)
  all_goals first
   |
      (refine X_fuel3 (L := fun n (y : List Int × Int × List Int × Int × Int × Int) => divide_Small.l0 n y.1 y.2.1 y.2.2.1 y.2.2.2.1 y.2.2.2.2.1 y.2.2.2.2.2) (S := fun y s => ∃ j4 j5 j6 m0 j9 j10 j11 j15 j22 v0 g, s = ⟨[(0, (.lst (u y.1))), (1, (.int .u64 y.2.1)), (4, j4), (5, j5), (6, j6), (7, .ref 0 v0 1 0 m0), (8, (.int .u64 y.2.2.2.1)), (9, j9), (10, j10), (11, j11), (15, j15), (20, (.int .i64 y.2.2.2.2.1)), (21, (.int .i64 y.2.2.2.2.2)), (22, j22)], some ⟨v0, 1, u y.2.2.1⟩ :: g⟩ ∧ m0 = y.2.2.1.length) (fun _ => by simp only [divide_Small.l0]) _ ?_ _ (Nat.le_refl _) (_, _, _, _, _, _) _ H ⟨_, _, _, _, _, _, _, _, _, _, _, rfl, by simp⟩
       clear H
       rintro nl0 hnl0 ⟨x0, x1, x7, x8, x20, x21⟩ s H ⟨j4, j5, j6, m0, j9, j10, j11, j15, j22, v0, g, rfl, rfl⟩ recl0
       simp only [divide_Small.l0] at H
       repeat' with_reducible (first | (refine none_some H; done) | (refine ite_e H ?_ ?_ <;> clear H <;> intro c H <;> (try simp only [int_beq, decide_eq_true_eq] at c) <;> first | (have : (_ : Bool) = _ := c; clear this) | (have : ¬ (_ : Bool) = _ := c; clear this) | (replace c := eq_false c; try simp only [List.length_replicate, List.length_set, List.length_nil, List.length_cons, Nat.zero_add] at c) | (replace c := eq_true c; try simp only [List.length_replicate, List.length_set, List.length_nil, List.length_cons, Nat.zero_add] at c)) | (refine bind_k (by assumption) H ?_; clear H; intro H) | (refine bind_e H ?_; clear H; intro _ q H; first | (have q' := e_limb_Div q; try simp only [u_nil, ui_nil, List.length_replicate, List.length_set, List.cons_append, List.nil_append] at q') | (have q' := e_nat_Make q; try simp only [u_nil, ui_nil, List.length_replicate, List.length_set, List.cons_append, List.nil_append] at q') | (replace q := Option.some.inj q; subst q) | skip))
       all_goals with_reducible (first | (replace H := Option.some.inj H; subst H) | skip)
       all_goals (try simp only [List.length_replicate, List.length_set] at H)
       all_goals (refine go2 ?_)
       all_goals (first | (trivial) | (exact recl0 _ (by omega) (_, _, _, _, _, _) _ H ⟨_, _, _, _, _, _, _, _, _, _, _, rfl, by simp⟩) | skip))
   | skip
theorem e_limb_Bits {k : Nat} {a0 : Int} {r : Int} (H : limb_Bits.f k a0 = some r) : CP (CL F) 171 [(.int .u64 a0)] = some (.int .i64 r) := by
  refine CP_X (F := F) (f := 171) rfl rfl ?_
  unfold limb_Bits.f at H
  repeat' with_reducible (first | (refine none_some H; done) | (refine ite_e H ?_ ?_ <;> clear H <;> intro c H <;> (try simp only [int_beq, decide_eq_true_eq] at c) <;> first | (have : (_ : Bool) = _ := c; clear this) | (have : ¬ (_ : Bool) = _ := c; clear this) | (replace c := eq_false c; try simp only [List.length_replicate, List.length_set, List.length_nil, List.length_cons, Nat.zero_add] at c) | (replace c := eq_true c; try simp only [List.length_replicate, List.length_set, List.length_nil, List.length_cons, Nat.zero_add] at c)) | (refine bind_k (by assumption) H ?_; clear H; intro H) | (refine bind_e H ?_; clear H; intro _ q H; first | (replace q := Option.some.inj q; subst q) | skip))
  all_goals with_reducible (first | (replace H := Option.some.inj H; subst H) | skip)
  all_goals (try simp only [List.length_replicate, List.length_set] at H)
  all_goals (refine go2 ?_)
  all_goals (first | trivial | skip)
  all_goals first
   |
      (refine X_fuel3 (L := fun n (y : Int × Int × Int) => limb_Bits.l0 n y.1 y.2.1 y.2.2) (S := fun y s => ∃ j2 j4 j6 j12 g, s = ⟨[(0, (.int .u64 y.1)), (2, j2), (3, (.int .i64 y.2.1)), (4, j4), (5, (.int .i64 y.2.2)), (6, j6), (12, j12)], g⟩) (fun _ => by simp only [limb_Bits.l0]) _ ?_ _ (Nat.le_refl _) (_, _, _) _ H ⟨_, _, _, _, _, rfl⟩
       clear H
       rintro nl0 hnl0 ⟨x0, x3, x5⟩ s H ⟨j2, j4, j6, j12, g, rfl⟩ recl0
       simp only [limb_Bits.l0] at H
       repeat' with_reducible (first | (refine none_some H; done) | (refine ite_e H ?_ ?_ <;> clear H <;> intro c H <;> (try simp only [int_beq, decide_eq_true_eq] at c) <;> first | (have : (_ : Bool) = _ := c; clear this) | (have : ¬ (_ : Bool) = _ := c; clear this) | (replace c := eq_false c; try simp only [List.length_replicate, List.length_set, List.length_nil, List.length_cons, Nat.zero_add] at c) | (replace c := eq_true c; try simp only [List.length_replicate, List.length_set, List.length_nil, List.length_cons, Nat.zero_add] at c)) | (refine bind_k (by assumption) H ?_; clear H; intro H) | (refine bind_e H ?_; clear H; intro _ q H; first | (replace q := Option.some.inj q; subst q) | skip))
       all_goals with_reducible (first | (replace H := Option.some.inj H; subst H) | skip)
       all_goals (try simp only [List.length_replicate, List.length_set] at H)
       all_goals (refine go2 ?_)
       all_goals (first | (trivial) | (exact recl0 _ (by omega) (_, _, _) _ H ⟨_, _, _, _, _, rfl⟩) | skip))
   | skip
theorem e_nat_shift {a0 : Int} {r : Int} (H : nat_shift.f a0 = some r) : CP (CL F) 180 [(.int .i64 a0)] = some (.int .i64 r) := by
  refine CP_X (F := F) (f := 180) rfl rfl ?_
  unfold nat_shift.f at H
  repeat' with_reducible (first | (refine none_some H; done) | (refine ite_e H ?_ ?_ <;> clear H <;> intro c H <;> (try simp only [int_beq, decide_eq_true_eq] at c) <;> first | (have : (_ : Bool) = _ := c; clear this) | (have : ¬ (_ : Bool) = _ := c; clear this) | (replace c := eq_false c; try simp only [List.length_replicate, List.length_set, List.length_nil, List.length_cons, Nat.zero_add] at c) | (replace c := eq_true c; try simp only [List.length_replicate, List.length_set, List.length_nil, List.length_cons, Nat.zero_add] at c)) | (refine bind_k (by assumption) H ?_; clear H; intro H) | (refine bind_e H ?_; clear H; intro _ q H; first | (replace q := Option.some.inj q; subst q) | skip))
  all_goals with_reducible (first | (replace H := Option.some.inj H; subst H) | skip)
  all_goals (try simp only [List.length_replicate, List.length_set] at H)
  all_goals (refine go2 ?_)
  all_goals (first | trivial | skip)
theorem nat_Shl_j0_e {n : Nat} {x0 : List Int} {x1 : Int} {x6 : Int} {x19 : Bool} {r} {p : Prop} (h : nat_Shl.j0 n x0 x1 x6 x19 = some r) (h1 : ∀ m, m < n → nat_Shl.j0 (m + 1) x0 x1 x6 x19 = some r → p) : p := by
  cases n with
  | zero => simp [nat_Shl.j0] at h
  | succ m => exact h1 m (by omega) h
theorem e_nat_Shl {k : Nat} {l0 : List Int} {a1 : Int} {r : List Int × Int} (H : nat_Shl.f k l0 a1 = some r) : CP (CL F) 172 [(.lst (u l0)), (.int .i64 a1)] = some (.tup [(.lst (u r.1)), (.int .i64 r.2)]) := by
  refine CP_X (F := F) (f := 172) rfl rfl ?_
  unfold nat_Shl.f at H
  repeat' with_reducible (first | (refine none_some H; done) | (refine ite_e H ?_ ?_ <;> clear H <;> intro c H <;> (try simp only [int_beq, decide_eq_true_eq] at c) <;> first | (have : (_ : Bool) = _ := c; clear this) | (have : ¬ (_ : Bool) = _ := c; clear this) | (replace c := eq_false c; try simp only [List.length_replicate, List.length_set, List.length_nil, List.length_cons, Nat.zero_add] at c) | (replace c := eq_true c; try simp only [List.length_replicate, List.length_set, List.length_nil, List.length_cons, Nat.zero_add] at c)) | (refine bind_k (by assumption) H ?_; clear H; intro H) | (refine bind_e H ?_; clear H; intro _ q H; first | (have q' := e_nat_shift q; try simp only [u_nil, ui_nil, List.length_replicate, List.length_set, List.cons_append, List.nil_append] at q') | (have q' := e_nat_trim q; try simp only [u_nil, ui_nil, List.length_replicate, List.length_set, List.cons_append, List.nil_append] at q') | (replace q := Option.some.inj q; subst q) | skip) | (refine nat_Shl_j0_e H ?_; clear H; intro _ _ H; simp only [nat_Shl.j0] at H))
  all_goals with_reducible (first | (replace H := Option.some.inj H; subst H) | skip)
  all_goals (try simp only [List.length_replicate, List.length_set] at H)
  all_goals (refine go2 ?_)
  all_goals (first | trivial | skip)
  all_goals first
   |
      (refine X_fuel3 (L := fun n (y : Int × List Int × List Int × Int × Int) => nat_Shl.l0 n y.1 y.2.1 y.2.2.1 y.2.2.2.1 y.2.2.2.2) (S := fun y s => ∃ j4 j5 j6 m0 j8 j9 j10 j19 j31 v0 g, s = ⟨[(0, (.lst (u l0))), (1, (.int .i64 y.1)), (4, j4), (5, j5), (6, j6), (7, .ref 0 v0 1 0 m0), (8, j8), (9, j9), (10, j10), (19, j19), (28, (.lst (u y.2.2.1))), (29, (.int .i64 y.2.2.2.1)), (30, (.int .i64 y.2.2.2.2)), (31, j31)], some ⟨v0, 1, u y.2.1⟩ :: g⟩ ∧ m0 = y.2.1.length) (fun _ => by simp only [nat_Shl.l0]) _ ?_ _ (Nat.le_refl _) (_, _, _, _, _) _ H ⟨_, _, _, _, _, _, _, _, _, _, _, rfl, by simp⟩
       clear H
       rintro nl0 hnl0 ⟨x1, x7, x28, x29, x30⟩ s H ⟨j4, j5, j6, m0, j8, j9, j10, j19, j31, v0, g, rfl, rfl⟩ recl0
       simp only [nat_Shl.l0] at H
       repeat' with_reducible (first | (refine none_some H; done) | (refine ite_e H ?_ ?_ <;> clear H <;> intro c H <;> (try simp only [int_beq, decide_eq_true_eq] at c) <;> first | (have : (_ : Bool) = _ := c; clear this) | (have : ¬ (_ : Bool) = _ := c; clear this) | (replace c := eq_false c; try simp only [List.length_replicate, List.length_set, List.length_nil, List.length_cons, Nat.zero_add] at c) | (replace c := eq_true c; try simp only [List.length_replicate, List.length_set, List.length_nil, List.length_cons, Nat.zero_add] at c)) | (refine bind_k (by assumption) H ?_; clear H; intro H) | (refine bind_e H ?_; clear H; intro _ q H; first | (have q' := e_nat_shift q; try simp only [u_nil, ui_nil, List.length_replicate, List.length_set, List.cons_append, List.nil_append] at q') | (have q' := e_nat_trim q; try simp only [u_nil, ui_nil, List.length_replicate, List.length_set, List.cons_append, List.nil_append] at q') | (replace q := Option.some.inj q; subst q) | skip) | (refine nat_Shl_j0_e H ?_; clear H; intro _ _ H; simp only [nat_Shl.j0] at H))
       all_goals with_reducible (first | (replace H := Option.some.inj H; subst H) | skip)
       all_goals (try simp only [List.length_replicate, List.length_set] at H)
       all_goals (refine go2 ?_)
       all_goals (first | (trivial) | (exact recl0 _ (by omega) (_, _, _, _, _) _ H ⟨_, _, _, _, _, _, _, _, _, _, _, rfl, by simp⟩) | skip))
   | skip
theorem e_divide_at {l0 : List Int} {a1 : Int} {r : Int} (H : divide_at.f l0 a1 = some r) : CP (CL F) 181 [(.lst (u l0)), (.int .i64 a1)] = some (.int .u64 r) := by
  refine CP_X (F := F) (f := 181) rfl rfl ?_
  unfold divide_at.f at H
  repeat' with_reducible (first | (refine none_some H; done) | (refine ite_e H ?_ ?_ <;> clear H <;> intro c H <;> (try simp only [int_beq, decide_eq_true_eq] at c) <;> first | (have : (_ : Bool) = _ := c; clear this) | (have : ¬ (_ : Bool) = _ := c; clear this) | (replace c := eq_false c; try simp only [List.length_replicate, List.length_set, List.length_nil, List.length_cons, Nat.zero_add] at c) | (replace c := eq_true c; try simp only [List.length_replicate, List.length_set, List.length_nil, List.length_cons, Nat.zero_add] at c)) | (refine bind_k (by assumption) H ?_; clear H; intro H) | (refine bind_e H ?_; clear H; intro _ q H; first | (replace q := Option.some.inj q; subst q) | skip))
  all_goals with_reducible (first | (replace H := Option.some.inj H; subst H) | skip)
  all_goals (try simp only [List.length_replicate, List.length_set] at H)
  all_goals (refine go2 ?_)
  all_goals (first | trivial | skip)
theorem nat_Shr_j0_e {n : Nat} {x0 : List Int} {x1 : Int} {x6 : Int} {x20 : Bool} {r} {p : Prop} (h : nat_Shr.j0 n x0 x1 x6 x20 = some r) (h1 : ∀ m, m < n → nat_Shr.j0 (m + 1) x0 x1 x6 x20 = some r → p) : p := by
  cases n with
  | zero => simp [nat_Shr.j0] at h
  | succ m => exact h1 m (by omega) h
theorem e_nat_Shr {k : Nat} {l0 : List Int} {a1 : Int} {r : List Int × Int} (H : nat_Shr.f k l0 a1 = some r) : CP (CL F) 176 [(.lst (u l0)), (.int .i64 a1)] = some (.tup [(.lst (u r.1)), (.int .i64 r.2)]) := by
  refine CP_X (F := F) (f := 176) rfl rfl ?_
  unfold nat_Shr.f at H
  repeat' with_reducible (first | (refine none_some H; done) | (refine ite_e H ?_ ?_ <;> clear H <;> intro c H <;> (try simp only [int_beq, decide_eq_true_eq] at c) <;> first | (have : (_ : Bool) = _ := c; clear this) | (have : ¬ (_ : Bool) = _ := c; clear this) | (replace c := eq_false c; try simp only [List.length_replicate, List.length_set, List.length_nil, List.length_cons, Nat.zero_add] at c) | (replace c := eq_true c; try simp only [List.length_replicate, List.length_set, List.length_nil, List.length_cons, Nat.zero_add] at c)) | (refine bind_k (by assumption) H ?_; clear H; intro H) | (refine bind_e H ?_; clear H; intro _ q H; first | (have q' := e_nat_at q; try simp only [u_nil, ui_nil, List.length_replicate, List.length_set, List.cons_append, List.nil_append] at q') | (have q' := e_nat_shift q; try simp only [u_nil, ui_nil, List.length_replicate, List.length_set, List.cons_append, List.nil_append] at q') | (have q' := e_nat_trim q; try simp only [u_nil, ui_nil, List.length_replicate, List.length_set, List.cons_append, List.nil_append] at q') | (replace q := Option.some.inj q; subst q) | skip) | (refine nat_Shr_j0_e H ?_; clear H; intro _ _ H; simp only [nat_Shr.j0] at H))
  all_goals with_reducible (first | (replace H := Option.some.inj H; subst H) | skip)
  all_goals (try simp only [List.length_replicate, List.length_set] at H)
  all_goals (refine go2 ?_)
  all_goals (first | trivial | skip)
  all_goals first
   |
      (refine X_fuel3 (L := fun n (y : List Int × Int × List Int × Int × Int) => nat_Shr.l0 n y.1 y.2.1 y.2.2.1 y.2.2.2.1 y.2.2.2.2) (S := fun y s => ∃ j4 j5 j6 m0 j8 j9 j20 j31 v0 g, s = ⟨[(0, (.lst (u y.1))), (1, (.int .i64 y.2.1)), (4, j4), (5, j5), (6, j6), (7, .ref 0 v0 1 0 m0), (8, j8), (9, j9), (20, j20), (29, (.int .i64 y.2.2.2.1)), (30, (.int .i64 y.2.2.2.2)), (31, j31)], some ⟨v0, 1, u y.2.2.1⟩ :: g⟩ ∧ m0 = y.2.2.1.length) (fun _ => by simp only [nat_Shr.l0]) _ ?_ _ (Nat.le_refl _) (_, _, _, _, _) _ H ⟨_, _, _, _, _, _, _, _, _, _, rfl, by simp⟩
       clear H
       rintro nl0 hnl0 ⟨x0, x1, x7, x29, x30⟩ s H ⟨j4, j5, j6, m0, j8, j9, j20, j31, v0, g, rfl, rfl⟩ recl0
       simp only [nat_Shr.l0] at H
       repeat' with_reducible (first | (refine none_some H; done) | (refine ite_e H ?_ ?_ <;> clear H <;> intro c H <;> (try simp only [int_beq, decide_eq_true_eq] at c) <;> first | (have : (_ : Bool) = _ := c; clear this) | (have : ¬ (_ : Bool) = _ := c; clear this) | (replace c := eq_false c; try simp only [List.length_replicate, List.length_set, List.length_nil, List.length_cons, Nat.zero_add] at c) | (replace c := eq_true c; try simp only [List.length_replicate, List.length_set, List.length_nil, List.length_cons, Nat.zero_add] at c)) | (refine bind_k (by assumption) H ?_; clear H; intro H) | (refine bind_e H ?_; clear H; intro _ q H; first | (have q' := e_nat_at q; try simp only [u_nil, ui_nil, List.length_replicate, List.length_set, List.cons_append, List.nil_append] at q') | (have q' := e_nat_shift q; try simp only [u_nil, ui_nil, List.length_replicate, List.length_set, List.cons_append, List.nil_append] at q') | (have q' := e_nat_trim q; try simp only [u_nil, ui_nil, List.length_replicate, List.length_set, List.cons_append, List.nil_append] at q') | (replace q := Option.some.inj q; subst q) | skip) | (refine nat_Shr_j0_e H ?_; clear H; intro _ _ H; simp only [nat_Shr.j0] at H))
       all_goals with_reducible (first | (replace H := Option.some.inj H; subst H) | skip)
       all_goals (try simp only [List.length_replicate, List.length_set] at H)
       all_goals (refine go2 ?_)
       all_goals (first | (trivial) | (exact recl0 _ (by omega) (_, _, _, _, _) _ H ⟨_, _, _, _, _, _, _, _, _, _, rfl, by simp⟩) | skip))
   | skip
theorem e_triviumref02_DivSmall {k : Nat} {l0 : List Int} {a1 : Int} {r : List Int × Int} (H : triviumref02_DivSmall.f k l0 a1 = some r) : CP (CL F) 101 [(.lst (ui l0)), (.int .i64 a1)] = some (.tup [(.lst (ui r.1)), (.int .i64 r.2)]) := by
  refine CP_X (F := F) (f := 101) rfl rfl ?_
  unfold triviumref02_DivSmall.f at H
  repeat' with_reducible (first | (refine none_some H; done) | (refine ite_e H ?_ ?_ <;> clear H <;> intro c H <;> (try simp only [int_beq, decide_eq_true_eq] at c) <;> first | (have : (_ : Bool) = _ := c; clear this) | (have : ¬ (_ : Bool) = _ := c; clear this) | (replace c := eq_false c; try simp only [List.length_replicate, List.length_set, List.length_nil, List.length_cons, Nat.zero_add] at c) | (replace c := eq_true c; try simp only [List.length_replicate, List.length_set, List.length_nil, List.length_cons, Nat.zero_add] at c)) | (refine bind_k (by assumption) H ?_; clear H; intro H) | (refine bind_e H ?_; clear H; intro _ q H; first | (have q' := e_triviumref02_Trim q; try simp only [u_nil, ui_nil, List.length_replicate, List.length_set, List.cons_append, List.nil_append] at q') | (replace q := Option.some.inj q; subst q) | skip))
  all_goals with_reducible (first | (replace H := Option.some.inj H; subst H) | skip)
  all_goals (try simp only [List.length_replicate, List.length_set] at H)
  all_goals (refine go2 ?_)
  all_goals (first | trivial | skip)
  all_goals first
   |
      (refine X_fuel3 (L := fun n (y : List Int × Int × List Int × Int × Int) => triviumref02_DivSmall.l0 n y.1 y.2.1 y.2.2.1 y.2.2.2.1 y.2.2.2.2) (S := fun y s => ∃ j4 j5 m0 j16 v0 g, s = ⟨[(0, (.lst (ui y.1))), (1, (.int .i64 y.2.1)), (4, j4), (5, j5), (6, .ref 0 v0 1 0 m0), (7, (.int .i64 y.2.2.2.1)), (8, (.int .i64 y.2.2.2.2)), (16, j16)], some ⟨v0, 1, ui y.2.2.1⟩ :: g⟩ ∧ m0 = y.2.2.1.length) (fun _ => by simp only [triviumref02_DivSmall.l0]) _ ?_ _ (Nat.le_refl _) (_, _, _, _, _) _ H ⟨_, _, _, _, _, _, rfl, by simp⟩
       clear H
       rintro nl0 hnl0 ⟨x0, x1, x6, x7, x8⟩ s H ⟨j4, j5, m0, j16, v0, g, rfl, rfl⟩ recl0
       simp only [triviumref02_DivSmall.l0] at H
       repeat' with_reducible (first | (refine none_some H; done) | (refine ite_e H ?_ ?_ <;> clear H <;> intro c H <;> (try simp only [int_beq, decide_eq_true_eq] at c) <;> first | (have : (_ : Bool) = _ := c; clear this) | (have : ¬ (_ : Bool) = _ := c; clear this) | (replace c := eq_false c; try simp only [List.length_replicate, List.length_set, List.length_nil, List.length_cons, Nat.zero_add] at c) | (replace c := eq_true c; try simp only [List.length_replicate, List.length_set, List.length_nil, List.length_cons, Nat.zero_add] at c)) | (refine bind_k (by assumption) H ?_; clear H; intro H) | (refine bind_e H ?_; clear H; intro _ q H; first | (have q' := e_triviumref02_Trim q; try simp only [u_nil, ui_nil, List.length_replicate, List.length_set, List.cons_append, List.nil_append] at q') | (replace q := Option.some.inj q; subst q) | skip))
       all_goals with_reducible (first | (replace H := Option.some.inj H; subst H) | skip)
       all_goals (try simp only [List.length_replicate, List.length_set] at H)
       all_goals (refine go2 ?_)
       all_goals (first | (trivial) | (exact recl0 _ (by omega) (_, _, _, _, _) _ H ⟨_, _, _, _, _, _, rfl, by simp⟩) | skip))
   | skip
theorem e_triviumref02_Back {k : Nat} {l0 : List Int} {r : List Int} (H : triviumref02_Back.f k l0 = some r) : CP (CL F) 48 [(.lst (ui l0))] = some (.lst (u r)) := by
  refine CP_X (F := F) (f := 48) rfl rfl ?_
  unfold triviumref02_Back.f at H
  repeat' with_reducible (first | (refine none_some H; done) | (refine ite_e H ?_ ?_ <;> clear H <;> intro c H <;> (try simp only [int_beq, decide_eq_true_eq] at c) <;> first | (have : (_ : Bool) = _ := c; clear this) | (have : ¬ (_ : Bool) = _ := c; clear this) | (replace c := eq_false c; try simp only [List.length_replicate, List.length_set, List.length_nil, List.length_cons, Nat.zero_add] at c) | (replace c := eq_true c; try simp only [List.length_replicate, List.length_set, List.length_nil, List.length_cons, Nat.zero_add] at c)) | (refine bind_k (by assumption) H ?_; clear H; intro H) | (refine bind_e H ?_; clear H; intro _ q H; first | (have q' := e_triviumref02_DivSmall q; try simp only [u_nil, ui_nil, List.length_replicate, List.length_set, List.cons_append, List.nil_append] at q') | (replace q := Option.some.inj q; subst q) | skip))
  all_goals with_reducible (first | (replace H := Option.some.inj H; subst H) | skip)
  all_goals (try simp only [List.length_replicate, List.length_set] at H)
  all_goals (refine go2 ?_)
  all_goals (first | trivial | skip)
  all_goals first
   |
      (refine X_fuel3 (L := fun n (y : List Int × List Int) => triviumref02_Back.l0 n y.1 y.2) (S := fun y s => ∃ j2 m0 j4 j5 j9 v0 g, s = ⟨[(0, (.lst (ui y.1))), (2, j2), (3, .ref 0 v0 1 0 m0), (4, j4), (5, j5), (9, j9)], some ⟨v0, 1, u y.2⟩ :: g⟩ ∧ m0 = y.2.length) (fun _ => by simp only [triviumref02_Back.l0]) _ ?_ _ (Nat.le_refl _) (_, _) _ H ⟨_, _, _, _, _, _, _, rfl, by simp⟩
       clear H
       rintro nl0 hnl0 ⟨x0, x3⟩ s H ⟨j2, m0, j4, j5, j9, v0, g, rfl, rfl⟩ recl0
       simp only [triviumref02_Back.l0] at H
       repeat' with_reducible (first | (refine none_some H; done) | (refine ite_e H ?_ ?_ <;> clear H <;> intro c H <;> (try simp only [int_beq, decide_eq_true_eq] at c) <;> first | (have : (_ : Bool) = _ := c; clear this) | (have : ¬ (_ : Bool) = _ := c; clear this) | (replace c := eq_false c; try simp only [List.length_replicate, List.length_set, List.length_nil, List.length_cons, Nat.zero_add] at c) | (replace c := eq_true c; try simp only [List.length_replicate, List.length_set, List.length_nil, List.length_cons, Nat.zero_add] at c)) | (refine bind_k (by assumption) H ?_; clear H; intro H) | (refine bind_e H ?_; clear H; intro _ q H; first | (have q' := e_triviumref02_DivSmall q; try simp only [u_nil, ui_nil, List.length_replicate, List.length_set, List.cons_append, List.nil_append] at q') | (replace q := Option.some.inj q; subst q) | skip))
       all_goals with_reducible (first | (replace H := Option.some.inj H; subst H) | skip)
       all_goals (try simp only [List.length_replicate, List.length_set] at H)
       all_goals (refine go2 ?_)
       all_goals (first | (trivial) | (exact recl0 _ (by omega) (_, _) _ H ⟨_, _, _, _, _, _, _, rfl, by simp⟩) | skip))
   | skip
theorem e_triviumref02_Num {k : Nat} {a0 : Int} {r : List Int} (H : triviumref02_Num.f k a0 = some r) : CP (CL F) 52 [(.int .i64 a0)] = some (.lst (ui r)) := by
  refine CP_X (F := F) (f := 52) rfl rfl ?_
  unfold triviumref02_Num.f at H
  repeat' with_reducible (first | (refine none_some H; done) | (refine ite_e H ?_ ?_ <;> clear H <;> intro c H <;> (try simp only [int_beq, decide_eq_true_eq] at c) <;> first | (have : (_ : Bool) = _ := c; clear this) | (have : ¬ (_ : Bool) = _ := c; clear this) | (replace c := eq_false c; try simp only [List.length_replicate, List.length_set, List.length_nil, List.length_cons, Nat.zero_add] at c) | (replace c := eq_true c; try simp only [List.length_replicate, List.length_set, List.length_nil, List.length_cons, Nat.zero_add] at c)) | (refine bind_k (by assumption) H ?_; clear H; intro H) | (refine bind_e H ?_; clear H; intro _ q H; first | (have q' := e_triviumref02_MulAdd q; try simp only [u_nil, ui_nil, List.length_replicate, List.length_set, List.cons_append, List.nil_append] at q') | (replace q := Option.some.inj q; subst q) | skip))
  all_goals with_reducible (first | (replace H := Option.some.inj H; subst H) | skip)
  all_goals (try simp only [List.length_replicate, List.length_set] at H)
  all_goals (refine go2 ?_)
  all_goals (first | trivial | skip)
theorem e_triviumref02_Cmp {k : Nat} {l0 : List Int} {l1 : List Int} {r : Int} (H : triviumref02_Cmp.f k l0 l1 = some r) : CP (CL F) 51 [(.lst (ui l0)), (.lst (ui l1))] = some (.int .i64 r) := by
  refine CP_X (F := F) (f := 51) rfl rfl ?_
  unfold triviumref02_Cmp.f at H
  repeat' with_reducible (first | (refine none_some H; done) | (refine ite_e H ?_ ?_ <;> clear H <;> intro c H <;> (try simp only [int_beq, decide_eq_true_eq] at c) <;> first | (have : (_ : Bool) = _ := c; clear this) | (have : ¬ (_ : Bool) = _ := c; clear this) | (replace c := eq_false c; try simp only [List.length_replicate, List.length_set, List.length_nil, List.length_cons, Nat.zero_add] at c) | (replace c := eq_true c; try simp only [List.length_replicate, List.length_set, List.length_nil, List.length_cons, Nat.zero_add] at c)) | (refine bind_k (by assumption) H ?_; clear H; intro H) | (refine bind_e H ?_; clear H; intro _ q H; first | (replace q := Option.some.inj q; subst q) | skip))
  all_goals with_reducible (first | (replace H := Option.some.inj H; subst H) | skip)
  all_goals (try simp only [List.length_replicate, List.length_set] at H)
  all_goals (refine go2 ?_)
  all_goals (first | trivial | skip)
  all_goals first
   |
      (refine X_fuel3 (L := fun n (y : List Int × List Int × Int) => triviumref02_Cmp.l0 n y.1 y.2.1 y.2.2) (S := fun y s => ∃ j4 j10 j15 j20 j31 j40 g, s = ⟨[(0, (.lst (ui y.1))), (1, (.lst (ui y.2.1))), (4, j4), (5, (.int .i64 y.2.2)), (10, j10), (15, j15), (20, j20), (31, j31), (40, j40)], g⟩) (fun _ => by simp only [triviumref02_Cmp.l0]) _ ?_ _ (Nat.le_refl _) (_, _, _) _ H ⟨_, _, _, _, _, _, _, rfl⟩
       clear H
       rintro nl0 hnl0 ⟨x0, x1, x5⟩ s H ⟨j4, j10, j15, j20, j31, j40, g, rfl⟩ recl0
       simp only [triviumref02_Cmp.l0] at H
       repeat' with_reducible (first | (refine none_some H; done) | (refine ite_e H ?_ ?_ <;> clear H <;> intro c H <;> (try simp only [int_beq, decide_eq_true_eq] at c) <;> first | (have : (_ : Bool) = _ := c; clear this) | (have : ¬ (_ : Bool) = _ := c; clear this) | (replace c := eq_false c; try simp only [List.length_replicate, List.length_set, List.length_nil, List.length_cons, Nat.zero_add] at c) | (replace c := eq_true c; try simp only [List.length_replicate, List.length_set, List.length_nil, List.length_cons, Nat.zero_add] at c)) | (refine bind_k (by assumption) H ?_; clear H; intro H) | (refine bind_e H ?_; clear H; intro _ q H; first | (replace q := Option.some.inj q; subst q) | skip))
       all_goals with_reducible (first | (replace H := Option.some.inj H; subst H) | skip)
       all_goals (try simp only [List.length_replicate, List.length_set] at H)
       all_goals (refine go2 ?_)
       all_goals (first | (trivial) | (exact recl0 _ (by omega) (_, _, _) _ H ⟨_, _, _, _, _, _, _, rfl⟩) | skip))
   | skip
theorem e_triviumref02_Sub {k : Nat} {l0 : List Int} {l1 : List Int} {r : List Int} (H : triviumref02_Sub.f k l0 l1 = some r) : CP (CL F) 145 [(.lst (ui l0)), (.lst (ui l1))] = some (.lst (ui r)) := by
  refine CP_X (F := F) (f := 145) rfl rfl ?_
  unfold triviumref02_Sub.f at H
  repeat' with_reducible (first | (refine none_some H; done) | (refine ite_e H ?_ ?_ <;> clear H <;> intro c H <;> (try simp only [int_beq, decide_eq_true_eq] at c) <;> first | (have : (_ : Bool) = _ := c; clear this) | (have : ¬ (_ : Bool) = _ := c; clear this) | (replace c := eq_false c; try simp only [List.length_replicate, List.length_set, List.length_nil, List.length_cons, Nat.zero_add] at c) | (replace c := eq_true c; try simp only [List.length_replicate, List.length_set, List.length_nil, List.length_cons, Nat.zero_add] at c)) | (refine bind_k (by assumption) H ?_; clear H; intro H) | (refine bind_e H ?_; clear H; intro _ q H; first | (have q' := e_triviumref02_Trim q; try simp only [u_nil, ui_nil, List.length_replicate, List.length_set, List.cons_append, List.nil_append] at q') | (replace q := Option.some.inj q; subst q) | skip))
  all_goals with_reducible (first | (replace H := Option.some.inj H; subst H) | skip)
  all_goals (try simp only [List.length_replicate, List.length_set] at H)
  all_goals (refine go2 ?_)
  all_goals (first | trivial | skip)
  all_goals first
   |
      (refine X_fuel3 (L := fun n (y : List Int × List Int × List Int × Int × Int) => triviumref02_Sub.l0 n y.1 y.2.1 y.2.2.1 y.2.2.2.1 y.2.2.2.2) (S := fun y s => ∃ j4 m0 j8 j13 j25 j33 v0 g, s = ⟨[(0, (.lst (ui y.1))), (1, (.lst (ui y.2.1))), (4, j4), (5, .ref 0 v0 1 0 m0), (6, (.int .i64 y.2.2.2.1)), (7, (.int .i64 y.2.2.2.2)), (8, j8), (13, j13), (25, j25), (33, j33)], some ⟨v0, 1, ui y.2.2.1⟩ :: g⟩ ∧ m0 = y.2.2.1.length) (fun _ => by simp only [triviumref02_Sub.l0]) _ ?_ _ (Nat.le_refl _) (_, _, _, _, _) _ H ⟨_, _, _, _, _, _, _, _, rfl, by simp⟩
       clear H
       rintro nl0 hnl0 ⟨x0, x1, x5, x6, x7⟩ s H ⟨j4, m0, j8, j13, j25, j33, v0, g, rfl, rfl⟩ recl0
       simp only [triviumref02_Sub.l0] at H
       repeat' with_reducible (first | (refine none_some H; done) | (refine ite_e H ?_ ?_ <;> clear H <;> intro c H <;> (try simp only [int_beq, decide_eq_true_eq] at c) <;> first | (have : (_ : Bool) = _ := c; clear this) | (have : ¬ (_ : Bool) = _ := c; clear this) | (replace c := eq_false c; try simp only [List.length_replicate, List.length_set, List.length_nil, List.length_cons, Nat.zero_add] at c) | (replace c := eq_true c; try simp only [List.length_replicate, List.length_set, List.length_nil, List.length_cons, Nat.zero_add] at c)) | (refine bind_k (by assumption) H ?_; clear H; intro H) | (refine bind_e H ?_; clear H; intro _ q H; first | (have q' := e_triviumref02_Trim q; try simp only [u_nil, ui_nil, List.length_replicate, List.length_set, List.cons_append, List.nil_append] at q') | (replace q := Option.some.inj q; subst q) | skip))
       all_goals with_reducible (first | (replace H := Option.some.inj H; subst H) | skip)
       all_goals (try simp only [List.length_replicate, List.length_set] at H)
       all_goals (refine go2 ?_)
       all_goals (first | (trivial) | (exact recl0 _ (by omega) (_, _, _, _, _) _ H ⟨_, _, _, _, _, _, _, _, rfl, by simp⟩) | skip))
   | skip
theorem e_triviumref02_Div {k : Nat} {l0 : List Int} {l1 : List Int} {r : List Int × List Int} (H : triviumref02_Div.f k l0 l1 = some r) : CP (CL F) 98 [(.lst (ui l0)), (.lst (ui l1))] = some (.tup [(.lst (ui r.1)), (.lst (ui r.2))]) := by
  refine CP_X (F := F) (f := 98) rfl rfl ?_
  unfold triviumref02_Div.f at H
  repeat' with_reducible (first | (refine none_some H; done) | (refine ite_e H ?_ ?_ <;> clear H <;> intro c H <;> (try simp only [int_beq, decide_eq_true_eq] at c) <;> first | (have : (_ : Bool) = _ := c; clear this) | (have : ¬ (_ : Bool) = _ := c; clear this) | (replace c := eq_false c; try simp only [List.length_replicate, List.length_set, List.length_nil, List.length_cons, Nat.zero_add] at c) | (replace c := eq_true c; try simp only [List.length_replicate, List.length_set, List.length_nil, List.length_cons, Nat.zero_add] at c)) | (refine bind_k (by assumption) H ?_; clear H; intro H) | (refine bind_e H ?_; clear H; intro _ q H; first | (have q' := e_triviumref02_Cmp q; try simp only [u_nil, ui_nil, List.length_replicate, List.length_set, List.cons_append, List.nil_append] at q') | (have q' := e_triviumref02_MulAdd q; try simp only [u_nil, ui_nil, List.length_replicate, List.length_set, List.cons_append, List.nil_append] at q') | (have q' := e_triviumref02_Sub q; try simp only [u_nil, ui_nil, List.length_replicate, List.length_set, List.cons_append, List.nil_append] at q') | (have q' := e_triviumref02_Trim q; try simp only [u_nil, ui_nil, List.length_replicate, List.length_set, List.cons_append, List.nil_append] at q') | (replace q := Option.some.inj q; subst q) | skip))
  all_goals with_reducible (first | (replace H := Option.some.inj H; subst H) | skip)
  all_goals (try simp only [List.length_replicate, List.length_set] at H)
  all_goals (refine go2 ?_)
  all_goals (first | trivial | skip)
  all_goals first
   |
      (refine X_fuel3 (L := fun n (y : List Int × List Int × List Int × List Int × Int) => triviumref02_Div.l0 n y.1 y.2.1 y.2.2.1 y.2.2.2.1 y.2.2.2.2) (S := fun y s => ∃ j4 j5 m0 j9 j10 j11 j20 j34 j44 v0 g, s = ⟨[(0, (.lst (ui y.1))), (1, (.lst (ui y.2.1))), (4, j4), (5, j5), (6, .ref 0 v0 1 0 m0), (7, (.lst (ui y.2.2.2.1))), (8, (.int .i64 y.2.2.2.2)), (9, j9), (10, j10), (11, j11), (20, j20), (34, j34), (44, j44)], some ⟨v0, 1, ui y.2.2.1⟩ :: g⟩ ∧ m0 = y.2.2.1.length) (fun _ => by simp only [triviumref02_Div.l0]) _ ?_ _ (Nat.le_refl _) (_, _, _, _, _) _ H ⟨_, _, _, _, _, _, _, _, _, _, _, rfl, by simp⟩
       clear H
       rintro nl0 hnl0 ⟨x0, x1, x6, x7, x8⟩ s H ⟨j4, j5, m0, j9, j10, j11, j20, j34, j44, v0, g, rfl, rfl⟩ recl0
       simp only [triviumref02_Div.l0] at H
       repeat' with_reducible (first | (refine none_some H; done) | (refine ite_e H ?_ ?_ <;> clear H <;> intro c H <;> (try simp only [int_beq, decide_eq_true_eq] at c) <;> first | (have : (_ : Bool) = _ := c; clear this) | (have : ¬ (_ : Bool) = _ := c; clear this) | (replace c := eq_false c; try simp only [List.length_replicate, List.length_set, List.length_nil, List.length_cons, Nat.zero_add] at c) | (replace c := eq_true c; try simp only [List.length_replicate, List.length_set, List.length_nil, List.length_cons, Nat.zero_add] at c)) | (refine bind_k (by assumption) H ?_; clear H; intro H) | (refine bind_e H ?_; clear H; intro _ q H; first | (have q' := e_triviumref02_Cmp q; try simp only [u_nil, ui_nil, List.length_replicate, List.length_set, List.cons_append, List.nil_append] at q') | (have q' := e_triviumref02_MulAdd q; try simp only [u_nil, ui_nil, List.length_replicate, List.length_set, List.cons_append, List.nil_append] at q') | (have q' := e_triviumref02_Sub q; try simp only [u_nil, ui_nil, List.length_replicate, List.length_set, List.cons_append, List.nil_append] at q') | (have q' := e_triviumref02_Trim q; try simp only [u_nil, ui_nil, List.length_replicate, List.length_set, List.cons_append, List.nil_append] at q') | (replace q := Option.some.inj q; subst q) | skip))
       all_goals with_reducible (first | (replace H := Option.some.inj H; subst H) | skip)
       all_goals (try simp only [List.length_replicate, List.length_set] at H)
       all_goals (refine go2 ?_)
       all_goals (first | (trivial) | skip)
       all_goals first
        |
          (refine X_fuel3 (L := fun n (y : List Int × List Int × List Int × List Int × Int × Int × Int) => triviumref02_Div.l1 n y.1 y.2.1 y.2.2.1 y.2.2.2.1 y.2.2.2.2.1 y.2.2.2.2.2.1 y.2.2.2.2.2.2) (S := fun y s => ∃ j4 j5 m0 j11 j20 j34 j44 v0 g, s = ⟨[(0, (.lst (ui y.1))), (1, (.lst (ui y.2.1))), (4, j4), (5, j5), (6, .ref 0 v0 1 0 m0), (7, (.lst (ui y.2.2.2.1))), (8, (.int .i64 y.2.2.2.2.1)), (9, (.int .i64 y.2.2.2.2.2.1)), (10, (.int .i64 y.2.2.2.2.2.2)), (11, j11), (20, j20), (34, j34), (44, j44)], some ⟨v0, 1, ui y.2.2.1⟩ :: g⟩ ∧ m0 = y.2.2.1.length) (fun _ => by simp only [triviumref02_Div.l1]) _ ?_ _ (Nat.le_refl _) (_, _, _, _, _, _, _) _ H ⟨_, _, _, _, _, _, _, _, _, rfl, by simp⟩
           clear H
           rintro nl1 hnl1 ⟨x0, x1, x6, x7, x8, x9, x10⟩ s H ⟨j4, j5, m0, j11, j20, j34, j44, v0, g, rfl, rfl⟩ recl1
           simp only [triviumref02_Div.l1] at H
           repeat' with_reducible (first | (refine none_some H; done) | (refine ite_e H ?_ ?_ <;> clear H <;> intro c H <;> (try simp only [int_beq, decide_eq_true_eq] at c) <;> first | (have : (_ : Bool) = _ := c; clear this) | (have : ¬ (_ : Bool) = _ := c; clear this) | (replace c := eq_false c; try simp only [List.length_replicate, List.length_set, List.length_nil, List.length_cons, Nat.zero_add] at c) | (replace c := eq_true c; try simp only [List.length_replicate, List.length_set, List.length_nil, List.length_cons, Nat.zero_add] at c)) | (refine bind_k (by assumption) H ?_; clear H; intro H) | (refine bind_e H ?_; clear H; intro _ q H; first | (have q' := e_triviumref02_Cmp q; try simp only [u_nil, ui_nil, List.length_replicate, List.length_set, List.cons_append, List.nil_append] at q') | (have q' := e_triviumref02_MulAdd q; try simp only [u_nil, ui_nil, List.length_replicate, List.length_set, List.cons_append, List.nil_append] at q') | (have q' := e_triviumref02_Sub q; try simp only [u_nil, ui_nil, List.length_replicate, List.length_set, List.cons_append, List.nil_append] at q') | (have q' := e_triviumref02_Trim q; try simp only [u_nil, ui_nil, List.length_replicate, List.length_set, List.cons_append, List.nil_append] at q') | (replace q := Option.some.inj q; subst q) | skip))
           all_goals with_reducible (first | (replace H := Option.some.inj H; subst H) | skip)
           all_goals (try simp only [List.length_replicate, List.length_set] at H)
           all_goals (refine go2 ?_)
           all_goals (first | (trivial) | (exact recl0 _ (by omega) (_, _, _, _, _) _ H ⟨_, _, _, _, _, _, _, _, _, _, _, rfl, by simp⟩) | (exact recl1 _ (by omega) (_, _, _, _, _, _, _) _ H ⟨_, _, _, _, _, _, _, _, _, rfl, by simp⟩) | skip)))
   | skip
theorem e_triviumref02_Gcd {k : Nat} {l0 : List Int} {l1 : List Int} {r : List Int} (H : triviumref02_Gcd.f k l0 l1 = some r) : CP (CL F) 99 [(.lst (ui l0)), (.lst (ui l1))] = some (.lst (ui r)) := by
  refine CP_X (F := F) (f := 99) rfl rfl ?_
  unfold triviumref02_Gcd.f at H
  repeat' with_reducible (first | (refine none_some H; done) | (refine ite_e H ?_ ?_ <;> clear H <;> intro c H <;> (try simp only [int_beq, decide_eq_true_eq] at c) <;> first | (have : (_ : Bool) = _ := c; clear this) | (have : ¬ (_ : Bool) = _ := c; clear this) | (replace c := eq_false c; try simp only [List.length_replicate, List.length_set, List.length_nil, List.length_cons, Nat.zero_add] at c) | (replace c := eq_true c; try simp only [List.length_replicate, List.length_set, List.length_nil, List.length_cons, Nat.zero_add] at c)) | (refine bind_k (by assumption) H ?_; clear H; intro H) | (refine bind_e H ?_; clear H; intro _ q H; first | (have q' := e_triviumref02_Div q; try simp only [u_nil, ui_nil, List.length_replicate, List.length_set, List.cons_append, List.nil_append] at q') | (replace q := Option.some.inj q; subst q) | skip))
  all_goals with_reducible (first | (replace H := Option.some.inj H; subst H) | skip)
  all_goals (try simp only [List.length_replicate, List.length_set] at H)
  all_goals (refine go2 ?_)
  all_goals (first | trivial | skip)
  all_goals first
   |
      (refine X_fuel3 (L := fun n (y : List Int × List Int) => triviumref02_Gcd.l0 n y.1 y.2) (S := fun y s => ∃ j4 j6 j9 g, s = ⟨[(0, (.lst (ui y.1))), (1, (.lst (ui y.2))), (4, j4), (6, j6), (9, j9)], g⟩) (fun _ => by simp only [triviumref02_Gcd.l0]) _ ?_ _ (Nat.le_refl _) (_, _) _ H ⟨_, _, _, _, rfl⟩
       clear H
       rintro nl0 hnl0 ⟨x0, x1⟩ s H ⟨j4, j6, j9, g, rfl⟩ recl0
       simp only [triviumref02_Gcd.l0] at H
       repeat' with_reducible (first | (refine none_some H; done) | (refine ite_e H ?_ ?_ <;> clear H <;> intro c H <;> (try simp only [int_beq, decide_eq_true_eq] at c) <;> first | (have : (_ : Bool) = _ := c; clear this) | (have : ¬ (_ : Bool) = _ := c; clear this) | (replace c := eq_false c; try simp only [List.length_replicate, List.length_set, List.length_nil, List.length_cons, Nat.zero_add] at c) | (replace c := eq_true c; try simp only [List.length_replicate, List.length_set, List.length_nil, List.length_cons, Nat.zero_add] at c)) | (refine bind_k (by assumption) H ?_; clear H; intro H) | (refine bind_e H ?_; clear H; intro _ q H; first | (have q' := e_triviumref02_Div q; try simp only [u_nil, ui_nil, List.length_replicate, List.length_set, List.cons_append, List.nil_append] at q') | (replace q := Option.some.inj q; subst q) | skip))
       all_goals with_reducible (first | (replace H := Option.some.inj H; subst H) | skip)
       all_goals (try simp only [List.length_replicate, List.length_set] at H)
       all_goals (refine go2 ?_)
       all_goals (first | (trivial) | (exact recl0 _ (by omega) (_, _) _ H ⟨_, _, _, _, rfl⟩) | skip))
   | skip
theorem e_whole_Neg {k : Nat} {a0_0 : Bool} {l0_1 : List Int} {r : Bool × List Int} (H : whole_Neg.f k a0_0 l0_1 = some r) : CP (CL F) 119 [(.agg [(.bool a0_0), (.lst (u l0_1))])] = some (.agg [(.bool r.1), (.lst (u r.2))]) := by
  refine CP_X (F := F) (f := 119) rfl rfl ?_
  unfold whole_Neg.f at H
  repeat' with_reducible (first | (refine none_some H; done) | (refine ite_e H ?_ ?_ <;> clear H <;> intro c H <;> (try simp only [int_beq, decide_eq_true_eq] at c) <;> first | (have : (_ : Bool) = _ := c; clear this) | (have : ¬ (_ : Bool) = _ := c; clear this) | (replace c := eq_false c; try simp only [List.length_replicate, List.length_set, List.length_nil, List.length_cons, Nat.zero_add] at c) | (replace c := eq_true c; try simp only [List.length_replicate, List.length_set, List.length_nil, List.length_cons, Nat.zero_add] at c)) | (refine bind_k (by assumption) H ?_; clear H; intro H) | (refine bind_e H ?_; clear H; intro _ q H; first | (have q' := e_whole_Made q; try simp only [u_nil, ui_nil, List.length_replicate, List.length_set, List.cons_append, List.nil_append] at q') | (replace q := Option.some.inj q; subst q) | skip))
  all_goals with_reducible (first | (replace H := Option.some.inj H; subst H) | skip)
  all_goals (try simp only [List.length_replicate, List.length_set] at H)
  all_goals (refine go2 ?_)
  all_goals (first | trivial | skip)
end Go.S

end
section
set_option linter.unusedVariables false
set_option linter.unusedSimpArgs false
set_option maxRecDepth 100000
namespace Go.S
open Go Go.AM Go.RowKit Go.K
theorem divide_guess_j1_e {n : Nat} {x0 : List Int} {x1 : Int} {x2 : List Int} {x7 : Int} {x9 : Int} {x10 : Int} {x63 : Bool} {r} {p : Prop} (h : divide_guess.j1 n x0 x1 x2 x7 x9 x10 x63 = some r) (h1 : ∀ m, m < n → divide_guess.j1 (m + 1) x0 x1 x2 x7 x9 x10 x63 = some r → p) : p := by
  cases n with
  | zero => simp [divide_guess.j1] at h
  | succ m => exact h1 m (by omega) h
theorem r_divide_guess {k : Nat} {l0 : List Int} {a1 : Int} {l2 : List Int} {r : Int} (H : divide_guess.f k l0 a1 l2 = some r) {h : Heap} {i v m : Nat} (hb : h[i]? = some (some ⟨v, 1, u l0⟩)) (hm : m = l0.length) :
    CL F 173 [.ref i v 1 0 m, .int .i64 a1, .lst (u l2)] h = some (.int .u64 r, h) := by
  subst hm
  refine CL_X (F := F) (f := 173) rfl rfl ?_
  unfold divide_guess.f at H
  repeat' with_reducible (first | (refine none_some H; done) | (refine ite_e H ?_ ?_ <;> clear H <;> intro c H <;> (try simp only [int_beq, decide_eq_true_eq] at c) <;> first | (have : (_ : Bool) = _ := c; clear this) | (have : ¬ (_ : Bool) = _ := c; clear this) | (replace c := eq_false c; try simp only [List.length_replicate, List.length_set, List.length_nil, List.length_cons, Nat.zero_add] at c) | (replace c := eq_true c; try simp only [List.length_replicate, List.length_set, List.length_nil, List.length_cons, Nat.zero_add] at c)) | (refine bind_k (by assumption) H ?_; clear H; intro H) | (refine bind_e H ?_; clear H; intro _ q H; first | (replace q := Option.some.inj q; subst q) | skip))
  all_goals with_reducible (first | (replace H := Option.some.inj H; subst H) | skip)
  all_goals (try simp only [List.length_replicate, List.length_set] at H)
  all_goals (refine go2 ?_)
  refine X_fuel3 (L := fun n (y : Int × Int × Int) => divide_guess.l0 n l0 a1 l2 y.1 y.2.1 y.2.2) (S := fun y s => ∃ j6 j8 j63 j74, s = ⟨[(0, .ref i v 1 0 l0.length), (1, (.int .i64 a1)), (2, (.lst (u l2))), (6, j6), (7, (.int .i64 y.1)), (8, j8), (9, (.int .u64 y.2.1)), (10, (.int .u64 y.2.2)), (63, j63), (74, j74)], h⟩) (fun _ => by simp only [divide_guess.l0]) _ ?_ _ (Nat.le_refl _) (_, _, _) _ H ⟨_, _, _, _, rfl⟩
  clear H
  rintro nl0 hnl0 ⟨x7, x9, x10⟩ s H ⟨j6, j8, j63, j74, rfl⟩ recl0
  simp only [divide_guess.l0] at H
  repeat' with_reducible (first | (refine none_some H; done) | (refine ite_e H ?_ ?_ <;> clear H <;> intro c H <;> (try simp only [int_beq, decide_eq_true_eq] at c) <;> first | (have : (_ : Bool) = _ := c; clear this) | (have : ¬ (_ : Bool) = _ := c; clear this) | (replace c := eq_false c; try simp only [List.length_replicate, List.length_set, List.length_nil, List.length_cons, Nat.zero_add] at c) | (replace c := eq_true c; try simp only [List.length_replicate, List.length_set, List.length_nil, List.length_cons, Nat.zero_add] at c)) | (refine bind_k (by assumption) H ?_; clear H; intro H) | (refine bind_e H ?_; clear H; intro _ q H; first | (replace q := Option.some.inj q; subst q) | skip) | (refine divide_guess_j1_e H ?_; clear H; intro _ _ H; simp only [divide_guess.j1] at H))
  all_goals with_reducible (first | (replace H := Option.some.inj H; subst H) | skip)
  all_goals (try simp only [List.length_replicate, List.length_set] at H)
  all_goals (refine go2 ?_)
  all_goals (first | (trivial) | (exact recl0 _ (by omega) (_, _, _) _ H ⟨_, _, _, _, rfl⟩))
theorem r_divide_take {k : Nat} {l0 : List Int} {a1 : Int} {l2 : List Int} {a3 : Int} {r : Bool × List Int} (H : divide_take.f k l0 a1 l2 a3 = some r) {h : Heap} {i v m : Nat} (hb : h[i]? = some (some ⟨v, 1, u l0⟩)) (hm : m = l0.length) :
    CL F 174 [.ref i v 1 0 m, .int .i64 a1, .lst (u l2), .int .u64 a3] h = some (.bool r.1, h.set i (some ⟨v, 1, u r.2⟩)) := by
  subst hm
  have hi : i < h.length := by rcases Nat.lt_or_ge i h.length with hi | hi; exact hi; rw [List.getElem?_eq_none hi] at hb; cases hb
  have hg : ∀ x : Option Blk, (h.set i x)[i]? = some x := fun x => by rw [List.getElem?_set_self hi]
  have hs : ∀ x y : Option Blk, (h.set i x).set i y = h.set i y := fun x y => List.set_set x
  have h0 : h = h.set i (some ⟨v, 1, u l0⟩) := by rw [List.getElem?_eq_getElem hi] at hb; rw [← Option.some.inj hb, List.set_getElem_self]
  rw [show CL F 174 [.ref i v 1 0 l0.length, .int .i64 a1, .lst (u l2), .int .u64 a3] h = CL F 174 [.ref i v 1 0 l0.length, .int .i64 a1, .lst (u l2), .int .u64 a3] (h.set i (some ⟨v, 1, u l0⟩)) by rw [← h0]]
  clear h0 hb
  refine CL_X (F := F) (f := 174) rfl rfl ?_
  unfold divide_take.f at H
  repeat' with_reducible (first | (refine none_some H; done) | (refine ite_e H ?_ ?_ <;> clear H <;> intro c H <;> (try simp only [int_beq, decide_eq_true_eq] at c) <;> first | (have : (_ : Bool) = _ := c; clear this) | (have : ¬ (_ : Bool) = _ := c; clear this) | (replace c := eq_false c; try simp only [List.length_replicate, List.length_set, List.length_nil, List.length_cons, Nat.zero_add] at c) | (replace c := eq_true c; try simp only [List.length_replicate, List.length_set, List.length_nil, List.length_cons, Nat.zero_add] at c)) | (refine bind_k (by assumption) H ?_; clear H; intro H) | (refine bind_e H ?_; clear H; intro _ q H; first | (replace q := Option.some.inj q; subst q) | skip))
  all_goals with_reducible (first | (replace H := Option.some.inj H; subst H) | skip)
  all_goals (try simp only [List.length_replicate, List.length_set] at H)
  all_goals (refine go2 ?_)
  refine X_fuel3 (L := fun n (y : List Int × Int × Int × Int × Int) => divide_take.l0 n y.1 a1 l2 a3 y.2.1 y.2.2.1 y.2.2.2.1 y.2.2.2.2) (S := fun y s => ∃ j8 j11 j12 j17, s = ⟨[(0, .ref i v 1 0 l0.length), (1, (.int .i64 a1)), (2, (.lst (u l2))), (3, (.int .u64 a3)), (8, j8), (9, (.int .u64 y.2.1)), (10, (.int .u64 y.2.2.1)), (11, j11), (12, j12), (15, (.int .i64 y.2.2.2.1)), (16, (.int .i64 y.2.2.2.2)), (17, j17)], h.set i (some ⟨v, 1, u y.1⟩)⟩ ∧ y.1.length = l0.length) (fun _ => by simp only [divide_take.l0]) _ ?_ _ (Nat.le_refl _) (_, _, _, _, _) _ H ⟨_, _, _, _, rfl, rfl⟩
  clear H
  rintro nl0 hnl0 ⟨x0, x9, x10, x15, x16⟩ s H ⟨j8, j11, j12, j17, rfl, hl⟩ recl0
  simp only [divide_take.l0] at H
  simp only at hl
  rw [← hl]
  rw [← hl] at recl0
  clear hl
  repeat' with_reducible (first | (refine none_some H; done) | (refine ite_e H ?_ ?_ <;> clear H <;> intro c H <;> (try simp only [int_beq, decide_eq_true_eq] at c) <;> first | (have : (_ : Bool) = _ := c; clear this) | (have : ¬ (_ : Bool) = _ := c; clear this) | (replace c := eq_false c; try simp only [List.length_replicate, List.length_set, List.length_nil, List.length_cons, Nat.zero_add] at c) | (replace c := eq_true c; try simp only [List.length_replicate, List.length_set, List.length_nil, List.length_cons, Nat.zero_add] at c)) | (refine bind_k (by assumption) H ?_; clear H; intro H) | (refine bind_e H ?_; clear H; intro _ q H; first | (have q' := e_divide_at q; try simp only [u_nil, ui_nil, List.length_replicate, List.length_set, List.cons_append, List.nil_append] at q') | (have q' := e_limb_Mul q; try simp only [u_nil, ui_nil, List.length_replicate, List.length_set, List.cons_append, List.nil_append] at q') | (have q' := e_limb_Sub q; try simp only [u_nil, ui_nil, List.length_replicate, List.length_set, List.cons_append, List.nil_append] at q') | (replace q := Option.some.inj q; subst q) | skip))
  all_goals with_reducible (first | (replace H := Option.some.inj H; subst H) | skip)
  all_goals (try simp only [List.length_replicate, List.length_set] at H)
  all_goals (refine go2 ?_)
  all_goals (first | (trivial) | (exact recl0 _ (by omega) (_, _, _, _, _) _ H ⟨_, _, _, _, rfl, by simp⟩))
theorem r_divide_give {k : Nat} {l0 : List Int} {a1 : Int} {l2 : List Int}  {r : List Int} (H : divide_give.f k l0 a1 l2 = some r) {h : Heap} {i v m : Nat} (hb : h[i]? = some (some ⟨v, 1, u l0⟩)) (hm : m = l0.length) :
    CL F 175 [.ref i v 1 0 m, .int .i64 a1, .lst (u l2)] h = some (.tup [], h.set i (some ⟨v, 1, u r⟩)) := by
  subst hm
  have hi : i < h.length := by rcases Nat.lt_or_ge i h.length with hi | hi; exact hi; rw [List.getElem?_eq_none hi] at hb; cases hb
  have hg : ∀ x : Option Blk, (h.set i x)[i]? = some x := fun x => by rw [List.getElem?_set_self hi]
  have hs : ∀ x y : Option Blk, (h.set i x).set i y = h.set i y := fun x y => List.set_set x
  have h0 : h = h.set i (some ⟨v, 1, u l0⟩) := by rw [List.getElem?_eq_getElem hi] at hb; rw [← Option.some.inj hb, List.set_getElem_self]
  rw [show CL F 175 [.ref i v 1 0 l0.length, .int .i64 a1, .lst (u l2)] h = CL F 175 [.ref i v 1 0 l0.length, .int .i64 a1, .lst (u l2)] (h.set i (some ⟨v, 1, u l0⟩)) by rw [← h0]]
  clear h0 hb
  refine CL_X (F := F) (f := 175) rfl rfl ?_
  unfold divide_give.f at H
  repeat' with_reducible (first | (refine none_some H; done) | (refine ite_e H ?_ ?_ <;> clear H <;> intro c H <;> (try simp only [int_beq, decide_eq_true_eq] at c) <;> first | (have : (_ : Bool) = _ := c; clear this) | (have : ¬ (_ : Bool) = _ := c; clear this) | (replace c := eq_false c; try simp only [List.length_replicate, List.length_set, List.length_nil, List.length_cons, Nat.zero_add] at c) | (replace c := eq_true c; try simp only [List.length_replicate, List.length_set, List.length_nil, List.length_cons, Nat.zero_add] at c)) | (refine bind_k (by assumption) H ?_; clear H; intro H) | (refine bind_e H ?_; clear H; intro _ q H; first | (replace q := Option.some.inj q; subst q) | skip))
  all_goals with_reducible (first | (replace H := Option.some.inj H; subst H) | skip)
  all_goals (try simp only [List.length_replicate, List.length_set] at H)
  all_goals (refine go2 ?_)
  refine X_fuel3 (L := fun n (y : List Int × Int × Int × Int) => divide_give.l0 n y.1 a1 l2 y.2.1 y.2.2.1 y.2.2.2) (S := fun y s => ∃ j7 j12, s = ⟨[(0, .ref i v 1 0 l0.length), (1, (.int .i64 a1)), (2, (.lst (u l2))), (6, (.int .u64 y.2.1)), (7, j7), (10, (.int .i64 y.2.2.1)), (11, (.int .i64 y.2.2.2)), (12, j12)], h.set i (some ⟨v, 1, u y.1⟩)⟩ ∧ y.1.length = l0.length) (fun _ => by simp only [divide_give.l0]) _ ?_ _ (Nat.le_refl _) (_, _, _, _) _ H ⟨_, _, rfl, rfl⟩
  clear H
  rintro nl0 hnl0 ⟨x0, x6, x10, x11⟩ s H ⟨j7, j12, rfl, hl⟩ recl0
  simp only [divide_give.l0] at H
  simp only at hl
  rw [← hl]
  rw [← hl] at recl0
  clear hl
  repeat' with_reducible (first | (refine none_some H; done) | (refine ite_e H ?_ ?_ <;> clear H <;> intro c H <;> (try simp only [int_beq, decide_eq_true_eq] at c) <;> first | (have : (_ : Bool) = _ := c; clear this) | (have : ¬ (_ : Bool) = _ := c; clear this) | (replace c := eq_false c; try simp only [List.length_replicate, List.length_set, List.length_nil, List.length_cons, Nat.zero_add] at c) | (replace c := eq_true c; try simp only [List.length_replicate, List.length_set, List.length_nil, List.length_cons, Nat.zero_add] at c)) | (refine bind_k (by assumption) H ?_; clear H; intro H) | (refine bind_e H ?_; clear H; intro _ q H; first | (have q' := e_divide_at q; try simp only [u_nil, ui_nil, List.length_replicate, List.length_set, List.cons_append, List.nil_append] at q') | (have q' := e_limb_Add q; try simp only [u_nil, ui_nil, List.length_replicate, List.length_set, List.cons_append, List.nil_append] at q') | (replace q := Option.some.inj q; subst q) | skip))
  all_goals with_reducible (first | (replace H := Option.some.inj H; subst H) | skip)
  all_goals (try simp only [List.length_replicate, List.length_set] at H)
  all_goals (refine go2 ?_)
  all_goals (first | (trivial) | (exact recl0 _ (by omega) (_, _, _, _) _ H ⟨_, _, rfl, by simp⟩))
theorem divide_take_len {x1 : Int} {x2 : List Int} {x3 : Int} {r : Bool × List Int} : ∀ (n : Nat) (x0 : List Int) (x9 x10 x15 x16 : Int), divide_take.l0 n x0 x1 x2 x3 x9 x10 x15 x16 = some r → r.2.length = x0.length := by
  intro n
  induction n with
  | zero => intro x0 x9 x10 x15 x16 H; simp [divide_take.l0] at H
  | succ n ih =>
    intro x0 x9 x10 x15 x16 H
    simp only [divide_take.l0] at H
    repeat' with_reducible (first | (refine none_some H; done) | (refine ite_e H ?_ ?_ <;> clear H <;> intro c H) | (refine bind_e H ?_; clear H; intro _ q H))
    · rw [ih _ _ _ _ _ H, List.length_set]
    · cases H; rfl
theorem divide_give_len {x1 : Int} {x2 : List Int} {r : List Int} : ∀ (n : Nat) (x0 : List Int) (x6 x10 x11 : Int), divide_give.l0 n x0 x1 x2 x6 x10 x11 = some r → r.length = x0.length := by
  intro n
  induction n with
  | zero => intro x0 x6 x10 x11 H; simp [divide_give.l0] at H
  | succ n ih =>
    intro x0 x6 x10 x11 H
    simp only [divide_give.l0] at H
    repeat' with_reducible (first | (refine none_some H; done) | (refine ite_e H ?_ ?_ <;> clear H <;> intro c H) | (refine bind_e H ?_; clear H; intro _ q H))
    · rw [ih _ _ _ _ H, List.length_set]
    · cases H; rfl
theorem r_divide_guess0 {k : Nat} {l0 : List Int} {a1 : Int} {l2 : List Int} {r : Int} (H : divide_guess.f k l0 a1 l2 = some r) (v : Nat) : ∀ h : Heap, h[0]? = some (some ⟨v, 1, u l0⟩) → CL F 173 [.ref 0 v 1 0 l0.length, .int .i64 a1, .lst (u l2)] h = some (.int .u64 r, h) := fun h hb => r_divide_guess H hb rfl
theorem r_divide_take0 {k : Nat} {l0 : List Int} {a1 : Int} {l2 : List Int} {a3 : Int} {r : Bool × List Int} (H : divide_take.f k l0 a1 l2 a3 = some r) (v : Nat) : r.2.length = l0.length ∧ ∀ h : Heap, h[0]? = some (some ⟨v, 1, u l0⟩) → CL F 174 [.ref 0 v 1 0 l0.length, .int .i64 a1, .lst (u l2), .int .u64 a3] h = some (.bool r.1, h.set 0 (some ⟨v, 1, u r.2⟩)) := ⟨divide_take_len _ _ _ _ _ _ H, fun h hb => r_divide_take H hb rfl⟩
theorem r_divide_give0 {k : Nat} {l0 : List Int} {a1 : Int} {l2 : List Int} {r : List Int} (H : divide_give.f k l0 a1 l2 = some r) (v : Nat) {m : Nat} (hm : l0.length = m) : r.length = m ∧ ∀ h : Heap, h[0]? = some (some ⟨v, 1, u l0⟩) → CL F 175 [.ref 0 v 1 0 m, .int .i64 a1, .lst (u l2)] h = some (.tup [], h.set 0 (some ⟨v, 1, u r⟩)) := ⟨by rw [← hm]; exact divide_give_len _ _ _ _ _ H, fun h hb => r_divide_give H hb hm.symm⟩
theorem e_divide_knuth {k : Nat} {l0 : List Int} {l1 : List Int} {r : List Int × List Int} (H : divide_knuth.f k l0 l1 = some r) : CP (CL F) 161 [(.lst (u l0)), (.lst (u l1))] = some (.tup [(.lst (u r.1)), (.lst (u r.2))]) := by
  refine CP_X (F := F) (f := 161) rfl rfl ?_
  unfold divide_knuth.f at H
  repeat' with_reducible (first | (refine none_some H; done) | (refine ite_e H ?_ ?_ <;> clear H <;> intro c H <;> (try simp only [int_beq, decide_eq_true_eq] at c) <;> first | (have : (_ : Bool) = _ := c; clear this) | (have : ¬ (_ : Bool) = _ := c; clear this) | (replace c := eq_false c; try simp only [List.length_replicate, List.length_set, List.length_nil, List.length_cons, Nat.zero_add] at c) | (replace c := eq_true c; try simp only [List.length_replicate, List.length_set, List.length_nil, List.length_cons, Nat.zero_add] at c)) | (refine bind_k (by assumption) H ?_; clear H; intro H) | (refine bind_e H ?_; clear H; intro _ q H; first | (have q' := e_limb_Bits q; try simp only [u_nil, ui_nil, List.length_replicate, List.length_set, List.cons_append, List.nil_append] at q') | (have q' := e_nat_Make q; try simp only [u_nil, ui_nil, List.length_replicate, List.length_set, List.cons_append, List.nil_append] at q') | (have q' := e_nat_Shl q; try simp only [u_nil, ui_nil, List.length_replicate, List.length_set, List.cons_append, List.nil_append] at q') | (have q' := e_nat_Shr q; try simp only [u_nil, ui_nil, List.length_replicate, List.length_set, List.cons_append, List.nil_append] at q') | (replace q := Option.some.inj q; subst q) | skip))
  all_goals with_reducible (first | (replace H := Option.some.inj H; subst H) | skip)
  all_goals (try simp only [List.length_replicate, List.length_set] at H)
  all_goals (refine go2 ?_)
  simp only [tk_0, nl_app, nz_sub, nz_add] at H
  refine X_fuel3 (L := fun n (y : Int × List Int × List Int × List Int × Int) => divide_knuth.l0 n y.1 y.2.1 y.2.2.1 y.2.2.2.1 y.2.2.2.2) (S := fun y s => ∃ j4 j5 m0 j10 m1 j14 j16 j58 j75 v0 v1 g, s = ⟨[(0, (.lst (u l0))), (1, (.lst (u l1))), (4, j4), (5, j5), (6, (.int .i64 y.1)), (7, (.lst (u y.2.1))), (9, .ref 0 v0 1 0 m0), (10, j10), (12, .ref 1 v1 1 0 m1), (13, (.int .i64 y.2.2.2.2)), (14, j14), (16, j16), (58, j58), (75, j75)], some ⟨v0, 1, u y.2.2.1⟩ :: some ⟨v1, 1, u y.2.2.2.1⟩ :: g⟩ ∧ m0 = y.2.2.1.length ∧ m1 = y.2.2.2.1.length) (fun _ => by simp only [divide_knuth.l0]) _ ?_ _ (Nat.le_refl _) (_, _, _, _, _) _ H ⟨_, _, _, _, _, _, _, _, _, _, _, _, rfl, by simp; omega, by simp⟩
  clear H
  rintro nl0 hnl0 ⟨x6, x7, x9, x12, x13⟩ s H ⟨j4, j5, m0, j10, m1, j14, j16, j58, j75, v0, v1, g, rfl, rfl, rfl⟩ recl0
  simp only [divide_knuth.l0] at H
  repeat' with_reducible (first | (refine none_some H; done) | (refine ite_e H ?_ ?_ <;> clear H <;> intro c H <;> (try simp only [int_beq, decide_eq_true_eq] at c) <;> first | (have : (_ : Bool) = _ := c; clear this) | (have : ¬ (_ : Bool) = _ := c; clear this) | (replace c := eq_false c; try simp only [List.length_replicate, List.length_set, List.length_nil, List.length_cons, Nat.zero_add] at c) | (replace c := eq_true c; try simp only [List.length_replicate, List.length_set, List.length_nil, List.length_cons, Nat.zero_add] at c)) | (refine bind_k (by assumption) H ?_; clear H; intro H) | (refine bind_e H ?_; clear H; intro _ q H; first
     | (have q' := r_divide_guess0 q v0)
     | (have q' := r_divide_take0 q v0; have ql := q'.1; replace q' := q'.2)
     | (have q' := r_divide_give0 q v0 ql; have ql' := q'.1; replace q' := q'.2)
     | (have q' := e_nat_Make q) | (have q' := e_nat_Shr q) | (replace q := Option.some.inj q; subst q) | skip))
  all_goals with_reducible (first | (replace H := Option.some.inj H; subst H) | skip)
  all_goals (try simp only [List.length_replicate, List.length_set] at H)
  all_goals (refine go2 ?_)
  all_goals (first | (trivial) | (exact recl0 _ (by omega) (_, _, _, _, _) _ H ⟨_, _, _, _, _, _, _, _, _, _, _, _, rfl, by first | rfl | simp only [ql'] | simp only [ql], by first | rfl | simp only [List.length_set]⟩))
def ul (l : List (List Int)) : List AV := l.map fun x => .lst (u x)
theorem ul_len (l : List (List Int)) : (ul l).length = l.length := by simp [ul]
theorem ul_get (l : List (List Int)) (i : Int) (h0 : 0 ≤ i) (h1 : i < (l.length : Int)) : (ul l)[i.toNat]? = some (.lst (u (rdl l i))) := by
  have : i.toNat < l.length := by omega
  simp [ul, rdl, List.getElem?_eq_getElem this, List.getD]
theorem e_nat_Sum {k : Nat} {l0 : List (List Int)} {r : List Int} (H : nat_Sum.f k l0 = some r) : CP (CL F) 165 [.lst (ul l0)] = some (.lst (u r)) := by
  refine CP_X (F := F) (f := 165) rfl rfl ?_
  have hul := ul_len
  have hug := ul_get
  unfold nat_Sum.f at H
  refine go2 ?_
  refine X_fuel3 (L := fun n (y : List Int × Int × Int) => nat_Sum.l0 n y.1 l0 y.2.1 y.2.2) (S := fun y s => ∃ j2 j5 j9 t, fz [] t = some (.lst (u y.1)) ∧ used [] deep t = [] ∧ s = ⟨[(0, .lst (ul l0)), (2, j2), (3, t), (5, j5), (6, .lst (ul l0)), (7, .int .i64 y.2.1), (8, .int .i64 y.2.2), (9, j9)], []⟩) (fun _ => by simp only [nat_Sum.l0]) _ ?_ _ (Nat.le_refl _) (_, _, _) _ H ⟨_, _, _, .nil, rfl, rfl, rfl⟩
  clear H
  rintro nl0 hnl0 ⟨x3, x7, x8⟩ s H ⟨j2, j5, j9, t, ht, hu, rfl⟩ recl0
  simp only [nat_Sum.l0] at H
  repeat' with_reducible (first | (refine none_some H; done) | (refine ite_e H ?_ ?_ <;> clear H <;> intro c H <;> (try simp only [int_beq, decide_eq_true_eq] at c) <;> first | (have : (_ : Bool) = _ := c; clear this) | (have : ¬ (_ : Bool) = _ := c; clear this) | (replace c := eq_false c; try simp only [List.length_replicate, List.length_set, List.length_nil, List.length_cons, Nat.zero_add] at c) | (replace c := eq_true c; try simp only [List.length_replicate, List.length_set, List.length_nil, List.length_cons, Nat.zero_add] at c)) | (refine bind_k (by assumption) H ?_; clear H; intro H) | (refine bind_e H ?_; clear H; intro _ q H; first | (have q' := e_nat_Add q; try simp only [u_nil, ui_nil, List.length_replicate, List.length_set, List.cons_append, List.nil_append] at q') | (replace q := Option.some.inj q; subst q) | skip))
  all_goals with_reducible (first | (replace H := Option.some.inj H; subst H) | skip)
  all_goals (try simp only [List.length_replicate, List.length_set] at H)
  all_goals (refine go2 ?_)
  all_goals (first | trivial | exact recl0 _ (by omega) (_, _, _) _ H ⟨_, _, _, _, rfl, rfl, rfl⟩)
theorem fz3 {h : Heap} {v s : Nat} {a b c : List Int} : fzR (frz h 6) (some (some ⟨v, s, [.lst (u a), .lst (u b), .lst (u c)]⟩)) v 0 3 = some (.lst (ul [a, b, c])) := fzR_p (n := 4) rfl
theorem us3 {h : Heap} {id v s : Nat} {a b c : List Int} : usR (used h 6) (some (some ⟨v, s, [.lst (u a), .lst (u b), .lst (u c)]⟩)) id v 0 3 = [id] := usR_p (n := 4) rfl
theorem e_mul_Short : ∀ {k : Nat} {l0 l1 : List Int} {r : List Int}, mul_Short.f k l0 l1 = some r → CP (CL F) 143 [.lst (u l0), .lst (u l1)] = some (.lst (u r)) := by
  intro k
  induction k with
  | zero => intro l0 l1 r H; simp [mul_Short.f] at H
  | succ k ih =>
  intro l0 l1 r H
  refine CP_X (F := F) (f := 143) rfl rfl ?_
  have hf3 := @fz3
  have hu3 := @us3
  simp only [mul_Short.f] at H
  repeat' with_reducible (first | (refine none_some H; done) | (refine ite_e H ?_ ?_ <;> clear H <;> intro c H <;> (try simp only [int_beq, decide_eq_true_eq] at c) <;> first | (have : (_ : Bool) = _ := c; clear this) | (have : ¬ (_ : Bool) = _ := c; clear this) | (replace c := eq_false c; try simp only [List.length_replicate, List.length_set, List.length_nil, List.length_cons, Nat.zero_add] at c) | (replace c := eq_true c; try simp only [List.length_replicate, List.length_set, List.length_nil, List.length_cons, Nat.zero_add] at c)) | (refine bind_k (by assumption) H ?_; clear H; intro H) | (refine bind_e H ?_; clear H; intro _ q H; first | (have q' := ih q; try simp only [u_nil, ui_nil, List.length_replicate, List.length_set, List.cons_append, List.nil_append] at q') | (have q' := e_mul_Long q; try simp only [u_nil, ui_nil, List.length_replicate, List.length_set, List.cons_append, List.nil_append] at q') | (have q' := e_mul_cut q; try simp only [u_nil, ui_nil, List.length_replicate, List.length_set, List.cons_append, List.nil_append] at q') | (have q' := e_nat_Add q; try simp only [u_nil, ui_nil, List.length_replicate, List.length_set, List.cons_append, List.nil_append] at q') | (have q' := e_nat_Sub q; try simp only [u_nil, ui_nil, List.length_replicate, List.length_set, List.cons_append, List.nil_append] at q') | (have q' := e_mul_up q; try simp only [u_nil, ui_nil, List.length_replicate, List.length_set, List.cons_append, List.nil_append] at q') | (have q' := e_nat_Sum q; try simp only [u_nil, ui_nil, List.length_replicate, List.length_set, List.cons_append, List.nil_append] at q') | (replace q := Option.some.inj q; subst q) | skip))
  all_goals with_reducible (first | (replace H := Option.some.inj H; subst H) | skip)
  all_goals (try simp only [List.length_replicate, List.length_set] at H)
  all_goals clear ih
  all_goals (refine go2 ?_)
  all_goals trivial
theorem triviumref02_Clean_j1_e {n : Nat} {x5 : List Int} {r} {p : Prop} (h : triviumref02_Clean.j1 n x5 = some r) (h1 : ∀ m, m < n → triviumref02_Clean.j1 (m + 1) x5 = some r → p) : p := by
  cases n with
  | zero => simp [triviumref02_Clean.j1] at h
  | succ m => exact h1 m (by omega) h
theorem rd_take (l : List Int) (m : Nat) (i : Int) (h0 : 0 ≤ i) (h1 : i < (m : Int)) : rd (l.take m) i = rd l i := by
  unfold rd
  simp only [List.getD_eq_getElem?_getD]
  rw [List.getElem?_take_of_lt (by omega)]
theorem e_triviumref02_Clean {k : Nat} {l0 : List Int} {a1 : Int} {r : List Int} (H : triviumref02_Clean.f k l0 a1 = some r) : CP (CL F) 135 [(.lst (u l0)), (.int .i64 a1)] = some (.lst (u r)) := by
  refine CP_X (F := F) (f := 135) rfl rfl ?_
  unfold triviumref02_Clean.f at H
  refine go2 ?_
  refine X_fuel3 (L := fun n (y : List Int × Int) => triviumref02_Clean.l0 n l0 a1 y.1 y.2) (S := fun y s => ∃ j4 m0 j16 j38 v0 g, s = ⟨[(0, (.lst (u l0))), (1, (.int .i64 a1)), (4, j4), (5, .ref 0 v0 1 0 m0), (6, (.int .i64 y.2)), (16, j16), (38, j38)], some ⟨v0, 1, u y.1⟩ :: g⟩ ∧ m0 = y.1.length) (fun _ => by simp only [triviumref02_Clean.l0]) _ ?_ _ (Nat.le_refl _) (_, _) _ H ⟨_, _, _, _, _, _, rfl, by simp⟩
  clear H
  rintro nl0 hnl0 ⟨x5, x6⟩ s H ⟨j4, m0, j16, j38, v0, g, rfl, rfl⟩ recl0
  simp only [triviumref02_Clean.l0] at H
  repeat' with_reducible (first | (refine none_some H; done) | (refine ite_e H ?_ ?_ <;> clear H <;> intro c H <;> (try simp only [int_beq, decide_eq_true_eq] at c) <;> first | (have : (_ : Bool) = _ := c; clear this) | (have : ¬ (_ : Bool) = _ := c; clear this) | (replace c := eq_false c; try simp only [List.length_replicate, List.length_set, List.length_nil, List.length_cons, Nat.zero_add] at c) | (replace c := eq_true c; try simp only [List.length_replicate, List.length_set, List.length_nil, List.length_cons, Nat.zero_add] at c)) | (refine bind_k (by assumption) H ?_; clear H; intro H) | (refine bind_e H ?_; clear H; intro _ q H; first | (replace q := Option.some.inj q; subst q) | skip) | (refine triviumref02_Clean_j1_e H ?_; clear H; intro _ _ H; simp only [triviumref02_Clean.j1] at H))
  all_goals with_reducible (first | (replace H := Option.some.inj H; subst H) | skip)
  all_goals (try simp only [List.length_replicate, List.length_set] at H)
  all_goals (refine go2 ?_)
  all_goals (try exact recl0 _ (by omega) (_, _) _ H ⟨_, _, _, _, _, _, rfl, by simp⟩)
  all_goals (clear recl0; refine X_fuel3 (L := fun n (y : List Int) => triviumref02_Clean.l1 n y) (S := fun y s => ∃ j4 m0 j6 j16 j38 v0 g b, s = ⟨[(0, (.lst (u l0))), (1, (.int .i64 a1)), (4, j4), (5, .ref 0 v0 1 0 m0), (6, j6), (16, j16), (38, j38)], some ⟨v0, 1, u b⟩ :: g⟩ ∧ m0 ≤ b.length ∧ y = b.take m0) (fun _ => by simp only [triviumref02_Clean.l1]) _ ?_ _ (Nat.le_refl _) _ _ H ⟨_, _, _, _, _, _, _, _, rfl, by simp, by simp⟩)
  all_goals clear H
  all_goals rintro nl1 hnl1 y s H ⟨j4, m0, j6, j16, j38, v0, g, b, rfl, hm, rfl⟩ recl1
  all_goals simp only [triviumref02_Clean.l1] at H
  all_goals have hl : (List.take m0 b).length = m0 := by rw [List.length_take]; omega
  all_goals rw [hl] at H
  all_goals replace hm := eq_true hm
  repeat' with_reducible (first | (refine none_some H; done) | (rw [rd_take b m0 _ (of_eq_true (by assumption)) (of_eq_true (by assumption))] at H) | (refine ite_e H ?_ ?_ <;> clear H <;> intro c H <;> (try simp only [int_beq, decide_eq_true_eq] at c) <;> first | (have : (_ : Bool) = _ := c; clear this) | (have : ¬ (_ : Bool) = _ := c; clear this) | (replace c := eq_false c; try simp only [List.length_replicate, List.length_set, List.length_nil, List.length_cons, Nat.zero_add] at c) | (replace c := eq_true c; try simp only [List.length_replicate, List.length_set, List.length_nil, List.length_cons, Nat.zero_add] at c)) | (refine bind_k (by assumption) H ?_; clear H; intro H) | (refine bind_e H ?_; clear H; intro _ q H; first | (replace q := Option.some.inj q; subst q) | skip))
  all_goals with_reducible (first | (replace H := Option.some.inj H; subst H) | skip)
  all_goals (try simp only [List.length_replicate, List.length_set] at H)
  all_goals have hg := fun i h0 (h1 : i < (m0 : Int)) => u_get b i h0 (by have := of_eq_true hm; omega)
  all_goals (refine go2 ?_)
  all_goals (first | trivial | exact recl1 _ (by omega) _ _ H ⟨_, _, _, _, _, _, _, _, rfl, by have h1 := of_eq_true hm; have h2 : wrap64 ((m0 : Int) - 1) < (m0 : Int) := of_eq_true (by assumption); omega, by have h2 : wrap64 ((m0 : Int) - 1) < (m0 : Int) := of_eq_true (by assumption); rw [List.take_take]; congr 1; omega⟩)
end Go.S

end
section
set_option linter.unusedVariables false
set_option linter.unusedSimpArgs false
set_option maxRecDepth 100000
namespace Go.S
open Go Go.AM Go.RowKit Go.K
theorem e_mul_Mul {k : Nat} {l0 : List Int} {l1 : List Int} {r : List Int} (H : mul_Mul.f k l0 l1 = some r) : CP (CL F) 97 [(.lst (u l0)), (.lst (u l1))] = some (.lst (u r)) := by
  refine CP_X (F := F) (f := 97) rfl rfl ?_
  unfold mul_Mul.f at H
  repeat' with_reducible (first | (refine none_some H; done) | (refine ite_e H ?_ ?_ <;> clear H <;> intro c H <;> (try simp only [int_beq, decide_eq_true_eq] at c) <;> first | (have : (_ : Bool) = _ := c; clear this) | (have : ¬ (_ : Bool) = _ := c; clear this) | (replace c := eq_false c; try simp only [List.length_replicate, List.length_set, List.length_nil, List.length_cons, Nat.zero_add] at c) | (replace c := eq_true c; try simp only [List.length_replicate, List.length_set, List.length_nil, List.length_cons, Nat.zero_add] at c)) | (refine bind_k (by assumption) H ?_; clear H; intro H) | (refine bind_e H ?_; clear H; intro _ q H; first | (have q' := e_mul_Short q; try simp only [u_nil, ui_nil, List.length_replicate, List.length_set, List.cons_append, List.nil_append] at q') | (replace q := Option.some.inj q; subst q) | skip))
  all_goals with_reducible (first | (replace H := Option.some.inj H; subst H) | skip)
  all_goals (try simp only [List.length_replicate, List.length_set] at H)
  all_goals (refine go2 ?_)
  all_goals (first | trivial | skip)
theorem e_whole_Mul {k : Nat} {a0_0 : Bool} {l0_1 : List Int} {a1_0 : Bool} {l1_1 : List Int} {r : Bool × List Int} (H : whole_Mul.f k a0_0 l0_1 a1_0 l1_1 = some r) : CP (CL F) 71 [(.agg [(.bool a0_0), (.lst (u l0_1))]), (.agg [(.bool a1_0), (.lst (u l1_1))])] = some (.agg [(.bool r.1), (.lst (u r.2))]) := by
  refine CP_X (F := F) (f := 71) rfl rfl ?_
  unfold whole_Mul.f at H
  repeat' with_reducible (first | (refine none_some H; done) | (refine ite_e H ?_ ?_ <;> clear H <;> intro c H <;> (try simp only [int_beq, decide_eq_true_eq] at c) <;> first | (have : (_ : Bool) = _ := c; clear this) | (have : ¬ (_ : Bool) = _ := c; clear this) | (replace c := eq_false c; try simp only [List.length_replicate, List.length_set, List.length_nil, List.length_cons, Nat.zero_add] at c) | (replace c := eq_true c; try simp only [List.length_replicate, List.length_set, List.length_nil, List.length_cons, Nat.zero_add] at c)) | (refine bind_k (by assumption) H ?_; clear H; intro H) | (refine bind_e H ?_; clear H; intro _ q H; first | (have q' := e_mul_Mul q; try simp only [u_nil, ui_nil, List.length_replicate, List.length_set, List.cons_append, List.nil_append] at q') | (have q' := e_whole_Made q; try simp only [u_nil, ui_nil, List.length_replicate, List.length_set, List.cons_append, List.nil_append] at q') | (replace q := Option.some.inj q; subst q) | skip))
  all_goals with_reducible (first | (replace H := Option.some.inj H; subst H) | skip)
  all_goals (try simp only [List.length_replicate, List.length_set] at H)
  all_goals (refine go2 ?_)
  all_goals (first | trivial | skip)
theorem divide_Div_j0_e {n : Nat} {x0 : List Int} {x1 : List Int} {x18 : Bool} {r} {p : Prop} (h : divide_Div.j0 n x0 x1 x18 = some r) (h1 : ∀ m, m < n → divide_Div.j0 (m + 1) x0 x1 x18 = some r → p) : p := by
  cases n with
  | zero => simp [divide_Div.j0] at h
  | succ m => exact h1 m (by omega) h
theorem e_divide_Div {k : Nat} {l0 : List Int} {l1 : List Int} {r : List Int × List Int × Int} (H : divide_Div.f k l0 l1 = some r) : CP (CL F) 141 [(.lst (u l0)), (.lst (u l1))] = some (.tup [(.lst (u r.1)), (.lst (u r.2.1)), (.int .i64 r.2.2)]) := by
  refine CP_X (F := F) (f := 141) rfl rfl ?_
  unfold divide_Div.f at H
  repeat' with_reducible (first | (refine none_some H; done) | (refine ite_e H ?_ ?_ <;> clear H <;> intro c H <;> (try simp only [int_beq, decide_eq_true_eq] at c) <;> first | (have : (_ : Bool) = _ := c; clear this) | (have : ¬ (_ : Bool) = _ := c; clear this) | (replace c := eq_false c; try simp only [List.length_replicate, List.length_set, List.length_nil, List.length_cons, Nat.zero_add] at c) | (replace c := eq_true c; try simp only [List.length_replicate, List.length_set, List.length_nil, List.length_cons, Nat.zero_add] at c)) | (refine bind_k (by assumption) H ?_; clear H; intro H) | (refine bind_e H ?_; clear H; intro _ q H; first | (have q' := e_divide_Small q; try simp only [u_nil, ui_nil, List.length_replicate, List.length_set, List.cons_append, List.nil_append] at q') | (have q' := e_divide_knuth q; try simp only [u_nil, ui_nil, List.length_replicate, List.length_set, List.cons_append, List.nil_append] at q') | (have q' := e_nat_Cmp q; try simp only [u_nil, ui_nil, List.length_replicate, List.length_set, List.cons_append, List.nil_append] at q') | (have q' := e_nat_Make q; try simp only [u_nil, ui_nil, List.length_replicate, List.length_set, List.cons_append, List.nil_append] at q') | (have q' := e_nat_May q; try simp only [u_nil, ui_nil, List.length_replicate, List.length_set, List.cons_append, List.nil_append] at q') | (have q' := e_nat_Of q; try simp only [u_nil, ui_nil, List.length_replicate, List.length_set, List.cons_append, List.nil_append] at q') | (replace q := Option.some.inj q; subst q) | skip) | (refine divide_Div_j0_e H ?_; clear H; intro _ _ H; simp only [divide_Div.j0] at H))
  all_goals with_reducible (first | (replace H := Option.some.inj H; subst H) | skip)
  all_goals (try simp only [List.length_replicate, List.length_set] at H)
  all_goals (refine go2 ?_)
  all_goals (first | trivial | skip)
theorem e_divide_Mod {k : Nat} {l0 : List Int} {l1 : List Int} {r : List Int × Int} (H : divide_Mod.f k l0 l1 = some r) : CP (CL F) 158 [(.lst (u l0)), (.lst (u l1))] = some (.tup [(.lst (u r.1)), (.int .i64 r.2)]) := by
  refine CP_X (F := F) (f := 158) rfl rfl ?_
  unfold divide_Mod.f at H
  repeat' with_reducible (first | (refine none_some H; done) | (refine ite_e H ?_ ?_ <;> clear H <;> intro c H <;> (try simp only [int_beq, decide_eq_true_eq] at c) <;> first | (have : (_ : Bool) = _ := c; clear this) | (have : ¬ (_ : Bool) = _ := c; clear this) | (replace c := eq_false c; try simp only [List.length_replicate, List.length_set, List.length_nil, List.length_cons, Nat.zero_add] at c) | (replace c := eq_true c; try simp only [List.length_replicate, List.length_set, List.length_nil, List.length_cons, Nat.zero_add] at c)) | (refine bind_k (by assumption) H ?_; clear H; intro H) | (refine bind_e H ?_; clear H; intro _ q H; first | (have q' := e_divide_Div q; try simp only [u_nil, ui_nil, List.length_replicate, List.length_set, List.cons_append, List.nil_append] at q') | (replace q := Option.some.inj q; subst q) | skip))
  all_goals with_reducible (first | (replace H := Option.some.inj H; subst H) | skip)
  all_goals (try simp only [List.length_replicate, List.length_set] at H)
  all_goals (refine go2 ?_)
  all_goals (first | trivial | skip)
theorem e_gcd_Euclid {k : Nat} {l0 : List Int} {l1 : List Int} {r : List Int} (H : gcd_Euclid.f k l0 l1 = some r) : CP (CL F) 140 [(.lst (u l0)), (.lst (u l1))] = some (.lst (u r)) := by
  refine CP_X (F := F) (f := 140) rfl rfl ?_
  unfold gcd_Euclid.f at H
  repeat' with_reducible (first | (refine none_some H; done) | (refine ite_e H ?_ ?_ <;> clear H <;> intro c H <;> (try simp only [int_beq, decide_eq_true_eq] at c) <;> first | (have : (_ : Bool) = _ := c; clear this) | (have : ¬ (_ : Bool) = _ := c; clear this) | (replace c := eq_false c; try simp only [List.length_replicate, List.length_set, List.length_nil, List.length_cons, Nat.zero_add] at c) | (replace c := eq_true c; try simp only [List.length_replicate, List.length_set, List.length_nil, List.length_cons, Nat.zero_add] at c)) | (refine bind_k (by assumption) H ?_; clear H; intro H) | (refine bind_e H ?_; clear H; intro _ q H; first | (have q' := e_divide_Mod q; try simp only [u_nil, ui_nil, List.length_replicate, List.length_set, List.cons_append, List.nil_append] at q') | (have q' := e_nat_Make q; try simp only [u_nil, ui_nil, List.length_replicate, List.length_set, List.cons_append, List.nil_append] at q') | (replace q := Option.some.inj q; subst q) | skip))
  all_goals with_reducible (first | (replace H := Option.some.inj H; subst H) | skip)
  all_goals (try simp only [List.length_replicate, List.length_set] at H)
  all_goals (refine go2 ?_)
  all_goals (first | trivial | skip)
  all_goals first
   |
      (refine X_fuel3 (L := fun n (y : List Int × List Int) => gcd_Euclid.l0 n y.1 y.2) (S := fun y s => ∃ j4 j9 j23 g, s = ⟨[(0, (.lst (u l0))), (1, (.lst (u l1))), (4, j4), (5, (.lst (u y.1))), (7, (.lst (u y.2))), (9, j9), (23, j23)], g⟩) (fun _ => by simp only [gcd_Euclid.l0]) _ ?_ _ (Nat.le_refl _) (_, _) _ H ⟨_, _, _, _, rfl⟩
       clear H
       rintro nl0 hnl0 ⟨x5, x7⟩ s H ⟨j4, j9, j23, g, rfl⟩ recl0
       simp only [gcd_Euclid.l0] at H
       repeat' with_reducible (first | (refine none_some H; done) | (refine ite_e H ?_ ?_ <;> clear H <;> intro c H <;> (try simp only [int_beq, decide_eq_true_eq] at c) <;> first | (have : (_ : Bool) = _ := c; clear this) | (have : ¬ (_ : Bool) = _ := c; clear this) | (replace c := eq_false c; try simp only [List.length_replicate, List.length_set, List.length_nil, List.length_cons, Nat.zero_add] at c) | (replace c := eq_true c; try simp only [List.length_replicate, List.length_set, List.length_nil, List.length_cons, Nat.zero_add] at c)) | (refine bind_k (by assumption) H ?_; clear H; intro H) | (refine bind_e H ?_; clear H; intro _ q H; first | (have q' := e_divide_Mod q; try simp only [u_nil, ui_nil, List.length_replicate, List.length_set, List.cons_append, List.nil_append] at q') | (have q' := e_nat_Make q; try simp only [u_nil, ui_nil, List.length_replicate, List.length_set, List.cons_append, List.nil_append] at q') | (replace q := Option.some.inj q; subst q) | skip))
       all_goals with_reducible (first | (replace H := Option.some.inj H; subst H) | skip)
       all_goals (try simp only [List.length_replicate, List.length_set] at H)
       all_goals (refine go2 ?_)
       all_goals (first | (trivial) | (exact recl0 _ (by omega) (_, _) _ H ⟨_, _, _, _, rfl⟩) | skip))
   | skip
theorem e_divide_Exact {k : Nat} {l0 : List Int} {l1 : List Int} {r : List Int × Int} (H : divide_Exact.f k l0 l1 = some r) : CP (CL F) 95 [(.lst (u l0)), (.lst (u l1))] = some (.tup [(.lst (u r.1)), (.int .i64 r.2)]) := by
  refine CP_X (F := F) (f := 95) rfl rfl ?_
  unfold divide_Exact.f at H
  repeat' with_reducible (first | (refine none_some H; done) | (refine ite_e H ?_ ?_ <;> clear H <;> intro c H <;> (try simp only [int_beq, decide_eq_true_eq] at c) <;> first | (have : (_ : Bool) = _ := c; clear this) | (have : ¬ (_ : Bool) = _ := c; clear this) | (replace c := eq_false c; try simp only [List.length_replicate, List.length_set, List.length_nil, List.length_cons, Nat.zero_add] at c) | (replace c := eq_true c; try simp only [List.length_replicate, List.length_set, List.length_nil, List.length_cons, Nat.zero_add] at c)) | (refine bind_k (by assumption) H ?_; clear H; intro H) | (refine bind_e H ?_; clear H; intro _ q H; first | (have q' := e_divide_Div q; try simp only [u_nil, ui_nil, List.length_replicate, List.length_set, List.cons_append, List.nil_append] at q') | (replace q := Option.some.inj q; subst q) | skip))
  all_goals with_reducible (first | (replace H := Option.some.inj H; subst H) | skip)
  all_goals (try simp only [List.length_replicate, List.length_set] at H)
  all_goals (refine go2 ?_)
  all_goals (first | trivial | skip)
theorem e_rat_low {k : Nat} {a0_0 : Bool} {l0_1 : List Int} {l1 : List Int} {r : Bool × List Int × List Int} (H : rat_low.f k a0_0 l0_1 l1 = some r) : CP (CL F) 117 [(.agg [(.bool a0_0), (.lst (u l0_1))]), (.lst (u l1))] = some (.agg [(.bool r.1), (.lst (u r.2.1)), (.lst (u r.2.2))]) := by
  refine CP_X (F := F) (f := 117) rfl rfl ?_
  unfold rat_low.f at H
  repeat' with_reducible (first | (refine none_some H; done) | (refine ite_e H ?_ ?_ <;> clear H <;> intro c H <;> (try simp only [int_beq, decide_eq_true_eq] at c) <;> first | (have : (_ : Bool) = _ := c; clear this) | (have : ¬ (_ : Bool) = _ := c; clear this) | (replace c := eq_false c; try simp only [List.length_replicate, List.length_set, List.length_nil, List.length_cons, Nat.zero_add] at c) | (replace c := eq_true c; try simp only [List.length_replicate, List.length_set, List.length_nil, List.length_cons, Nat.zero_add] at c)) | (refine bind_k (by assumption) H ?_; clear H; intro H) | (refine bind_e H ?_; clear H; intro _ q H; first | (have q' := e_divide_Exact q; try simp only [u_nil, ui_nil, List.length_replicate, List.length_set, List.cons_append, List.nil_append] at q') | (have q' := e_gcd_Euclid q; try simp only [u_nil, ui_nil, List.length_replicate, List.length_set, List.cons_append, List.nil_append] at q') | (have q' := e_whole_Made q; try simp only [u_nil, ui_nil, List.length_replicate, List.length_set, List.cons_append, List.nil_append] at q') | (replace q := Option.some.inj q; subst q) | skip))
  all_goals with_reducible (first | (replace H := Option.some.inj H; subst H) | skip)
  all_goals (try simp only [List.length_replicate, List.length_set] at H)
  all_goals (refine go2 ?_)
  all_goals (first | trivial | skip)
theorem e_rat_Make {k : Nat} {a0_0 : Bool} {l0_1 : List Int} {a1_0 : Bool} {l1_1 : List Int} {r : Bool × List Int × List Int × Int} (H : rat_Make.f k a0_0 l0_1 a1_0 l1_1 = some r) : CP (CL F) 70 [(.agg [(.bool a0_0), (.lst (u l0_1))]), (.agg [(.bool a1_0), (.lst (u l1_1))])] = some (.tup [(.agg [(.bool r.1), (.lst (u r.2.1)), (.lst (u r.2.2.1))]), (.int .i64 r.2.2.2)]) := by
  refine CP_X (F := F) (f := 70) rfl rfl ?_
  unfold rat_Make.f at H
  repeat' with_reducible (first | (refine none_some H; done) | (refine ite_e H ?_ ?_ <;> clear H <;> intro c H <;> (try simp only [int_beq, decide_eq_true_eq] at c) <;> first | (have : (_ : Bool) = _ := c; clear this) | (have : ¬ (_ : Bool) = _ := c; clear this) | (replace c := eq_false c; try simp only [List.length_replicate, List.length_set, List.length_nil, List.length_cons, Nat.zero_add] at c) | (replace c := eq_true c; try simp only [List.length_replicate, List.length_set, List.length_nil, List.length_cons, Nat.zero_add] at c)) | (refine bind_k (by assumption) H ?_; clear H; intro H) | (refine bind_e H ?_; clear H; intro _ q H; first | (have q' := e_rat_low q; try simp only [u_nil, ui_nil, List.length_replicate, List.length_set, List.cons_append, List.nil_append] at q') | (have q' := e_whole_Made q; try simp only [u_nil, ui_nil, List.length_replicate, List.length_set, List.cons_append, List.nil_append] at q') | (have q' := e_whole_Sign q; try simp only [u_nil, ui_nil, List.length_replicate, List.length_set, List.cons_append, List.nil_append] at q') | (replace q := Option.some.inj q; subst q) | skip))
  all_goals with_reducible (first | (replace H := Option.some.inj H; subst H) | skip)
  all_goals (try simp only [List.length_replicate, List.length_set] at H)
  all_goals (refine go2 ?_)
  all_goals (first | trivial | skip)
end Go.S

end
section
set_option linter.unusedVariables false
set_option linter.unusedSimpArgs false
set_option maxRecDepth 100000
namespace Go.S
open Go Go.AM Go.RowKit Go.K
theorem ev_cp {α : Type} {g : Nat → Option α} {r : α} {p : Prop} (h : Ev g r) (k : ∀ n, g n = some r → p) : p := by
  obtain ⟨K, hK⟩ := h
  exact k K (hK K (Nat.le_refl _))
theorem s_nat_Cmp {x y : Int} (hx : 0 ≤ x) (hy : 0 ≤ y) (h1 : L x < 1000000000) : CP (CL F) 69 [eN x, eN y] = some (.int .i64 (cmpI x y)) :=
  ev_cp (cmp_ev hx hy (by rw [L_nat hx]; omega)) fun _ h => e_nat_Cmp h
theorem s_nat_Of {x : Int} (h0 : 0 ≤ x) (h1 : x ≤ 18446744073709551615) : CP (CL F) 93 [.int .u64 x] = some (eN x) :=
  ev_cp (nat_of_ev h0 h1) fun _ h => e_nat_Of h
theorem s_whole_Made (b : Bool) {n : Int} (hn : 0 ≤ n) (hl : L n < 1000000000) : CP (CL F) 96 [.bool b, eN n] = some (eZ (sg b n)) :=
  ev_cp (made_wz b hn (by rw [L_nat hn]; omega)) fun _ h => e_whole_Made h
theorem s_whole_Of {a : Int} (h0 : -9223372036854775808 ≤ a) (h1 : a ≤ 9223372036854775807) : CP (CL F) 80 [.int .i64 a] = some (eZ a) :=
  ev_cp (wof_ev h0 h1) fun _ h => e_whole_Of h
theorem s_whole_Neg {z : Int} (hl : L z < 1000000000) : CP (CL F) 119 [eZ z] = some (eZ (-z)) :=
  ev_cp (wneg_ev (z := z) (by have := L_def z; omega)) fun _ h => e_whole_Neg h
theorem s_whole_Add {x y : Int} (h1 : L x < 1000000000) (h2 : L y < 1000000000) : CP (CL F) 148 [eZ x, eZ y] = some (eZ (x + y)) :=
  ev_cp (wadd_ev (x := x) (y := y) h1 h2) fun _ h => e_whole_Add h
theorem s_whole_Mul {x y : Int} (h1 : L x < 500000000) (h2 : L y < 500000000) : CP (CL F) 71 [eZ x, eZ y] = some (eZ (x * y)) :=
  ev_cp (wmul_ev (x := x) (y := y) h1 h2) fun _ h => e_whole_Mul h
def sgn (z : Int) : Int := if z = 0 then 0 else if z < 0 then -1 else 1
theorem s_whole_Sign (z : Int) : CP (CL F) 116 [eZ z] = some (.int .i64 (sgn z)) := e_whole_Sign (wsign_eq z)
theorem qn {q : Rat} : 0 ≤ (q.den : Int) := Int.natCast_nonneg _
theorem s_rat_Sign (q : Rat) : CP (CL F) 79 [eQ q] = some (.int .i64 (sgn q.num)) := by
  refine CP_X (F := F) (f := 79) rfl rfl ?_
  have h := s_whole_Sign q.num
  refine go3 ?_
  trivial
theorem s_rat_up {q : Rat} (h : Lq q < 1000000000) : CP (CL F) 72 [eQ q] = some (eZ q.den) := by
  refine CP_X (F := F) (f := 72) rfl rfl ?_
  have h := s_whole_Made false (n := (q.den : Int)) qn (by have := Lq_den q; omega)
  refine go3 ?_
  rfl
theorem s_rat_one : CP (CL F) 81 [] = some (eN 1) := by
  refine CP_X (F := F) (f := 81) rfl rfl ?_
  have h := s_nat_Of (x := 1) (by decide) (by decide)
  refine go3 ?_
  trivial
theorem s_rat_Of {a : Int} (h0 : -9223372036854775808 ≤ a) (h1 : a ≤ 9223372036854775807) : CP (CL F) 31 [.int .i64 a] = some (eQ (a : Rat)) := by
  refine CP_X (F := F) (f := 31) rfl rfl ?_
  have h := s_whole_Of h0 h1
  have h2 := s_rat_one
  refine go3 ?_
  unfold eQ
  rw [Rat.num_intCast, Rat.den_intCast]
  rfl
theorem s_rat_Make {p d : Int} (hd : d ≠ 0) (h1 : L p < 1000000000) (h2 : L d < 1000000000) : CP (CL F) 70 [eZ p, eZ d] = some (.tup [eQ (Rat.divInt p d), .int .i64 0]) := by
  have hr : nq (sn p d) (ab d) = (decide ((Rat.divInt p d).num < 0), dg B (ab (Rat.divInt p d).num), dg B ((Rat.divInt p d).den : Int)) := by
    rw [nq_rat (by unfold ab; omega)]
    have : Rat.divInt (sn p d) (ab d) = Rat.divInt p d := by
      rw [Rat.divInt_eq_divInt_iff (by unfold ab; omega) hd]
      unfold sn ab
      split
      · have : ((d.natAbs : Nat) : Int) = -d := by omega
        rw [this, Int.mul_neg, Int.neg_mul]
      · have : ((d.natAbs : Nat) : Int) = d := by omega
        rw [this]
    rw [this]
  refine ev_cp (make_ev' (p := p) (d := d) hd h1 h2) fun _ h => ?_
  rw [hr] at h
  exact e_rat_Make h
theorem s_rat_Add {a b : Rat} (h1 : Lq a < 100000000) (h2 : Lq b < 100000000) : CP (CL F) 120 [eQ a, eQ b] = some (eQ (a + b)) := by
  refine CP_X (F := F) (f := 120) rfl rfl ?_
  have a1 := Lq_num a; have a2 := Lq_den a; have b1 := Lq_num b; have b2 := Lq_den b
  have m1 := L_mul a.num b.den; have m2 := L_mul b.num a.den; have m3 := L_mul a.den b.den
  have m4 := L_add (a.num * b.den) (b.num * a.den)
  have u1 := s_rat_up (q := a) (by omega)
  have u2 := s_rat_up (q := b) (by omega)
  have w1 := s_whole_Mul (x := a.num) (y := b.den) (by omega) (by omega)
  have w2 := s_whole_Mul (x := b.num) (y := a.den) (by omega) (by omega)
  have w3 := s_whole_Add (x := a.num * b.den) (y := b.num * a.den) (by omega) (by omega)
  have w4 := s_whole_Mul (x := a.den) (y := b.den) (by omega) (by omega)
  have k := s_rat_Make (p := a.num * b.den + b.num * a.den) (d := a.den * b.den) (by have := Int.mul_pos (a := a.den) (b := b.den) (by have := a.den_pos; omega) (by have := b.den_pos; omega); omega) (by omega) (by omega)
  rw [← rat_add] at k
  clear h1 h2 a1 a2 b1 b2 m1 m2 m3 m4
  refine go3 ?_
  trivial
theorem s_rat_Mul {a b : Rat} (h1 : Lq a < 100000000) (h2 : Lq b < 100000000) : CP (CL F) 25 [eQ a, eQ b] = some (eQ (a * b)) := by
  refine CP_X (F := F) (f := 25) rfl rfl ?_
  have a1 := Lq_num a; have a2 := Lq_den a; have b1 := Lq_num b; have b2 := Lq_den b
  have m1 := L_mul a.num b.num; have m3 := L_mul a.den b.den
  have u1 := s_rat_up (q := a) (by omega)
  have u2 := s_rat_up (q := b) (by omega)
  have w1 := s_whole_Mul (x := a.num) (y := b.num) (by omega) (by omega)
  have w4 := s_whole_Mul (x := a.den) (y := b.den) (by omega) (by omega)
  have k := s_rat_Make (p := a.num * b.num) (d := a.den * b.den) (by have := Int.mul_pos (a := a.den) (b := b.den) (by have := a.den_pos; omega) (by have := b.den_pos; omega); omega) (by omega) (by omega)
  rw [← rat_mul] at k
  clear h1 h2 a1 a2 b1 b2 m1 m3
  refine go3 ?_
  trivial
theorem s_rat_Neg {a : Rat} (h1 : Lq a < 100000000) : CP (CL F) 75 [eQ a] = some (eQ (-a)) := by
  refine CP_X (F := F) (f := 75) rfl rfl ?_
  have a1 := Lq_num a
  have u1 := s_rat_up (q := a) (by omega)
  have w1 := s_whole_Neg (z := a.num) (by omega)
  clear h1 a1
  refine go3 ?_
  unfold eQ
  rw [Rat.neg_num, Rat.neg_den, ab_of_nonneg qn]
theorem rat_ext_iff (a b : Rat) : a = b ↔ a.num = b.num ∧ a.den = b.den := ⟨fun h => by subst h; exact ⟨rfl, rfl⟩, fun h => Rat.ext h.1 h.2⟩
theorem s_rat_Same {a b : Rat} (h1 : Lq a < 100000000) : CP (CL F) 24 [eQ a, eQ b] = some (.bool (decide (a = b))) := by
  refine CP_X (F := F) (f := 24) rfl rfl ?_
  have a1 := Lq_num a; have a2 := Lq_den a
  have c1 := s_nat_Cmp (ab_nonneg a.num) (ab_nonneg b.num) (by rw [← L_nat (ab_nonneg _)]; have := L_def a.num; omega)
  have c2 := s_nat_Cmp (x := (a.den : Int)) (y := (b.den : Int)) qn qn (by omega)
  have hc : ∀ x y : Int, cmpI x y = 0 ↔ x = y := fun x y => by unfold cmpI; split <;> (try split) <;> omega
  have key : decide (a = b) = (decide (a.num < 0) == decide (b.num < 0) && decide (cmpI (ab a.num) (ab b.num) = 0) && decide (cmpI (a.den : Int) (b.den : Int) = 0)) := by
    rw [Bool.eq_iff_iff]
    simp only [decide_eq_true_eq, Bool.and_eq_true, beq_iff_eq, decide_eq_decide, hc, rat_ext_iff]
    unfold ab
    omega
  rw [key]
  clear key hc h1 a1 a2
  by_cases hb : (decide (a.num < 0) == decide (b.num < 0)) = true
  · by_cases e1 : cmpI (ab a.num) (ab b.num) = 0
    · by_cases e2 : cmpI (a.den : Int) (b.den : Int) = 0
      · refine go3 ?_; trivial
      · refine go3 ?_; trivial
    · refine go3 ?_; trivial
  · have hb' : (decide (a.num < 0) == decide (b.num < 0)) = false := by simpa using hb
    clear hb
    refine go3 ?_; trivial
end Go.S

end
section
set_option linter.unusedVariables false
set_option linter.unusedSimpArgs false
set_option maxRecDepth 100000
namespace Go.S
open Go Go.AM Go.RowKit Go.K
theorem dvd_div_ab {p g : Int} (hg : 0 < g) (h : g ∣ p) : p / g < 0 ↔ p < 0 := by
  obtain ⟨c, rfl⟩ := h
  rw [Int.mul_ediv_cancel_left _ (by omega)]
  constructor
  · intro h1; exact Int.mul_neg_of_pos_of_neg hg h1
  · intro h1
    apply Int.lt_of_not_ge
    intro h2
    have := Int.mul_nonneg (Int.le_of_lt hg) h2
    omega
theorem dz : dg D 0 = [] := dg_zero _
theorem bz : dg B 0 = [] := dg_zero _
theorem lenD_pos' {x : Int} (hx : 0 ≤ x) (h : x ≠ 0) : (0 : Int) < ((dg D x).length : Int) := by have := (lenD_pos hx).2 h; omega
theorem lenB_pos' {x : Int} (hx : 0 ≤ x) (h : x ≠ 0) : (0 : Int) < ((dg B x).length : Int) := by have := (dg_len_pos hx).2 h; omega
theorem sg_nonneg_ab (b : Bool) {n : Int} (hn : 0 ≤ n) : ab (sg b n) = n := by unfold sg ab; split <;> omega
theorem sg_lt (b : Bool) {n : Int} (hn : 0 ≤ n) : sg b n < 0 ↔ b = true ∧ n ≠ 0 := by unfold sg; split <;> simp_all <;> omega
theorem rZ_sg (b : Bool) {n : Int} (hn : 0 ≤ n) : rZ (sg b n) = .agg [.bool (b && decide (n ≠ 0)), rN n] := by
  unfold rZ
  rw [sg_nonneg_ab b hn]
  congr 3
  rw [Bool.eq_iff_iff]
  simp [sg_lt b hn]
theorem s_r02_Of {x : Int} (hx : 0 ≤ x) (h1 : L x < 100000000) : CP (CL F) 138 [eN x] = some (rN x) :=
  ev_cp (of_ev hx (by rw [L_nat hx]; omega)) fun _ h => e_triviumref02_Of h
theorem s_r02_Back {x : Int} (hx : 0 ≤ x) (h1 : L x < 100000000) : CP (CL F) 48 [rN x] = some (eN x) :=
  ev_cp (back_ev hx (by have := L_Dn hx; omega)) fun _ h => e_triviumref02_Back h
theorem s_r02_Div {x y : Int} (hx : 0 ≤ x) (hy : 0 < y) (h1 : L x < 1000000000) (h2 : L y < 1000000000) : CP (CL F) 98 [rN x, rN y] = some (.tup [rN (x / y), rN (x % y)]) :=
  ev_cp (rdiv_ev hx hy (by have := L_Dn hx; omega) (by have := L_Dn (x := y) (by omega); omega)) fun _ h => e_triviumref02_Div h
theorem s_r02_Gcd {x y : Int} (hx : 0 ≤ x) (hy : 0 ≤ y) (h1 : L x < 1000000000) (h2 : L y < 1000000000) : CP (CL F) 99 [rN x, rN y] = some (rN (gg x y)) := by
  obtain ⟨m, rfl⟩ := Int.eq_ofNat_of_zero_le hx
  obtain ⟨n, rfl⟩ := Int.eq_ofNat_of_zero_le hy
  have e : Ev (fun k => triviumref02_Gcd.f k (dg D (m : Int)) (dg D (n : Int))) (dg D (gg (m : Int) (n : Int))) := by
    have := rgcd_l0 n m (by have := L_Dn hx; omega) (by have := L_Dn hy; omega)
    unfold triviumref02_Gcd.f gg
    simpa using this
  exact ev_cp e fun _ h => e_triviumref02_Gcd h
theorem s_r02_Num {n : Int} (h0 : 0 ≤ n) (h1 : n ≤ 4294967296) : CP (CL F) 52 [.int .i64 n] = some (rN n) :=
  ev_cp (num_ev h0 h1) fun _ h => e_triviumref02_Num h
theorem s_r02_Clean (xs : List Int) (m : Nat) (hu : ∀ x ∈ xs, 0 ≤ x) (hl : xs.length < 17592186044416) : CP (CL F) 135 [.lst (u xs), .int .i64 (m : Int)] = some (eN (cl xs m)) :=
  ev_cp (clean_ev xs m hu hl) fun _ h => e_triviumref02_Clean h
theorem L_cl (xs : List Int) (m : Nat) : L (cl xs m) ≤ m := L_le (by rw [ab_of_nonneg (cl_nonneg xs m)]; exact cl_lt xs m)
theorem s_r07_made (b : Bool) {n : Int} (hn : 0 ≤ n) : CP (CL F) 146 [.bool b, rN n] = some (rZ (sg b n)) := by
  rw [rZ_sg b hn]
  refine CP_X (F := F) (f := 146) rfl rfl ?_
  by_cases h0 : n = 0
  · subst h0
    have hz := dz
    cases b <;> (refine go3 ?_; simp [dz, ui])
  · have hp := lenD_pos' hn h0
    cases b
    · refine go3 ?_; trivial
    · refine go3 ?_
      simp [h0]
theorem s_r07_Of {z : Int} (h : L z < 100000000) : CP (CL F) 136 [eZ z] = some (rZ z) := by
  refine CP_X (F := F) (f := 136) rfl rfl ?_
  have h1 := s_r02_Of (ab_nonneg z) (by rw [← L_nat (ab_nonneg z)]; exact h)
  have h2 := s_r07_made (decide (z < 0)) (ab_nonneg z)
  rw [sg_wz] at h2
  clear h
  refine go3 ?_
  trivial
theorem s_r07_Back {z : Int} (h : L z < 100000000) : CP (CL F) 50 [rZ z] = some (eZ z) := by
  refine CP_X (F := F) (f := 50) rfl rfl ?_
  have h1 := s_r02_Back (ab_nonneg z) (by rw [← L_nat (ab_nonneg z)]; exact h)
  clear h
  refine go3 ?_
  trivial
theorem s_r07_Num {n : Int} (h0 : -4294967296 ≤ n) (h1 : n ≤ 4294967296) : CP (CL F) 108 [.int .i64 n] = some (rZ n) := by
  refine CP_X (F := F) (f := 108) rfl rfl ?_
  by_cases hn : n < 0
  · have e : wrap64 (0 - n) = -n := by rw [w64 (by omega) (by omega)]; omega
    have e2 : wrap64 (-n) = -n := w64 (by omega) (by omega)
    have a1 := s_r02_Num (n := -n) (by omega) (by omega)
    have a2 := s_r07_made true (n := -n) (by omega)
    rw [show sg true (-n) = n by unfold sg; simp] at a2
    clear h0 h1
    refine go3 ?_
    unfold rZ; simp [hn]
  · have a1 := s_r02_Num (n := n) (by omega) (by omega)
    have a2 := s_r07_made false (n := n) (by omega)
    rw [show sg false n = n by unfold sg; simp] at a2
    clear h0 h1
    refine go3 ?_
    unfold rZ; simp [hn]
theorem s_r07_Clean (b : Bool) (xs : List Int) (m : Nat) (hu : ∀ x ∈ xs, 0 ≤ x) (hl : xs.length < 17592186044416) : CP (CL F) 137 [.agg [.bool b, .lst (u xs)], .int .i64 (m : Int)] = some (eZ (sg b (cl xs m))) := by
  have hz : eZ (sg b (cl xs m)) = .agg [.bool (b && decide (cl xs m ≠ 0)), eN (cl xs m)] := by
    unfold eZ
    rw [sg_nonneg_ab b (cl_nonneg xs m)]
    congr 3
    rw [Bool.eq_iff_iff]
    simp [sg_lt b (cl_nonneg xs m)]
  rw [hz]
  refine CP_X (F := F) (f := 137) rfl rfl ?_
  have h1 := s_r02_Clean xs m hu hl
  have hn := cl_nonneg xs m
  clear hz hu hl
  generalize cl xs m = n at *
  by_cases h0 : n = 0
  · subst h0
    have hz := bz
    cases b <;> (refine go3 ?_; simp [bz, u])
  · have hp := lenB_pos' hn h0
    cases b
    · refine go3 ?_; trivial
    · refine go3 ?_
      simp [h0]
theorem dg_inj {x y : Int} (hx : 0 ≤ x) (hy : 0 ≤ y) : dg B x = dg B y ↔ x = y := ⟨fun h => by rw [← val_dg hB x hx, ← val_dg hB y hy, h], fun h => by rw [h]⟩
theorem s_r08_Low {p d : Int} (hd : 0 < d) (h1 : L p < 1000000000) (h2 : L d < 1000000000) : CP (CL F) 107 [rZ p, rN d] = some (rQ (Rat.divInt p d)) := by
  refine CP_X (F := F) (f := 107) rfl rfl ?_
  have hg := gg_pos (p := p) (d := d) (by omega)
  have egg : gg (ab p) d = gg p d := by unfold gg ab; simp
  have lg : L (gg p d) < 1000000000 := by have := L_dvd (gg_dvd_right p d) (by omega); omega
  have g1 := s_r02_Gcd (ab_nonneg p) (Int.le_of_lt hd) (by rw [← L_nat (ab_nonneg p)]; exact h1) h2
  rw [egg] at g1
  have d1 := s_r02_Div (ab_nonneg p) hg (by rw [← L_nat (ab_nonneg p)]; exact h1) lg
  have d2 := s_r02_Div (Int.le_of_lt hd) hg h2 lg
  have e := nq_rat (p := p) hd
  unfold nq wz at e
  simp only [Prod.mk.injEq] at e
  obtain ⟨e1, e2, e3⟩ := e
  have hq := dvd_div_ab hg (gg_dvd_left p d)
  have e2' : ab p / gg p d = ab (Rat.divInt p d).num := by
    rw [← ab_div hg (gg_dvd_left p d)]
    exact (dg_inj (ab_nonneg _) (ab_nonneg _)).1 e2
  have e3' : d / gg p d = ((Rat.divInt p d).den : Int) := (dg_inj (Int.ediv_nonneg (Int.le_of_lt hd) (Int.le_of_lt hg)) (Int.natCast_nonneg _)).1 e3
  rw [e2'] at d1
  rw [e3'] at d2
  have e4 : (p < 0) = ((Rat.divInt p d).num < 0) := by
    rw [decide_eq_decide] at e1
    rw [← propext e1]
    exact propext hq.symm
  clear e1 e2 e3 e2' e3' hq egg lg h1 h2
  by_cases hp : p < 0
  · have hn : (Rat.divInt p d).num ≠ 0 := by rw [e4] at hp; omega
    have hl := lenD_pos' (ab_nonneg (Rat.divInt p d).num) (by unfold ab; omega)
    have hp' := e4 ▸ hp
    unfold rQ
    clear e4 hd hg
    refine go3 ?_
    trivial
  · have hp' := e4 ▸ hp
    unfold rQ
    clear e4 hd hg
    refine go3 ?_
    trivial
end Go.S

end
section
set_option linter.unusedVariables false
set_option linter.unusedSimpArgs false
set_option maxRecDepth 100000
namespace Go.S
open Go Go.AM Go.RowKit Go.K
theorem sgn_num_zero (q : Rat) : sgn q.num = 0 ↔ q = 0 := by
  rw [← Rat.num_eq_zero]
  unfold sgn
  split
  · simp_all
  · split <;> simp_all
theorem s_r08_Of {q : Rat} (h : Lq q < 100000000) : CP (CL F) 92 [eQ q] = some (rQ q) := by
  refine CP_X (F := F) (f := 92) rfl rfl ?_
  have h1 := s_r07_Of (z := q.num) (by have := Lq_num q; omega)
  have h2 := s_r02_Of (x := (q.den : Int)) qn (by have := Lq_den q; omega)
  clear h
  refine go3 ?_
  trivial
theorem s_r08_Back {q : Rat} (h : Lq q < 100000000) : CP (CL F) 36 [rQ q] = some (eQ q) := by
  refine CP_X (F := F) (f := 36) rfl rfl ?_
  have h1 := s_r07_Back (z := q.num) (by have := Lq_num q; omega)
  have h2 := s_r02_Back (x := (q.den : Int)) qn (by have := Lq_den q; omega)
  clear h
  refine go3 ?_
  trivial
theorem s_r08_Num {n d : Int} (h0 : -4294967296 ≤ n) (h1 : n ≤ 4294967296) (h2 : 0 < d) (h3 : d ≤ 4294967296) : CP (CL F) 62 [.int .i64 n, .int .i64 d] = some (rQ (Rat.divInt n d)) := by
  refine CP_X (F := F) (f := 62) rfl rfl ?_
  have a1 := s_r07_Num h0 h1
  have a2 := s_r02_Num (n := d) (by omega) h3
  have a3 := s_r08_Low (p := n) (d := d) h2 (by have := L_small2 (x := n) (by unfold ab; omega); omega) (by have := L_small2 (x := d) (by unfold ab; omega); omega)
  clear h0 h1 h2 h3
  refine go3 ?_
  trivial
theorem s_r08_Int {n : Int} (h0 : -4294967296 ≤ n) (h1 : n ≤ 4294967296) : CP (CL F) 62 [.int .i64 n, .int .i64 1] = some (rQ (n : Rat)) := by
  have := s_r08_Num h0 h1 (d := 1) (by decide) (by decide)
  rwa [show Rat.divInt n 1 = (n : Rat) by
    have := Rat.num_divInt_den (n : Rat)
    rw [Rat.num_intCast, Rat.den_intCast] at this
    exact this] at this
theorem s_r08_Clean (b : Bool) (xs ys : List Int) (hx : ∀ x ∈ xs, 0 ≤ x) (hy : ∀ y ∈ ys, 0 ≤ y) (lx : xs.length < 17592186044416) (ly : ys.length < 17592186044416) (m : Nat) (hm : m < 1000000) (hm1 : 1 ≤ m) :
    ∃ q : Rat, Lq q ≤ m ∧ CP (CL F) 91 [.agg [.bool b, .lst (u xs), .lst (u ys)], .int .i64 (m : Int)] = some (eQ q) := by
  let d := if cl ys m = 0 then 1 else cl ys m
  have hd : 0 < d := by have := cl_nonneg ys m; show 0 < (if cl ys m = 0 then 1 else cl ys m); split <;> omega
  have Ld : L d ≤ m := by show L (if cl ys m = 0 then 1 else cl ys m) ≤ m; split; have := L_one; omega; exact L_cl ys m
  have Ln : L (sg b (cl xs m)) ≤ m := by have := L_cl xs m; unfold L at *; rw [sg_nonneg_ab b (cl_nonneg xs m)]; rwa [ab_of_nonneg (cl_nonneg xs m)] at this
  have hq : Lq (Rat.divInt (sg b (cl xs m)) d) ≤ m := by
    have := Lq_divInt (p := sg b (cl xs m)) (d := d) (by omega)
    omega
  refine ⟨Rat.divInt (sg b (cl xs m)) d, hq, ?_⟩
  refine CP_X (F := F) (f := 91) rfl rfl ?_
  have k1 := s_r02_Clean ys m hy ly
  have k2 := s_r07_Clean b xs m hx lx
  have k3 := s_r07_Of (z := sg b (cl xs m)) (by omega)
  have k4 := s_r02_Of (x := d) (Int.le_of_lt hd) (by omega)
  have k5 := s_r08_Low (p := sg b (cl xs m)) (d := d) hd (by omega) (by omega)
  have k6 := s_r08_Back (q := Rat.divInt (sg b (cl xs m)) d) (by omega)
  have hn := cl_nonneg ys m
  clear hx hy lx ly Ld Ln hq
  by_cases h0 : cl ys m = 0
  · have ed : d = 1 := by show (if cl ys m = 0 then 1 else cl ys m) = 1; rw [if_pos h0]
    rw [ed] at k4 k5 k6 hd ⊢
    rw [h0] at k1
    clear_value d
    have e1 : dg K.B 1 = [1] := by rw [dg_pos hB (by decide)]; rw [show (1 : Int) / K.B = 0 from rfl, bz]; rfl
    have hz := bz
    unfold eN at k4
    rw [e1] at k4
    clear h0 hd hn e1
    refine go3 ?_
    trivial
  · have ed : d = cl ys m := by show (if cl ys m = 0 then 1 else cl ys m) = _; rw [if_neg h0]
    have hp := lenB_pos' hn h0
    have hp2 : ¬ ((dg B (cl ys m)).length : Int) = 0 := by omega
    rw [← ed] at k1 hp hp2
    clear_value d
    clear h0 hd hn ed
    refine go3 ?_
    trivial
end Go.S

end
section
set_option linter.unusedVariables false
set_option linter.unusedSimpArgs false
namespace Go.S
open Go Go.AM Go.RowKit Go.K
theorem X_up {F : Nat → Option AFunc} {ks : List Nat} {Q : Ex → St → Prop} {k : Kt} {a : ACode} (N : Nat) (S : Nat → St → Prop)
    (step : ∀ i s, i < N → S i s → (∀ s', S (i + 1) s' → X F ks Q (.loop a) s' k) → X F ks Q a s (.seq (.loop a) k))
    (stop : ∀ s, S N s → X F ks Q a s (.seq (.loop a) k)) : ∀ i, i ≤ N → ∀ s, S i s → X F ks Q (.loop a) s k := by
  have H : ∀ d i, N - i = d → i ≤ N → ∀ s, S i s → X F ks Q (.loop a) s k := by
    intro d
    induction d with
    | zero =>
      intro i hd hi s hs
      obtain rfl : i = N := by omega
      exact X_round (stop s hs)
    | succ d ih =>
      intro i hd hi s hs
      exact X_round (step i s (by omega) hs fun s' hs' => ih (i + 1) (by omega) (by omega) s' hs')
  exact fun i hi s hs => H _ i rfl hi s hs
theorem X_upto {F : Nat → Option AFunc} {ks : List Nat} {Q : Ex → St → Prop} {k : Kt} {a : ACode} (N : Nat) (S : Nat → St → Prop)
    (step : ∀ i s, i ≤ N → S i s → (∀ s', i < N → S (i + 1) s' → X F ks Q (.loop a) s' k) → X F ks Q a s (.seq (.loop a) k)) : ∀ i, i ≤ N → ∀ s, S i s → X F ks Q (.loop a) s k := by
  have H : ∀ d i, N - i = d → i ≤ N → ∀ s, S i s → X F ks Q (.loop a) s k := by
    intro d
    induction d with
    | zero =>
      intro i hd hi s hs
      exact X_round (step i s hi hs fun s' h _ => by omega)
    | succ d ih =>
      intro i hd hi s hs
      exact X_round (step i s hi hs fun s' h hs' => ih (i + 1) (by omega) (by omega) s' hs')
  exact fun i hi s hs => H _ i rfl hi s hs
section
variable {α : Type} {f : α → AV}
theorem fill_get (l : List α) (n : Nat) (z : AV) : (em f l ++ List.replicate (n + 1) z)[l.length]? = some z := by
  rw [List.getElem?_append_right (by rw [em_len]; omega), em_len]
  simp
theorem fill_set (l : List α) (n : Nat) (z : AV) (x : α) : (em f l ++ List.replicate (n + 1) z).set l.length (f x) = em f (l ++ [x]) ++ List.replicate n z := by
  rw [List.set_append_right _ _ (by rw [em_len]; omega), em_len]
  simp [em, List.replicate_succ]
theorem em_getN [Inhabited α] (l : List α) (i : Nat) (h : i < l.length) : (em f l)[i]? = some (f (l.getD i default)) := by
  simp [em, List.getElem?_eq_getElem h, List.getD]
end
theorem getD_mem {α : Type} [Inhabited α] {l : List α} {i : Nat} (h : i < l.length) : l.getD i default ∈ l := by
  simp [List.getD, List.getElem?_eq_getElem h]
theorem take_succ_getD {α : Type} [Inhabited α] (l : List α) (i : Nat) (h : i < l.length) : l.take (i + 1) = l.take i ++ [l.getD i default] := by
  rw [List.take_add_one, List.getElem?_eq_getElem h]
  simp [List.getD, List.getElem?_eq_getElem h]
theorem drop_getD {α : Type} [Inhabited α] (l : List α) (i : Nat) (h : i < l.length) : l.drop i = l.getD i default :: l.drop (i + 1) := by
  rw [List.drop_eq_getElem_cons h]
  simp [List.getD, List.getElem?_eq_getElem h]
theorem lt_c {i n : Nat} (h : i < n) : ((i : Int) < (n : Int)) := by omega
theorem nlt_c {n : Nat} : ¬ ((n : Int) < (n : Int)) := by omega
theorem CP_raw {F : Nat → Option AFunc} {f : Nat} {args : List AV} {r : AV} {h : Heap} {x : AV} (h1 : CL F f args [] = some (r, h)) (h2 : fz h r = some x) : CP (CL F) f args = some x := CP_of h1 h2
end Go.S

end
section
set_option linter.unusedVariables false
set_option linter.unusedSimpArgs false
set_option maxRecDepth 100000
namespace Go.S
open Go Go.AM Go.RowKit Go.K
abbrev zQ : AV := .agg [.bool false, .nil, .nil]
abbrev eR (l : List Rat) : AV := .lst (em eQ l)
abbrev rR (l : List Rat) : AV := .lst (em rQ l)
theorem s_vect_Zero_raw {n : Nat} (hn : n ≤ 200) (h : Heap) : CL F 112 [eI n] h = some (.tup [.ref h.length 0 3 0 n, eI 0], h ++ [some ⟨0, 3, em eQ (List.replicate n 0)⟩]) := by
  refine CL_X (F := F) (f := 112) rfl rfl ?_
  have hr := s_rat_Of (a := 0) (by decide) (by decide)
  rw [show ((0 : Int) : Rat) = 0 from rfl] at hr
  have h0 : ¬ ((n : Int) < 0) := by omega
  have h1 : ¬ ((200 : Int) < (n : Int)) := by omega
  have h2 : n ≤ 5026338869833 := by omega
  refine go3 ?_
  refine X_up n (fun i s => ∃ j5 j11 j17, s = ⟨[(0, eI n), (2, .nil), (3, eI 0), (4, .ref h.length 0 3 0 n), (5, j5), (11, j11), (15, eI n), (16, eI i), (17, j17)], h ++ [some ⟨0, 3, em eQ (List.replicate i 0) ++ List.replicate (n - i) zQ⟩]⟩) ?_ ?_ 0 (Nat.zero_le _) _ ⟨_, _, _, rfl⟩
  · rintro i s hi ⟨j5, j11, j17, rfl⟩ rec
    have hl := lt_c hi
    obtain ⟨m, hm⟩ : ∃ m, n - i = m + 1 := ⟨n - i - 1, by omega⟩
    have hg := fill_get (f := eQ) (List.replicate i 0) m zQ
    have hs := fill_set (f := eQ) (List.replicate i 0) m zQ 0
    rw [List.length_replicate] at hg hs
    rw [← hm, show m = n - (i + 1) by omega, ← List.replicate_succ'] at hs
    rw [← hm] at hg
    have hw := i64_nat (n := i) (by omega)
    clear hm h0 h1 h2
    refine go3 ?_
    exact rec _ ⟨_, _, _, rfl⟩
  · rintro s ⟨j5, j11, j17, rfl⟩
    have hl : ¬ ((n : Int) < (n : Int)) := nlt_c
    have he : List.replicate (n - n) zQ = [] := by simp
    refine go3 ?_
    trivial
theorem s_vect_Zero {n : Nat} (hn : n ≤ 200) : CP (CL F) 112 [eI n] = some (.tup [eR (List.replicate n 0), eI 0]) := by
  refine CP_raw (s_vect_Zero_raw hn []) ?_
  refine go3 ?_
  simp
theorem s_vect_Scale {l : List Rat} {c : Rat} (hl : l.length ≤ 1000000) {M : Nat} (hM : M < 50000000) (hb : ∀ q ∈ l, Lq q ≤ M) (hc : Lq c < 50000000) : CP (CL F) 113 [eR l, eQ c] = some (eR (l.map (· * c))) := by
  refine CP_X (F := F) (f := 113) rfl rfl ?_
  have h2 : l.length ≤ 5026338869833 := by omega
  refine go3 ?_
  refine X_up l.length (fun i s => ∃ j6 j7 j14 g, s = ⟨[(0, eR l), (1, eQ c), (3, .ptr 0 0 0 0), (4, .nil), (5, .ref 1 0 3 0 l.length), (6, j6), (7, j7), (11, eR l), (12, eI l.length), (13, eI i), (14, j14)], some ⟨0, 3, [eQ c]⟩ :: some ⟨0, 3, em eQ ((l.take i).map (· * c)) ++ List.replicate (l.length - i) zQ⟩ :: g⟩) ?_ ?_ 0 (Nat.zero_le _) _ ⟨_, _, _, [], rfl⟩
  · rintro i s hi ⟨j6, j7, j14, g, rfl⟩ rec
    have hlt := lt_c hi
    have hg0 := em_getN (f := eQ) l i hi
    have hq := getD_mem hi
    have hm := s_rat_Mul (a := l.getD i default) (b := c) (by have := hb _ hq; omega) (by omega)
    obtain ⟨m, hm'⟩ : ∃ m, l.length - i = m + 1 := ⟨l.length - i - 1, by omega⟩
    have hg := fill_get (f := eQ) ((l.take i).map (· * c)) m zQ
    have hs := fill_set (f := eQ) ((l.take i).map (· * c)) m zQ (l.getD i default * c)
    have hlen : ((l.take i).map (· * c)).length = i := by simp; omega
    rw [hlen] at hg hs
    rw [← hm', show m = l.length - (i + 1) by omega, show (l.take i).map (· * c) ++ [l.getD i default * c] = (l.take (i + 1)).map (· * c) by rw [take_succ_getD l i hi]; simp] at hs
    rw [← hm'] at hg
    have hw := i64_nat (n := i) (by omega)
    clear hm' h2 hlen hq hb
    refine go3 ?_
    exact rec _ ⟨_, _, _, _, rfl⟩
  · rintro s ⟨j6, j7, j14, g, rfl⟩
    have hl : ¬ ((l.length : Int) < (l.length : Int)) := nlt_c
    have he : List.replicate (l.length - l.length) zQ = [] := by simp
    have ht : List.take l.length (l.map (· * c)) = l.map (· * c) := take_len_g _ (by simp)
    refine go3 ?_
    trivial
def addR (a b : List Rat) : List Rat := List.zipWith (· + ·) a b
def addTo (a b : List Rat) (j : Nat) : List Rat := List.zipWith (· + ·) (a.take j) (b.take j) ++ a.drop j
theorem addTo_zero (a b : List Rat) : addTo a b 0 = a := by simp [addTo]
theorem addTo_len {a b : List Rat} (h : b.length = a.length) (j : Nat) : (addTo a b j).length = a.length := by simp [addTo]; omega
theorem addTo_all {a b : List Rat} (h : b.length = a.length) : addTo a b a.length = addR a b := by
  unfold addTo addR
  rw [List.take_length, ← h, List.take_length, h, List.drop_length, List.append_nil]
theorem addTo_getD {a b : List Rat} (h : b.length = a.length) {j : Nat} (hj : j < a.length) : (addTo a b j).getD j default = a.getD j default := by
  unfold addTo
  simp only [List.getD_eq_getElem?_getD]
  rw [List.getElem?_append_right (by simp; omega)]
  have : (List.zipWith (· + ·) (a.take j) (b.take j)).length = j := by simp; omega
  rw [this, Nat.sub_self, List.getElem?_drop, Nat.add_zero]
theorem addTo_set {a b : List Rat} (h : b.length = a.length) {j : Nat} (hj : j < a.length) : (addTo a b j).set j (a.getD j default + b.getD j default) = addTo a b (j + 1) := by
  have hz : (List.zipWith (· + ·) (a.take j) (b.take j)).length = j := by simp; omega
  unfold addTo
  rw [List.set_append_right _ _ (by omega), hz, Nat.sub_self, drop_getD a j hj, List.set_cons_zero, take_succ_getD a j hj, take_succ_getD b j (by omega), List.zipWith_append (by simp; omega)]
  simp
def sumR (r0 : List Rat) (rs : List (List Rat)) : List Rat := rs.foldl addR r0
theorem addR_len {a b : List Rat} (h : b.length = a.length) : (addR a b).length = a.length := by simp [addR]; omega
theorem sumR_len (r0 : List Rat) : ∀ (rs : List (List Rat)), (∀ r ∈ rs, r.length = r0.length) → (sumR r0 rs).length = r0.length := by
  intro rs
  induction rs generalizing r0 with
  | nil => intro _; rfl
  | cons r rs ih =>
    intro h
    have h1 := h r (List.mem_cons_self ..)
    show (sumR (addR r0 r) rs).length = _
    rw [ih (addR r0 r) fun x hx => by rw [addR_len h1]; exact h x (List.mem_cons_of_mem _ hx), addR_len h1]
theorem mem_addR {a b : List Rat} {q : Rat} (h : q ∈ addR a b) : ∃ x ∈ a, ∃ y ∈ b, q = x + y := by
  unfold addR at h
  obtain ⟨i, hi, rfl⟩ := List.getElem_of_mem h
  rw [List.getElem_zipWith]
  exact ⟨_, List.getElem_mem _, _, List.getElem_mem _, rfl⟩
theorem sumR_size {M : Nat} : ∀ (rs : List (List Rat)) (r0 : List Rat) (K : Nat), (∀ q ∈ r0, Lq q ≤ K) → (∀ r ∈ rs, ∀ q ∈ r, Lq q ≤ M) → ∀ q ∈ sumR r0 rs, Lq q ≤ K + rs.length * (M + 1) := by
  intro rs
  induction rs with
  | nil => intro r0 K h0 _ q hq; have := h0 q hq; simp; exact this
  | cons r rs ih =>
    intro r0 K h0 h q hq
    have h1 := ih (addR r0 r) (K + (M + 1)) (fun q hq => by
      obtain ⟨x, hx, y, hy, rfl⟩ := mem_addR hq
      have a1 := h0 x hx
      have a2 := h r (List.mem_cons_self ..) y hy
      have := Lq_add x y
      omega) (fun r' hr' => h r' (List.mem_cons_of_mem _ hr')) q hq
    rw [List.length_cons, Nat.add_mul]
    omega
theorem sumR_snoc (r0 : List Rat) (rs : List (List Rat)) (r : List Rat) : sumR r0 (rs ++ [r]) = addR (sumR r0 rs) r := by simp [sumR]
theorem s_clone {l : List Rat} (hl : l.length ≤ 1000000) (h : Heap) (hn : l ≠ []) : CL F 115 [eR l] h = some (.ref h.length 0 3 0 l.length, h ++ [some ⟨0, 3, em eQ l⟩]) := by
  refine CL_X (F := F) (f := 115) rfl rfl ?_
  cases l with
  | nil => exact absurd rfl hn
  | cons x l =>
    have hl' : (em eQ (x :: l)).isEmpty = false := rfl
    have h2 : l.length < 2513169434916 := by simp at hl; omega
    have he : eqA 3 (eR (x :: l)) .nil = some false := rfl
    clear hl hn
    refine go3 ?_
    trivial
theorem s_clone_nil (h : Heap) : cloneA (CL F) 115 (.lst []) h = some (.zero, h) := by
  refine clone_nil ?_ ?_
  · refine CL_X (F := F) (f := 115) rfl rfl ?_
    refine go3 ?_
    trivial
  · refine CL_X (F := F) (f := 115) rfl rfl ?_
    refine go3 ?_
    trivial
theorem s_clone' {l : List Rat} (hl : l.length ≤ 1000000) (h : Heap) (hn : l ≠ []) : cloneA (CL F) 115 (eR l) h = some (.ref h.length 0 3 0 l.length, h ++ [some ⟨0, 3, em eQ l⟩]) := by
  rw [cloneA_ne, s_clone hl h hn]
  intro hx
  cases l with
  | nil => exact hn rfl
  | cons x l => simp [em] at hx
theorem s_vect_Add {r0 : List Rat} {rs : List (List Rat)} (hl : r0.length ≤ 1000000) (hr : rs.length ≤ 1000000) (hlen : ∀ r ∈ rs, r.length = r0.length) {M : Nat} (h0 : ∀ q ∈ r0, Lq q ≤ M) (hb : ∀ r ∈ rs, ∀ q ∈ r, Lq q ≤ M) (hM : (rs.length + 1) * (M + 1) < 50000000) :
    CP (CL F) 114 [.lst (em eR (r0 :: rs))] = some (.tup [eR (sumR r0 rs), eI 0]) := by
  refine CP_X (F := F) (f := 114) rfl rfl ?_
  have hne : ¬ (((r0 :: rs).length : Int) = 0) := by simp; omega
  have hne' : ¬ ((rs.length : Int) + 1 = 0) := by omega
  have g0 := em_getN (f := eR) (r0 :: rs) 0 (by simp)
  rw [show (r0 :: rs).getD 0 default = r0 from rfl] at g0
  have hdrop : List.drop 1 (em eR (r0 :: rs)) = em eR rs := rfl
  have hlen' : (em eR (r0 :: rs)).length = rs.length + 1 := by simp [em]
  have hok : okS 1 (em eR (r0 :: rs)) = true := em_okS E_eL _
  have hne'' : ¬ (((rs.length + 1 : Nat) : Int) = 0) := by omega
  have h1 : (1 : Int) ≤ ((rs.length + 1 : Nat) : Int) := by omega
  have hs1 : rs.length + 1 - 1 = rs.length := by omega
  have key : ∀ i, i < rs.length → (rs.getD i default).length = r0.length ∧ ∀ q ∈ rs.getD i default, Lq q ≤ M := fun i hi => ⟨hlen _ (getD_mem hi), hb _ (getD_mem hi)⟩
  have hsz : ∀ i, ∀ q ∈ sumR r0 (rs.take i), Lq q ≤ 50000000 := fun i q hq => by
    have h2 := sumR_size (M := M) (rs.take i) r0 M h0 (fun r hr => hb r (List.mem_of_mem_take hr)) q hq
    have h3 : (rs.take i).length * (M + 1) ≤ rs.length * (M + 1) := Nat.mul_le_mul_right _ (by rw [List.length_take]; omega)
    rw [Nat.add_mul] at hM
    omega
  have hMM : M < 50000000 := by rw [Nat.add_mul] at hM; omega
  have hsl : ∀ i, (sumR r0 (rs.take i)).length = r0.length := fun i => sumR_len r0 _ fun r hr => hlen r (List.mem_of_mem_take hr)
  clear hM h0 hb
  by_cases hn : r0 = []
  · subst hn
    have hc := fun h => s_clone_nil h
    have he : em eQ [] = [] := rfl
    have hz : sumR [] rs = [] := List.eq_nil_of_length_eq_zero (by have := hsl rs.length; rwa [List.take_length] at this)
    clear hsl hsz
    refine go3 ?_
    refine X_up rs.length (fun i s => ∃ j6 j7 j8 j20 j27 j28 j29 j30 j31 g, s = ⟨[(0, .lst (em eR ([] :: rs))), (2, .nil), (3, eI 0), (4, .zero), (6, j6), (7, j7), (8, j8), (11, .bool false), (17, .lst (em eR rs)), (18, eI rs.length), (19, eI i), (20, j20), (27, j27), (28, j28), (29, j29), (30, j30), (31, j31)], g⟩) ?_ ?_ 0 (Nat.zero_le _) _ ⟨_, _, _, _, _, _, _, _, _, _, rfl⟩
    · rintro i s hi ⟨j6, j7, j8, j20, j27, j28, j29, j30, j31, g, rfl⟩ rec
      have hlt := lt_c hi
      have hg := em_getN (f := eR) rs i hi
      have hk : rs.getD i default = [] := List.eq_nil_of_length_eq_zero (key i hi).1
      rw [hk] at hg
      have hw := i64_nat (n := i) (by omega)
      clear key hk
      refine go3 ?_
      refine X_round ?_
      refine go3 ?_
      exact rec _ ⟨_, _, _, _, _, _, _, _, _, _, rfl⟩
    · rintro s ⟨j6, j7, j8, j20, j27, j28, j29, j30, j31, g, rfl⟩
      have hl2 : ¬ ((rs.length : Int) < (rs.length : Int)) := nlt_c
      clear key
      refine go3 ?_
      trivial
  · have hc := fun h => s_clone' hl h hn
    refine go3 ?_
    refine X_up rs.length (fun i s => ∃ j6 j7 j8 j20 j27 j28 j29 j30 j31 v g, s = ⟨[(0, .lst (em eR (r0 :: rs))), (2, .nil), (3, eI 0), (4, .ref 0 v 3 0 r0.length), (6, j6), (7, j7), (8, j8), (11, .bool false), (17, .lst (em eR rs)), (18, eI rs.length), (19, eI i), (20, j20), (27, j27), (28, j28), (29, j29), (30, j30), (31, j31)], some ⟨v, 3, em eQ (sumR r0 (rs.take i))⟩ :: g⟩) ?_ ?_ 0 (Nat.zero_le _) _ ⟨_, _, _, _, _, _, _, _, _, _, _, rfl⟩
    · rintro i s hi ⟨j6, j7, j8, j20, j27, j28, j29, j30, j31, v, g, rfl⟩ rec
      have hlt := lt_c hi
      have hg := em_getN (f := eR) rs i hi
      obtain ⟨hk1, hk2⟩ := key i hi
      have hnext : sumR r0 (rs.take (i + 1)) = addR (sumR r0 (rs.take i)) (rs.getD i default) := by rw [take_succ_getD rs i hi, sumR_snoc]
      have hA := hsl i
      have hB := hsz i
      generalize hx : rs.getD i default = x at *
      generalize hy : sumR r0 (rs.take i) = y at *
      have hk1' : ¬ ((x.length : Int) ≠ (r0.length : Int)) := by omega
      have hk1'' : (x.length : Int) = (r0.length : Int) := by omega
      have hw := i64_nat (n := i) (by omega)
      clear key hsl hsz hx hy
      refine go3 ?_
      have hxy : x.length = y.length := by omega
      refine X_up r0.length (fun j s => ∃ j6 j7 j8 j31 v g, s = ⟨[(0, .lst (em eR (r0 :: rs))), (2, .nil), (3, eI 0), (4, .ref 0 v 3 0 r0.length), (6, j6), (7, j7), (8, j8), (11, .bool false), (17, .lst (em eR rs)), (18, eI rs.length), (19, eI i), (20, .bool true), (27, .bool false), (28, eR x), (29, eI r0.length), (30, eI j), (31, j31)], some ⟨v, 3, em eQ (addTo y x j)⟩ :: g⟩) ?_ ?_ 0 (Nat.zero_le _) _ ⟨_, _, _, _, _, _, by rw [addTo_zero]; rfl⟩
      · rintro j s hj ⟨j6, j7, j8, j31, v, g, rfl⟩ rec2
        have hlt2 := lt_c hj
        have e1 := em_getN (f := eQ) x j (by omega)
        have e2 := em_getN (f := eQ) (addTo y x j) j (by rw [addTo_len hxy]; omega)
        rw [addTo_getD hxy (by omega)] at e2
        have e3 := s_rat_Add (a := y.getD j default) (b := x.getD j default) (by have := hB _ (getD_mem (l := y) (i := j) (by omega)); omega) (by have := hk2 _ (getD_mem (l := x) (i := j) (by omega)); omega)
        have e4 := addTo_set hxy (j := j) (by omega)
        have hw2 := i64_nat (n := j) (by omega)
        clear rec hB hk2 hnext
        refine go3 ?_
        exact rec2 _ ⟨_, _, _, _, _, _, rfl⟩
      · rintro s ⟨j6, j7, j8, j31, v, g, rfl⟩
        have hl3 : ¬ ((r0.length : Int) < (r0.length : Int)) := nlt_c
        have e5 : addTo y x r0.length = addR y x := by rw [← hA]; exact addTo_all hxy
        clear hB hk2
        refine go3 ?_
        rw [← hnext]
        exact rec _ ⟨_, _, _, _, _, _, _, _, _, _, _, rfl⟩
    · rintro s ⟨j6, j7, j8, j20, j27, j28, j29, j30, j31, v, g, rfl⟩
      have hl2 : ¬ ((rs.length : Int) < (rs.length : Int)) := nlt_c
      have hfin := hsl rs.length
      rw [List.take_length] at hfin
      have ht : List.take r0.length (sumR r0 rs) = sumR r0 rs := take_len_g _ hfin.symm
      clear key hsl hsz
      refine go3 ?_
      trivial
end Go.S

end
section
set_option linter.unusedVariables false
set_option linter.unusedSimpArgs false
set_option maxRecDepth 100000
namespace Go.S
open Go Go.AM Go.RowKit Go.K
theorem em2 {α : Type} {f : α → AV} (a b : α) : [f a, f b] = em f [a, b] := rfl
def lessR (a : List Rat) (k : Rat) (b : List Rat) : List Rat := List.zipWith (fun x y => x - k * y) a b
theorem lessR_add (a : List Rat) (k : Rat) (b : List Rat) : addR a (b.map (· * -k)) = lessR a k b := by
  unfold addR lessR
  rw [List.zipWith_map_right]
  congr 1
  funext x y
  grind
theorem s_vect_Less {a b : List Rat} {k : Rat} (ha : a.length ≤ 1000000) (hab : b.length = a.length) {M : Nat} (hM : M < 5000000) (h0 : ∀ q ∈ a, Lq q ≤ M) (h1 : ∀ q ∈ b, Lq q ≤ M) (hk : Lq k ≤ M) :
    CP (CL F) 126 [eR a, eQ k, eR b] = some (.tup [eR (lessR a k b), eI 0]) := by
  refine CP_X (F := F) (f := 126) rfl rfl ?_
  have n1 := s_rat_Neg (a := k) (by omega)
  have n2 := s_vect_Scale (l := b) (c := -k) (by omega) (M := M) (by omega) h1 (by rw [Lq_neg]; omega)
  have n3 := s_vect_Add (r0 := a) (rs := [b.map (· * -k)]) ha (by simp) (by simp; omega) (M := 2 * M) (fun q hq => by have := h0 q hq; omega) (fun r hr q hq => by
    simp at hr; subst hr
    obtain ⟨x, hx, rfl⟩ := List.mem_map.1 hq
    have := h1 x hx
    have := Lq_mul x (-k)
    rw [Lq_neg] at this
    omega) (by simp; omega)
  rw [show sumR a [b.map (· * -k)] = lessR a k b from lessR_add a k b] at n3
  have e2 := em2 (f := eR) a (b.map (· * -k))
  clear h0 h1 hk
  refine go3 ?_
  trivial
def dotTo (a b : List Rat) : Nat → Rat
  | 0 => 0
  | i + 1 => dotTo a b i + a.getD i default * b.getD i default
def dot (a b : List Rat) : Rat := dotTo a b a.length
theorem dotTo_size {a b : List Rat} {M : Nat} (h0 : ∀ q ∈ a, Lq q ≤ M) (h1 : ∀ q ∈ b, Lq q ≤ M) : ∀ i, i ≤ a.length → i ≤ b.length → Lq (dotTo a b i) ≤ 1 + i * (2 * M + 1) := by
  intro i
  induction i with
  | zero => intro _ _; have := Lq_zero; show Lq 0 ≤ 1 + 0 * _; omega
  | succ i ih =>
    intro ha hb
    have a1 := ih (by omega) (by omega)
    have a2 := h0 _ (getD_mem (l := a) (i := i) (by omega))
    have a3 := h1 _ (getD_mem (l := b) (i := i) (by omega))
    have a4 := Lq_mul (a.getD i default) (b.getD i default)
    have a5 := Lq_add (dotTo a b i) (a.getD i default * b.getD i default)
    rw [Nat.add_mul]
    show Lq (dotTo a b i + a.getD i default * b.getD i default) ≤ _
    omega
theorem getD_inj {l r : List Rat} (h : l.length = r.length) {i : Nat} (hi : i < l.length) (hne : l.getD i default ≠ r.getD i default) : l ≠ r := fun e => hne (by rw [e])
theorem s_EqualFunc {a b : List Rat} {g : Nat} (ha : a.length ≤ 1000000) (hg : ∀ x ∈ a, ∀ y ∈ b, CP (CL F) g [eQ x, eQ y] = some (.bool (decide (x = y)))) :
    CP (CL F) 109 [eR a, eR b, .fn g [] []] = some (.bool (decide (a = b))) := by
  refine CP_X (F := F) (f := 109) rfl rfl ?_
  by_cases hl : a.length = b.length
  · have hl1 : ¬ ((a.length : Int) ≠ (b.length : Int)) := by omega
    have hl2 : (a.length : Int) = (b.length : Int) := by omega
    refine go3 ?_
    refine X_upto a.length (fun i s => ∃ j6 j7 j8 j9 j18 j30 g', (a.take i = b.take i) ∧ s = ⟨[(0, eR a), (1, eR b), (2, .fn g [] []), (6, j6), (7, j7), (8, j8), (9, j9), (14, .bool false), (15, eR a), (16, eI b.length), (17, eI i), (18, j18), (30, j30)], g'⟩) ?_ 0 (Nat.zero_le _) _ ⟨_, _, _, _, _, _, _, by simp, rfl⟩
    rintro i s hi ⟨j6, j7, j8, j9, j18, j30, g', heq, rfl⟩ rec
    by_cases hlt : i < a.length
    · have hlt1 : (i : Int) < (b.length : Int) := by omega
      have hlt2 : (i : Int) < (a.length : Int) := by omega
      have g1 := em_getN (f := eQ) a i (by omega)
      have g2 := em_getN (f := eQ) b i (by omega)
      have hc := hg _ (getD_mem (l := a) (i := i) (by omega)) _ (getD_mem (l := b) (i := i) (by omega))
      by_cases hx : a.getD i default = b.getD i default
      · have hx' : decide (a.getD i default = b.getD i default) = true := decide_eq_true hx
        rw [hx'] at hc
        have hnext : a.take (i + 1) = b.take (i + 1) := by rw [take_succ_getD a i hlt, take_succ_getD b i (by omega), heq, hx]
        have hw := i64_nat (n := i) (by omega)
        clear hx hx' heq hg
        refine go3 ?_
        exact rec _ hlt ⟨_, _, _, _, _, _, _, hnext, rfl⟩
      · have hx' : decide (a.getD i default = b.getD i default) = false := decide_eq_false hx
        rw [hx'] at hc
        have hne : decide (a = b) = false := by simpa using getD_inj hl hlt hx
        clear hx hx' heq hg rec
        refine go3 ?_
        trivial
    · have hl3 : ¬ ((i : Int) < (b.length : Int)) := by omega
      have he : decide (a = b) = true := by
        rw [List.take_of_length_le (by omega), List.take_of_length_le (by omega)] at heq
        simpa using heq
      clear heq hg rec
      refine go3 ?_
      trivial
  · have hl1 : (a.length : Int) ≠ (b.length : Int) := by omega
    have hl2 : ¬ (a.length : Int) = (b.length : Int) := by omega
    have he : decide (a = b) = false := by simpa using fun e => hl (by rw [e])
    clear hg
    refine go3 ?_
    trivial
theorem s_vect_Same {a b : List Rat} (ha : a.length ≤ 1000000) (h0 : ∀ q ∈ a, Lq q < 100000000) : CP (CL F) 64 [eR a, eR b] = some (.bool (decide (a = b))) := by
  refine CP_X (F := F) (f := 64) rfl rfl ?_
  have h := s_EqualFunc (a := a) (b := b) (g := 24) ha fun x hx y hy => s_rat_Same (h0 x hx)
  clear h0
  refine go3 ?_
  trivial
end Go.S

end
section
set_option linter.unusedVariables false
set_option linter.unusedSimpArgs false
set_option maxRecDepth 100000
namespace Go.S
open Go Go.AM Go.RowKit Go.K
structure XQ where
  b : Bool
  n : List Int
  d : List Int
instance : Inhabited XQ := ⟨⟨false, [], []⟩⟩
def XQ.ok (x : XQ) : Prop := (∀ y ∈ x.n, 0 ≤ y) ∧ (∀ y ∈ x.d, 0 ≤ y) ∧ x.n.length < 17592186044416 ∧ x.d.length < 17592186044416
def eX (x : XQ) : AV := .agg [.bool x.b, .lst (u x.n), .lst (u x.d)]
theorem cells_eX {x : XQ} : cells (eX x) = [.bool x.b, .lst (u x.n), .lst (u x.d)] := rfl
theorem agg_eX {x : XQ} : AV.agg [.bool x.b, .lst (u x.n), .lst (u x.d)] = eX x := rfl
theorem fz_eX {x : XQ} {h} : fz h (eX x) = some (eX x) := fz_plain1 rfl
theorem us_eX {x : XQ} {h} : used h deep (eX x) = [] := us_plain1 rfl
theorem shut_eX {x : XQ} {cs} : shut (eX x) cs = some (.agg cs) := rfl
theorem s_r08_CleanX {x : XQ} (hx : x.ok) {m : Nat} (hm : m < 1000000) (hm1 : 1 ≤ m) : ∃ q : Rat, Lq q ≤ m ∧ CP (CL F) 91 [eX x, eI m] = some (eQ q) := s_r08_Clean x.b x.n x.d hx.1 hx.2.1 hx.2.2.1 hx.2.2.2 m hm hm1
end Go.S

end
section
set_option linter.unusedVariables false
set_option linter.unusedSimpArgs false
set_option maxRecDepth 100000
namespace Go.Proofs.YtflnfnemhgjglaaGreat.R
open Go Go.AM Go.S Go.RowKit Go.K Go.Proofs
def okN (l : List Int) : Prop := (∀ x ∈ l, 0 ≤ x) ∧ l.length < 17592186044416
theorem bytes64 : Tryz.prog.bytesOf 136 = 8 := by kernel_rfl
theorem rdU : Rd Tryz.prog 136 (fun n : Int => [.int .u64 n]) fun n => (Lit.int .u64 n).wf = true := rd_int Tryz.underlying136
theorem rdN : Rd Tryz.prog 41 (fun l : List Int => [.lst (u l)]) okN :=
  (rd_slice Tryz.underlying41 rdU (fun n => AV.int .u64 n) (fun _ => rfl) (s := 1) (by kernel_rfl) (fun _ => rfl) (by decide)).map id (fun _ => rfl) fun l ⟨h1, h2⟩ => ⟨fun x hx => (wf_u64 (h1 x hx)).1, by
    rw [bytes64] at h2
    have : reachBytes = 140737488351232 := rfl
    show l.length < _
    omega⟩
theorem rdZ : Rd Tryz.prog 43 (fun z : Bool × List Int => [.bool z.1, .lst (u z.2)]) fun z => okN z.2 := by
  refine Rd.map (f := fun p : Bool × List Int × Unit => [AV.bool p.1] ++ ([AV.lst (u p.2.1)] ++ [])) (ok := fun p => True ∧ okN p.2.1 ∧ True) (rd_struct Tryz.underlying43 (fun _ => by kernel_rfl) ?_) (fun p => (p.1, p.2.1)) (fun _ => rfl) fun p h => h.2.1
  refine rdfs_cons (s := 1) (f := fun b : Bool => [AV.bool b]) (g := fun q : List Int × Unit => [AV.lst (u q.1)] ++ []) (ok := fun _ => True) (okb := fun q => okN q.1 ∧ True) rfl (by kernel_rfl) (fun _ => rfl) (rd_bool Tryz.underlying4) ?_
  exact rdfs_cons (s := 1) (f := fun l : List Int => [AV.lst (u l)]) (g := fun _ : Unit => []) (ok := okN) (okb := fun _ => True) rfl (by kernel_rfl) (fun _ => rfl) rdN rdfs_nil
theorem rdQ : Rd Tryz.prog 45 (fun x : XQ => [.bool x.b, .lst (u x.n), .lst (u x.d)]) XQ.ok := by
  refine Rd.map (f := fun p : (Bool × List Int) × List Int × Unit => [AV.bool p.1.1, AV.lst (u p.1.2)] ++ ([AV.lst (u p.2.1)] ++ [])) (ok := fun p => okN p.1.2 ∧ okN p.2.1 ∧ True) (rd_struct Tryz.underlying45 (fun _ => by kernel_rfl) ?_) (fun p => ⟨p.1.1, p.1.2, p.2.1⟩) (fun _ => rfl) fun p h => ⟨h.1.1, h.2.1.1, h.1.2, h.2.1.2⟩
  refine rdfs_cons (s := 2) (f := fun z : Bool × List Int => [AV.bool z.1, AV.lst (u z.2)]) (g := fun q : List Int × Unit => [AV.lst (u q.1)] ++ []) (ok := fun z => okN z.2) (okb := fun q => okN q.1 ∧ True) rfl (by kernel_rfl) (fun _ => rfl) rdZ ?_
  exact rdfs_cons (s := 1) (f := fun l : List Int => [AV.lst (u l)]) (g := fun _ : Unit => []) (ok := okN) (okb := fun _ => True) rfl (by kernel_rfl) (fun _ => rfl) rdN rdfs_nil
theorem rdR : Rd Tryz.prog 56 (fun l : List XQ => [.lst (em eX l)]) fun l => ∀ x ∈ l, x.ok :=
  (rd_slice Tryz.underlying56 rdQ eX (fun _ => rfl) (s := 3) (by kernel_rfl) (fun _ => rfl) (by decide)).map id (fun _ => rfl) fun l h => h.1
end Go.Proofs.YtflnfnemhgjglaaGreat.R

end
