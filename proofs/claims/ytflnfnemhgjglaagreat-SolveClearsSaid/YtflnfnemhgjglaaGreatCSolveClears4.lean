/- A part of the proof of the law SolveClears: an abstract machine for the functions' code with its soundness, words, lemmas (assembled by a program). -/
import Derived.Test.YtflnfnemhgjglaaGreatProg
import Derived.KernelRfl
import Derived.Test.YtflnfnemhgjglaaGreatCSolveClears3
set_option linter.unusedVariables false
set_option linter.unusedSimpArgs false
set_option linter.unusedSectionVars false
section
set_option linter.unusedVariables false
set_option linter.unusedSimpArgs false
set_option maxRecDepth 100000
namespace Go.S
open Go Go.AM Go.RowKit Go.K
theorem e_nat_Cmp {k : Nat} {l0 : List Int} {l1 : List Int} {r : Int} (H : nat_Cmp.f k l0 l1 = some r) : CP (CL F) 69 [(.lst (u l0)), (.lst (u l1))] = some (.int .i64 r) := by
  refine CP_X (F := F) (f := 69) rfl rfl ?_
  unfold nat_Cmp.f at H
  repeat' with_reducible (first | (refine none_some H; done) | (refine ite_e H ?_ ?_ <;> clear H <;> intro c H <;> (try simp only [int_beq, decide_eq_true_eq] at c) <;> first | (have : (_ : Bool) = _ := c; clear this) | (have : ¬ (_ : Bool) = _ := c; clear this) | (replace c := eq_false c; try simp only [List.length_replicate, List.length_set, List.length_nil, List.length_cons, Nat.zero_add] at c) | (replace c := eq_true c; try simp only [List.length_replicate, List.length_set, List.length_nil, List.length_cons, Nat.zero_add] at c)) | (refine bind_k (by assumption) H ?_; clear H; intro H) | (refine bind_e H ?_; clear H; intro _ q H; first | (replace q := Option.some.inj q; subst q) | skip))
  all_goals with_reducible (first | (replace H := Option.some.inj H; subst H) | skip)
  all_goals (try simp only [List.length_replicate, List.length_set] at H)
  all_goals (refine go2 ?_)
  all_goals (first | trivial | skip)
  all_goals first
   |
      (refine X_fuel3 (L := fun n (y : List Int × List Int × Int) => nat_Cmp.l0 n y.1 y.2.1 y.2.2) (S := fun y s => ∃ j4 j6 j12 j22 j25 j35 g, s = ⟨[(0, (.lst (u y.1))), (1, (.lst (u y.2.1))), (4, j4), (5, (.int .i64 y.2.2)), (6, j6), (12, j12), (22, j22), (25, j25), (35, j35)], g⟩) (fun _ => by simp only [nat_Cmp.l0]) _ ?_ _ (Nat.le_refl _) (_, _, _) _ H ⟨_, _, _, _, _, _, _, rfl⟩
       clear H
       rintro nl0 hnl0 ⟨x0, x1, x5⟩ s H ⟨j4, j6, j12, j22, j25, j35, g, rfl⟩ recl0
       simp only [nat_Cmp.l0] at H
       repeat' with_reducible (first | (refine none_some H; done) | (refine ite_e H ?_ ?_ <;> clear H <;> intro c H <;> (try simp only [int_beq, decide_eq_true_eq] at c) <;> first | (have : (_ : Bool) = _ := c; clear this) | (have : ¬ (_ : Bool) = _ := c; clear this) | (replace c := eq_false c; try simp only [List.length_replicate, List.length_set, List.length_nil, List.length_cons, Nat.zero_add] at c) | (replace c := eq_true c; try simp only [List.length_replicate, List.length_set, List.length_nil, List.length_cons, Nat.zero_add] at c)) | (refine bind_k (by assumption) H ?_; clear H; intro H) | (refine bind_e H ?_; clear H; intro _ q H; first | (replace q := Option.some.inj q; subst q) | skip))
       all_goals with_reducible (first | (replace H := Option.some.inj H; subst H) | skip)
       all_goals (try simp only [List.length_replicate, List.length_set] at H)
       all_goals (refine go2 ?_)
       all_goals (first | (trivial) | (exact recl0 _ (by omega) (_, _, _) _ H ⟨_, _, _, _, _, _, _, rfl⟩) | skip))
   | skip
theorem e_nat_trim {k : Nat} {l0 : List Int} {r : List Int} (H : nat_trim.f k l0 = some r) : CP (CL F) 139 [(.lst (u l0))] = some (.lst (u r)) := by
  refine CP_X (F := F) (f := 139) rfl rfl ?_
  unfold nat_trim.f at H
  repeat' with_reducible (first | (refine none_some H; done) | (refine ite_e H ?_ ?_ <;> clear H <;> intro c H <;> (try simp only [int_beq, decide_eq_true_eq] at c) <;> first | (have : (_ : Bool) = _ := c; clear this) | (have : ¬ (_ : Bool) = _ := c; clear this) | (replace c := eq_false c; try simp only [List.length_replicate, List.length_set, List.length_nil, List.length_cons, Nat.zero_add] at c) | (replace c := eq_true c; try simp only [List.length_replicate, List.length_set, List.length_nil, List.length_cons, Nat.zero_add] at c)) | (refine bind_k (by assumption) H ?_; clear H; intro H) | (refine bind_e H ?_; clear H; intro _ q H; first | (replace q := Option.some.inj q; subst q) | skip))
  all_goals with_reducible (first | (replace H := Option.some.inj H; subst H) | skip)
  all_goals (try simp only [List.length_replicate, List.length_set] at H)
  all_goals (refine go2 ?_)
  all_goals (first | trivial | skip)
  all_goals first
   |
      (refine X_fuel3 (L := fun n (y : List Int × Int) => nat_trim.l0 n y.1 y.2) (S := fun y s => ∃ j2 j15 g, s = ⟨[(0, (.lst (u y.1))), (2, j2), (3, (.int .i64 y.2)), (15, j15)], g⟩) (fun _ => by simp only [nat_trim.l0]) _ ?_ _ (Nat.le_refl _) (_, _) _ H ⟨_, _, _, rfl⟩
       clear H
       rintro nl0 hnl0 ⟨x0, x3⟩ s H ⟨j2, j15, g, rfl⟩ recl0
       simp only [nat_trim.l0] at H
       repeat' with_reducible (first | (refine none_some H; done) | (refine ite_e H ?_ ?_ <;> clear H <;> intro c H <;> (try simp only [int_beq, decide_eq_true_eq] at c) <;> first | (have : (_ : Bool) = _ := c; clear this) | (have : ¬ (_ : Bool) = _ := c; clear this) | (replace c := eq_false c; try simp only [List.length_replicate, List.length_set, List.length_nil, List.length_cons, Nat.zero_add] at c) | (replace c := eq_true c; try simp only [List.length_replicate, List.length_set, List.length_nil, List.length_cons, Nat.zero_add] at c)) | (refine bind_k (by assumption) H ?_; clear H; intro H) | (refine bind_e H ?_; clear H; intro _ q H; first | (replace q := Option.some.inj q; subst q) | skip))
       all_goals with_reducible (first | (replace H := Option.some.inj H; subst H) | skip)
       all_goals (try simp only [List.length_replicate, List.length_set] at H)
       all_goals (refine go2 ?_)
       all_goals (first | (trivial) | (exact recl0 _ (by omega) (_, _) _ H ⟨_, _, _, rfl⟩) | skip))
   | skip
theorem e_nat_Make {k : Nat} {l0 : List Int} {r : List Int × Int} (H : nat_Make.f k l0 = some r) : CP (CL F) 142 [(.lst (u l0))] = some (.tup [(.lst (u r.1)), (.int .i64 r.2)]) := by
  refine CP_X (F := F) (f := 142) rfl rfl ?_
  unfold nat_Make.f at H
  repeat' with_reducible (first | (refine none_some H; done) | (refine ite_e H ?_ ?_ <;> clear H <;> intro c H <;> (try simp only [int_beq, decide_eq_true_eq] at c) <;> first | (have : (_ : Bool) = _ := c; clear this) | (have : ¬ (_ : Bool) = _ := c; clear this) | (replace c := eq_false c; try simp only [List.length_replicate, List.length_set, List.length_nil, List.length_cons, Nat.zero_add] at c) | (replace c := eq_true c; try simp only [List.length_replicate, List.length_set, List.length_nil, List.length_cons, Nat.zero_add] at c)) | (refine bind_k (by assumption) H ?_; clear H; intro H) | (refine bind_e H ?_; clear H; intro _ q H; first | (have q' := e_nat_trim q; try simp only [u_nil, ui_nil, List.length_replicate, List.length_set, List.cons_append, List.nil_append] at q') | (replace q := Option.some.inj q; subst q) | skip))
  all_goals with_reducible (first | (replace H := Option.some.inj H; subst H) | skip)
  all_goals (try simp only [List.length_replicate, List.length_set] at H)
  all_goals (refine go2 ?_)
  all_goals (first | trivial | skip)
  all_goals first
   |
      (refine X_fuel3 (L := fun n (y : List Int × List Int × Int × Int) => nat_Make.l0 n y.1 y.2.1 y.2.2.1 y.2.2.2) (S := fun y s => ∃ j2 j3 m0 j6 j13 j17 v0 g, s = ⟨[(0, (.lst (u l0))), (2, j2), (3, j3), (4, .ref 0 v0 1 0 m0), (6, j6), (10, (.lst (u y.2.1))), (11, (.int .i64 y.2.2.1)), (12, (.int .i64 y.2.2.2)), (13, j13), (17, j17)], some ⟨v0, 1, u y.1⟩ :: g⟩ ∧ m0 = y.1.length) (fun _ => by simp only [nat_Make.l0]) _ ?_ _ (Nat.le_refl _) (_, _, _, _) _ H ⟨_, _, _, _, _, _, _, _, rfl, by simp⟩
       clear H
       rintro nl0 hnl0 ⟨x4, x10, x11, x12⟩ s H ⟨j2, j3, m0, j6, j13, j17, v0, g, rfl, rfl⟩ recl0
       simp only [nat_Make.l0] at H
       repeat' with_reducible (first | (refine none_some H; done) | (refine ite_e H ?_ ?_ <;> clear H <;> intro c H <;> (try simp only [int_beq, decide_eq_true_eq] at c) <;> first | (have : (_ : Bool) = _ := c; clear this) | (have : ¬ (_ : Bool) = _ := c; clear this) | (replace c := eq_false c; try simp only [List.length_replicate, List.length_set, List.length_nil, List.length_cons, Nat.zero_add] at c) | (replace c := eq_true c; try simp only [List.length_replicate, List.length_set, List.length_nil, List.length_cons, Nat.zero_add] at c)) | (refine bind_k (by assumption) H ?_; clear H; intro H) | (refine bind_e H ?_; clear H; intro _ q H; first | (have q' := e_nat_trim q; try simp only [u_nil, ui_nil, List.length_replicate, List.length_set, List.cons_append, List.nil_append] at q') | (replace q := Option.some.inj q; subst q) | skip))
       all_goals with_reducible (first | (replace H := Option.some.inj H; subst H) | skip)
       all_goals (try simp only [List.length_replicate, List.length_set] at H)
       all_goals (refine go2 ?_)
       all_goals (first | (trivial) | (exact recl0 _ (by omega) (_, _, _, _) _ H ⟨_, _, _, _, _, _, _, _, rfl, by simp⟩) | skip))
   | skip
theorem e_whole_Made {k : Nat} {a0 : Bool} {l1 : List Int} {r : Bool × List Int} (H : whole_Made.f k a0 l1 = some r) : CP (CL F) 96 [(.bool a0), (.lst (u l1))] = some (.agg [(.bool r.1), (.lst (u r.2))]) := by
  refine CP_X (F := F) (f := 96) rfl rfl ?_
  unfold whole_Made.f at H
  repeat' with_reducible (first | (refine none_some H; done) | (refine ite_e H ?_ ?_ <;> clear H <;> intro c H <;> (try simp only [int_beq, decide_eq_true_eq] at c) <;> first | (have : (_ : Bool) = _ := c; clear this) | (have : ¬ (_ : Bool) = _ := c; clear this) | (replace c := eq_false c; try simp only [List.length_replicate, List.length_set, List.length_nil, List.length_cons, Nat.zero_add] at c) | (replace c := eq_true c; try simp only [List.length_replicate, List.length_set, List.length_nil, List.length_cons, Nat.zero_add] at c)) | (refine bind_k (by assumption) H ?_; clear H; intro H) | (refine bind_e H ?_; clear H; intro _ q H; first | (have q' := e_nat_Make q; try simp only [u_nil, ui_nil, List.length_replicate, List.length_set, List.cons_append, List.nil_append] at q') | (replace q := Option.some.inj q; subst q) | skip))
  all_goals with_reducible (first | (replace H := Option.some.inj H; subst H) | skip)
  all_goals (try simp only [List.length_replicate, List.length_set] at H)
  all_goals (refine go2 ?_)
  all_goals (first | trivial | skip)
theorem e_limb_Add {a0 : Int} {a1 : Int} {a2 : Int} {r : Int × Int} (H : limb_Add.f a0 a1 a2 = some r) : CP (CL F) 149 [(.int .u64 a0), (.int .u64 a1), (.int .u64 a2)] = some (.tup [(.int .u64 r.1), (.int .u64 r.2)]) := by
  refine CP_X (F := F) (f := 149) rfl rfl ?_
  unfold limb_Add.f at H
  repeat' with_reducible (first | (refine none_some H; done) | (refine ite_e H ?_ ?_ <;> clear H <;> intro c H <;> (try simp only [int_beq, decide_eq_true_eq] at c) <;> first | (have : (_ : Bool) = _ := c; clear this) | (have : ¬ (_ : Bool) = _ := c; clear this) | (replace c := eq_false c; try simp only [List.length_replicate, List.length_set, List.length_nil, List.length_cons, Nat.zero_add] at c) | (replace c := eq_true c; try simp only [List.length_replicate, List.length_set, List.length_nil, List.length_cons, Nat.zero_add] at c)) | (refine bind_k (by assumption) H ?_; clear H; intro H) | (refine bind_e H ?_; clear H; intro _ q H; first | (replace q := Option.some.inj q; subst q) | skip))
  all_goals with_reducible (first | (replace H := Option.some.inj H; subst H) | skip)
  all_goals (try simp only [List.length_replicate, List.length_set] at H)
  all_goals (refine go2 ?_)
  all_goals (first | trivial | skip)
theorem e_nat_at {l0 : List Int} {a1 : Int} {r : Int} (H : nat_at.f l0 a1 = some r) : CP (CL F) 150 [(.lst (u l0)), (.int .i64 a1)] = some (.int .u64 r) := by
  refine CP_X (F := F) (f := 150) rfl rfl ?_
  unfold nat_at.f at H
  repeat' with_reducible (first | (refine none_some H; done) | (refine ite_e H ?_ ?_ <;> clear H <;> intro c H <;> (try simp only [int_beq, decide_eq_true_eq] at c) <;> first | (have : (_ : Bool) = _ := c; clear this) | (have : ¬ (_ : Bool) = _ := c; clear this) | (replace c := eq_false c; try simp only [List.length_replicate, List.length_set, List.length_nil, List.length_cons, Nat.zero_add] at c) | (replace c := eq_true c; try simp only [List.length_replicate, List.length_set, List.length_nil, List.length_cons, Nat.zero_add] at c)) | (refine bind_k (by assumption) H ?_; clear H; intro H) | (refine bind_e H ?_; clear H; intro _ q H; first | (replace q := Option.some.inj q; subst q) | skip))
  all_goals with_reducible (first | (replace H := Option.some.inj H; subst H) | skip)
  all_goals (try simp only [List.length_replicate, List.length_set] at H)
  all_goals (refine go2 ?_)
  all_goals (first | trivial | skip)
theorem e_nat_Add {k : Nat} {l0 : List Int} {l1 : List Int} {r : List Int} (H : nat_Add.f k l0 l1 = some r) : CP (CL F) 121 [(.lst (u l0)), (.lst (u l1))] = some (.lst (u r)) := by
  refine CP_X (F := F) (f := 121) rfl rfl ?_
  unfold nat_Add.f at H
  repeat' with_reducible (first | (refine none_some H; done) | (refine ite_e H ?_ ?_ <;> clear H <;> intro c H <;> (try simp only [int_beq, decide_eq_true_eq] at c) <;> first | (have : (_ : Bool) = _ := c; clear this) | (have : ¬ (_ : Bool) = _ := c; clear this) | (replace c := eq_false c; try simp only [List.length_replicate, List.length_set, List.length_nil, List.length_cons, Nat.zero_add] at c) | (replace c := eq_true c; try simp only [List.length_replicate, List.length_set, List.length_nil, List.length_cons, Nat.zero_add] at c)) | (refine bind_k (by assumption) H ?_; clear H; intro H) | (refine bind_e H ?_; clear H; intro _ q H; first | (have q' := e_limb_Add q; try simp only [u_nil, ui_nil, List.length_replicate, List.length_set, List.cons_append, List.nil_append] at q') | (have q' := e_nat_at q; try simp only [u_nil, ui_nil, List.length_replicate, List.length_set, List.cons_append, List.nil_append] at q') | (have q' := e_nat_trim q; try simp only [u_nil, ui_nil, List.length_replicate, List.length_set, List.cons_append, List.nil_append] at q') | (replace q := Option.some.inj q; subst q) | skip))
  all_goals with_reducible (first | (replace H := Option.some.inj H; subst H) | skip)
  all_goals (try simp only [List.length_replicate, List.length_set] at H)
  all_goals (refine go2 ?_)
  all_goals (first | trivial | skip)
  all_goals first
   |
      (refine X_fuel3 (L := fun n (y : List Int × List Int × Int × List Int × Int × Int × Int) => nat_Add.l0 n y.1 y.2.1 y.2.2.1 y.2.2.2.1 y.2.2.2.2.1 y.2.2.2.2.2.1 y.2.2.2.2.2.2) (S := fun y s => ∃ j4 m0 j8 j19 v0 g, s = ⟨[(0, (.lst (u y.1))), (1, (.lst (u y.2.1))), (4, j4), (5, (.int .i64 y.2.2.1)), (6, .ref 0 v0 1 0 m0), (7, (.int .u64 y.2.2.2.2.1)), (8, j8), (17, (.int .i64 y.2.2.2.2.2.1)), (18, (.int .i64 y.2.2.2.2.2.2)), (19, j19)], some ⟨v0, 1, u y.2.2.2.1⟩ :: g⟩ ∧ m0 = y.2.2.2.1.length) (fun _ => by simp only [nat_Add.l0]) _ ?_ _ (Nat.le_refl _) (_, _, _, _, _, _, _) _ H ⟨_, _, _, _, _, _, rfl, by simp⟩
       clear H
       rintro nl0 hnl0 ⟨x0, x1, x5, x6, x7, x17, x18⟩ s H ⟨j4, m0, j8, j19, v0, g, rfl, rfl⟩ recl0
       simp only [nat_Add.l0] at H
       repeat' with_reducible (first | (refine none_some H; done) | (refine ite_e H ?_ ?_ <;> clear H <;> intro c H <;> (try simp only [int_beq, decide_eq_true_eq] at c) <;> first | (have : (_ : Bool) = _ := c; clear this) | (have : ¬ (_ : Bool) = _ := c; clear this) | (replace c := eq_false c; try simp only [List.length_replicate, List.length_set, List.length_nil, List.length_cons, Nat.zero_add] at c) | (replace c := eq_true c; try simp only [List.length_replicate, List.length_set, List.length_nil, List.length_cons, Nat.zero_add] at c)) | (refine bind_k (by assumption) H ?_; clear H; intro H) | (refine bind_e H ?_; clear H; intro _ q H; first | (have q' := e_limb_Add q; try simp only [u_nil, ui_nil, List.length_replicate, List.length_set, List.cons_append, List.nil_append] at q') | (have q' := e_nat_at q; try simp only [u_nil, ui_nil, List.length_replicate, List.length_set, List.cons_append, List.nil_append] at q') | (have q' := e_nat_trim q; try simp only [u_nil, ui_nil, List.length_replicate, List.length_set, List.cons_append, List.nil_append] at q') | (replace q := Option.some.inj q; subst q) | skip))
       all_goals with_reducible (first | (replace H := Option.some.inj H; subst H) | skip)
       all_goals (try simp only [List.length_replicate, List.length_set] at H)
       all_goals (refine go2 ?_)
       all_goals (first | (trivial) | (exact recl0 _ (by omega) (_, _, _, _, _, _, _) _ H ⟨_, _, _, _, _, _, rfl, by simp⟩) | skip))
   | skip
theorem e_nat_Of {k : Nat} {a0 : Int} {r : List Int} (H : nat_Of.f k a0 = some r) : CP (CL F) 93 [(.int .u64 a0)] = some (.lst (u r)) := by
  refine CP_X (F := F) (f := 93) rfl rfl ?_
  unfold nat_Of.f at H
  repeat' with_reducible (first | (refine none_some H; done) | (refine ite_e H ?_ ?_ <;> clear H <;> intro c H <;> (try simp only [int_beq, decide_eq_true_eq] at c) <;> first | (have : (_ : Bool) = _ := c; clear this) | (have : ¬ (_ : Bool) = _ := c; clear this) | (replace c := eq_false c; try simp only [List.length_replicate, List.length_set, List.length_nil, List.length_cons, Nat.zero_add] at c) | (replace c := eq_true c; try simp only [List.length_replicate, List.length_set, List.length_nil, List.length_cons, Nat.zero_add] at c)) | (refine bind_k (by assumption) H ?_; clear H; intro H) | (refine bind_e H ?_; clear H; intro _ q H; first | (have q' := e_nat_trim q; try simp only [u_nil, ui_nil, List.length_replicate, List.length_set, List.cons_append, List.nil_append] at q') | (replace q := Option.some.inj q; subst q) | skip))
  all_goals with_reducible (first | (replace H := Option.some.inj H; subst H) | skip)
  all_goals (try simp only [List.length_replicate, List.length_set] at H)
  all_goals (refine go2 ?_)
  all_goals (first | trivial | skip)
theorem e_triviumref02_Trim {k : Nat} {l0 : List Int} {r : List Int} (H : triviumref02_Trim.f k l0 = some r) : CP (CL F) 144 [(.lst (ui l0))] = some (.lst (ui r)) := by
  refine CP_X (F := F) (f := 144) rfl rfl ?_
  unfold triviumref02_Trim.f at H
  repeat' with_reducible (first | (refine none_some H; done) | (refine ite_e H ?_ ?_ <;> clear H <;> intro c H <;> (try simp only [int_beq, decide_eq_true_eq] at c) <;> first | (have : (_ : Bool) = _ := c; clear this) | (have : ¬ (_ : Bool) = _ := c; clear this) | (replace c := eq_false c; try simp only [List.length_replicate, List.length_set, List.length_nil, List.length_cons, Nat.zero_add] at c) | (replace c := eq_true c; try simp only [List.length_replicate, List.length_set, List.length_nil, List.length_cons, Nat.zero_add] at c)) | (refine bind_k (by assumption) H ?_; clear H; intro H) | (refine bind_e H ?_; clear H; intro _ q H; first | (replace q := Option.some.inj q; subst q) | skip))
  all_goals with_reducible (first | (replace H := Option.some.inj H; subst H) | skip)
  all_goals (try simp only [List.length_replicate, List.length_set] at H)
  all_goals (refine go2 ?_)
  all_goals (first | trivial | skip)
  all_goals first
   |
      (refine X_fuel3 (L := fun n (y : List Int × Int) => triviumref02_Trim.l0 n y.1 y.2) (S := fun y s => ∃ j2 j15 g, s = ⟨[(0, (.lst (ui y.1))), (2, j2), (3, (.int .i64 y.2)), (15, j15)], g⟩) (fun _ => by simp only [triviumref02_Trim.l0]) _ ?_ _ (Nat.le_refl _) (_, _) _ H ⟨_, _, _, rfl⟩
       clear H
       rintro nl0 hnl0 ⟨x0, x3⟩ s H ⟨j2, j15, g, rfl⟩ recl0
       simp only [triviumref02_Trim.l0] at H
       repeat' with_reducible (first | (refine none_some H; done) | (refine ite_e H ?_ ?_ <;> clear H <;> intro c H <;> (try simp only [int_beq, decide_eq_true_eq] at c) <;> first | (have : (_ : Bool) = _ := c; clear this) | (have : ¬ (_ : Bool) = _ := c; clear this) | (replace c := eq_false c; try simp only [List.length_replicate, List.length_set, List.length_nil, List.length_cons, Nat.zero_add] at c) | (replace c := eq_true c; try simp only [List.length_replicate, List.length_set, List.length_nil, List.length_cons, Nat.zero_add] at c)) | (refine bind_k (by assumption) H ?_; clear H; intro H) | (refine bind_e H ?_; clear H; intro _ q H; first | (replace q := Option.some.inj q; subst q) | skip))
       all_goals with_reducible (first | (replace H := Option.some.inj H; subst H) | skip)
       all_goals (try simp only [List.length_replicate, List.length_set] at H)
       all_goals (refine go2 ?_)
       all_goals (first | (trivial) | (exact recl0 _ (by omega) (_, _) _ H ⟨_, _, _, rfl⟩) | skip))
   | skip
theorem e_triviumref02_MulAdd {k : Nat} {l0 : List Int} {a1 : Int} {a2 : Int} {r : List Int} (H : triviumref02_MulAdd.f k l0 a1 a2 = some r) : CP (CL F) 102 [(.lst (ui l0)), (.int .i64 a1), (.int .i64 a2)] = some (.lst (ui r)) := by
  refine CP_X (F := F) (f := 102) rfl rfl ?_
  unfold triviumref02_MulAdd.f at H
  repeat' with_reducible (first | (refine none_some H; done) | (refine ite_e H ?_ ?_ <;> clear H <;> intro c H <;> (try simp only [int_beq, decide_eq_true_eq] at c) <;> first | (have : (_ : Bool) = _ := c; clear this) | (have : ¬ (_ : Bool) = _ := c; clear this) | (replace c := eq_false c; try simp only [List.length_replicate, List.length_set, List.length_nil, List.length_cons, Nat.zero_add] at c) | (replace c := eq_true c; try simp only [List.length_replicate, List.length_set, List.length_nil, List.length_cons, Nat.zero_add] at c)) | (refine bind_k (by assumption) H ?_; clear H; intro H) | (refine bind_e H ?_; clear H; intro _ q H; first | (have q' := e_triviumref02_Trim q; try simp only [u_nil, ui_nil, List.length_replicate, List.length_set, List.cons_append, List.nil_append] at q') | (replace q := Option.some.inj q; subst q) | skip))
  all_goals with_reducible (first | (replace H := Option.some.inj H; subst H) | skip)
  all_goals (try simp only [List.length_replicate, List.length_set] at H)
  all_goals (refine go2 ?_)
  all_goals (first | trivial | skip)
  all_goals first
   |
      (refine X_fuel3 (L := fun n (y : List Int × Int × Int × List Int × Int) => triviumref02_MulAdd.l0 n y.1 y.2.1 y.2.2.1 y.2.2.2.1 y.2.2.2.2) (S := fun y s => ∃ j6 m0 j13 j32 v0 g, s = ⟨[(0, (.lst (ui y.1))), (1, (.int .i64 y.2.1)), (2, (.int .i64 y.2.2.1)), (6, j6), (7, .ref 0 v0 1 0 m0), (8, (.int .i64 y.2.2.2.2)), (13, j13), (32, j32)], some ⟨v0, 1, ui y.2.2.2.1⟩ :: g⟩ ∧ m0 = y.2.2.2.1.length) (fun _ => by simp only [triviumref02_MulAdd.l0]) _ ?_ _ (Nat.le_refl _) (_, _, _, _, _) _ H ⟨_, _, _, _, _, _, rfl, by simp⟩
       clear H
       rintro nl0 hnl0 ⟨x0, x1, x2, x7, x8⟩ s H ⟨j6, m0, j13, j32, v0, g, rfl, rfl⟩ recl0
       simp only [triviumref02_MulAdd.l0] at H
       repeat' with_reducible (first | (refine none_some H; done) | (refine ite_e H ?_ ?_ <;> clear H <;> intro c H <;> (try simp only [int_beq, decide_eq_true_eq] at c) <;> first | (have : (_ : Bool) = _ := c; clear this) | (have : ¬ (_ : Bool) = _ := c; clear this) | (replace c := eq_false c; try simp only [List.length_replicate, List.length_set, List.length_nil, List.length_cons, Nat.zero_add] at c) | (replace c := eq_true c; try simp only [List.length_replicate, List.length_set, List.length_nil, List.length_cons, Nat.zero_add] at c)) | (refine bind_k (by assumption) H ?_; clear H; intro H) | (refine bind_e H ?_; clear H; intro _ q H; first | (have q' := e_triviumref02_Trim q; try simp only [u_nil, ui_nil, List.length_replicate, List.length_set, List.cons_append, List.nil_append] at q') | (replace q := Option.some.inj q; subst q) | skip))
       all_goals with_reducible (first | (replace H := Option.some.inj H; subst H) | skip)
       all_goals (try simp only [List.length_replicate, List.length_set] at H)
       all_goals (refine go2 ?_)
       all_goals (first | (trivial) | (exact recl0 _ (by omega) (_, _, _, _, _) _ H ⟨_, _, _, _, _, _, rfl, by simp⟩) | skip)
       all_goals first
        |
          (refine X_fuel3 (L := fun n (y : Int × List Int) => triviumref02_MulAdd.l1 n y.1 y.2) (S := fun y s => ∃ j0 j1 j6 m0 j8 j13 j32 v0 g, s = ⟨[(0, j0), (1, j1), (2, (.int .i64 y.1)), (6, j6), (7, .ref 0 v0 1 0 m0), (8, j8), (13, j13), (32, j32)], some ⟨v0, 1, ui y.2⟩ :: g⟩ ∧ m0 = y.2.length) (fun _ => by simp only [triviumref02_MulAdd.l1]) _ ?_ _ (Nat.le_refl _) (_, _) _ H ⟨_, _, _, _, _, _, _, _, _, rfl, by simp⟩
           clear H
           rintro nl1 hnl1 ⟨x2, x7⟩ s H ⟨j0, j1, j6, m0, j8, j13, j32, v0, g, rfl, rfl⟩ recl1
           simp only [triviumref02_MulAdd.l1] at H
           repeat' with_reducible (first | (refine none_some H; done) | (refine ite_e H ?_ ?_ <;> clear H <;> intro c H <;> (try simp only [int_beq, decide_eq_true_eq] at c) <;> first | (have : (_ : Bool) = _ := c; clear this) | (have : ¬ (_ : Bool) = _ := c; clear this) | (replace c := eq_false c; try simp only [List.length_replicate, List.length_set, List.length_nil, List.length_cons, Nat.zero_add] at c) | (replace c := eq_true c; try simp only [List.length_replicate, List.length_set, List.length_nil, List.length_cons, Nat.zero_add] at c)) | (refine bind_k (by assumption) H ?_; clear H; intro H) | (refine bind_e H ?_; clear H; intro _ q H; first | (have q' := e_triviumref02_Trim q; try simp only [u_nil, ui_nil, List.length_replicate, List.length_set, List.cons_append, List.nil_append] at q') | (replace q := Option.some.inj q; subst q) | skip))
           all_goals with_reducible (first | (replace H := Option.some.inj H; subst H) | skip)
           all_goals (try simp only [List.length_replicate, List.length_set] at H)
           all_goals (refine go2 ?_)
           all_goals (first | (trivial) | (exact recl1 _ (by omega) (_, _) _ H ⟨_, _, _, _, _, _, _, _, _, rfl, by simp⟩) | skip)))
   | skip
theorem e_triviumref02_Of {k : Nat} {l0 : List Int} {r : List Int} (H : triviumref02_Of.f k l0 = some r) : CP (CL F) 138 [(.lst (u l0))] = some (.lst (ui r)) := by
  refine CP_X (F := F) (f := 138) rfl rfl ?_
  unfold triviumref02_Of.f at H
  repeat' with_reducible (first | (refine none_some H; done) | (refine ite_e H ?_ ?_ <;> clear H <;> intro c H <;> (try simp only [int_beq, decide_eq_true_eq] at c) <;> first | (have : (_ : Bool) = _ := c; clear this) | (have : ¬ (_ : Bool) = _ := c; clear this) | (replace c := eq_false c; try simp only [List.length_replicate, List.length_set, List.length_nil, List.length_cons, Nat.zero_add] at c) | (replace c := eq_true c; try simp only [List.length_replicate, List.length_set, List.length_nil, List.length_cons, Nat.zero_add] at c)) | (refine bind_k (by assumption) H ?_; clear H; intro H) | (refine bind_e H ?_; clear H; intro _ q H; first | (have q' := e_triviumref02_MulAdd q; try simp only [u_nil, ui_nil, List.length_replicate, List.length_set, List.cons_append, List.nil_append] at q') | (replace q := Option.some.inj q; subst q) | skip))
  all_goals with_reducible (first | (replace H := Option.some.inj H; subst H) | skip)
  all_goals (try simp only [List.length_replicate, List.length_set] at H)
  all_goals (refine go2 ?_)
  all_goals (first | trivial | skip)
  all_goals first
   |
      (refine X_fuel3 (L := fun n (y : List Int × List Int × Int) => triviumref02_Of.l0 n y.1 y.2.1 y.2.2) (S := fun y s => ∃ j2 j10 g, s = ⟨[(0, (.lst (u y.1))), (2, j2), (3, (.lst (ui y.2.1))), (4, (.int .i64 y.2.2)), (10, j10)], g⟩) (fun _ => by simp only [triviumref02_Of.l0]) _ ?_ _ (Nat.le_refl _) (_, _, _) _ H ⟨_, _, _, rfl⟩
       clear H
       rintro nl0 hnl0 ⟨x0, x3, x4⟩ s H ⟨j2, j10, g, rfl⟩ recl0
       simp only [triviumref02_Of.l0] at H
       repeat' with_reducible (first | (refine none_some H; done) | (refine ite_e H ?_ ?_ <;> clear H <;> intro c H <;> (try simp only [int_beq, decide_eq_true_eq] at c) <;> first | (have : (_ : Bool) = _ := c; clear this) | (have : ¬ (_ : Bool) = _ := c; clear this) | (replace c := eq_false c; try simp only [List.length_replicate, List.length_set, List.length_nil, List.length_cons, Nat.zero_add] at c) | (replace c := eq_true c; try simp only [List.length_replicate, List.length_set, List.length_nil, List.length_cons, Nat.zero_add] at c)) | (refine bind_k (by assumption) H ?_; clear H; intro H) | (refine bind_e H ?_; clear H; intro _ q H; first | (have q' := e_triviumref02_MulAdd q; try simp only [u_nil, ui_nil, List.length_replicate, List.length_set, List.cons_append, List.nil_append] at q') | (replace q := Option.some.inj q; subst q) | skip))
       all_goals with_reducible (first | (replace H := Option.some.inj H; subst H) | skip)
       all_goals (try simp only [List.length_replicate, List.length_set] at H)
       all_goals (refine go2 ?_)
       all_goals (first | (trivial) | (exact recl0 _ (by omega) (_, _, _) _ H ⟨_, _, _, rfl⟩) | skip))
   | skip
theorem e_limb_Sub {a0 : Int} {a1 : Int} {a2 : Int} {r : Int × Int} (H : limb_Sub.f a0 a1 a2 = some r) : CP (CL F) 179 [(.int .u64 a0), (.int .u64 a1), (.int .u64 a2)] = some (.tup [(.int .u64 r.1), (.int .u64 r.2)]) := by
  refine CP_X (F := F) (f := 179) rfl rfl ?_
  unfold limb_Sub.f at H
  repeat' with_reducible (first | (refine none_some H; done) | (refine ite_e H ?_ ?_ <;> clear H <;> intro c H <;> (try simp only [int_beq, decide_eq_true_eq] at c) <;> first | (have : (_ : Bool) = _ := c; clear this) | (have : ¬ (_ : Bool) = _ := c; clear this) | (replace c := eq_false c; try simp only [List.length_replicate, List.length_set, List.length_nil, List.length_cons, Nat.zero_add] at c) | (replace c := eq_true c; try simp only [List.length_replicate, List.length_set, List.length_nil, List.length_cons, Nat.zero_add] at c)) | (refine bind_k (by assumption) H ?_; clear H; intro H) | (refine bind_e H ?_; clear H; intro _ q H; first | (replace q := Option.some.inj q; subst q) | skip))
  all_goals with_reducible (first | (replace H := Option.some.inj H; subst H) | skip)
  all_goals (try simp only [List.length_replicate, List.length_set] at H)
  all_goals (refine go2 ?_)
  all_goals (first | trivial | skip)
theorem e_nat_Sub {k : Nat} {l0 : List Int} {l1 : List Int} {r : List Int × Int} (H : nat_Sub.f k l0 l1 = some r) : CP (CL F) 164 [(.lst (u l0)), (.lst (u l1))] = some (.tup [(.lst (u r.1)), (.int .i64 r.2)]) := by
  refine CP_X (F := F) (f := 164) rfl rfl ?_
  unfold nat_Sub.f at H
  repeat' with_reducible (first | (refine none_some H; done) | (refine ite_e H ?_ ?_ <;> clear H <;> intro c H <;> (try simp only [int_beq, decide_eq_true_eq] at c) <;> first | (have : (_ : Bool) = _ := c; clear this) | (have : ¬ (_ : Bool) = _ := c; clear this) | (replace c := eq_false c; try simp only [List.length_replicate, List.length_set, List.length_nil, List.length_cons, Nat.zero_add] at c) | (replace c := eq_true c; try simp only [List.length_replicate, List.length_set, List.length_nil, List.length_cons, Nat.zero_add] at c)) | (refine bind_k (by assumption) H ?_; clear H; intro H) | (refine bind_e H ?_; clear H; intro _ q H; first | (have q' := e_limb_Sub q; try simp only [u_nil, ui_nil, List.length_replicate, List.length_set, List.cons_append, List.nil_append] at q') | (have q' := e_nat_Cmp q; try simp only [u_nil, ui_nil, List.length_replicate, List.length_set, List.cons_append, List.nil_append] at q') | (have q' := e_nat_at q; try simp only [u_nil, ui_nil, List.length_replicate, List.length_set, List.cons_append, List.nil_append] at q') | (have q' := e_nat_trim q; try simp only [u_nil, ui_nil, List.length_replicate, List.length_set, List.cons_append, List.nil_append] at q') | (replace q := Option.some.inj q; subst q) | skip))
  all_goals with_reducible (first | (replace H := Option.some.inj H; subst H) | skip)
  all_goals (try simp only [List.length_replicate, List.length_set] at H)
  all_goals (refine go2 ?_)
  all_goals (first | trivial | skip)
  all_goals first
   |
      (refine X_fuel3 (L := fun n (y : List Int × List Int × List Int × Int × Int × Int) => nat_Sub.l0 n y.1 y.2.1 y.2.2.1 y.2.2.2.1 y.2.2.2.2.1 y.2.2.2.2.2) (S := fun y s => ∃ j4 j5 m0 j8 j12 j19 v0 g, s = ⟨[(0, (.lst (u y.1))), (1, (.lst (u y.2.1))), (4, j4), (5, j5), (6, .ref 0 v0 1 0 m0), (7, (.int .u64 y.2.2.2.1)), (8, j8), (12, j12), (17, (.int .i64 y.2.2.2.2.1)), (18, (.int .i64 y.2.2.2.2.2)), (19, j19)], some ⟨v0, 1, u y.2.2.1⟩ :: g⟩ ∧ m0 = y.2.2.1.length) (fun _ => by simp only [nat_Sub.l0]) _ ?_ _ (Nat.le_refl _) (_, _, _, _, _, _) _ H ⟨_, _, _, _, _, _, _, _, rfl, by simp⟩
       clear H
       rintro nl0 hnl0 ⟨x0, x1, x6, x7, x17, x18⟩ s H ⟨j4, j5, m0, j8, j12, j19, v0, g, rfl, rfl⟩ recl0
       simp only [nat_Sub.l0] at H
       repeat' with_reducible (first | (refine none_some H; done) | (refine ite_e H ?_ ?_ <;> clear H <;> intro c H <;> (try simp only [int_beq, decide_eq_true_eq] at c) <;> first | (have : (_ : Bool) = _ := c; clear this) | (have : ¬ (_ : Bool) = _ := c; clear this) | (replace c := eq_false c; try simp only [List.length_replicate, List.length_set, List.length_nil, List.length_cons, Nat.zero_add] at c) | (replace c := eq_true c; try simp only [List.length_replicate, List.length_set, List.length_nil, List.length_cons, Nat.zero_add] at c)) | (refine bind_k (by assumption) H ?_; clear H; intro H) | (refine bind_e H ?_; clear H; intro _ q H; first | (have q' := e_limb_Sub q; try simp only [u_nil, ui_nil, List.length_replicate, List.length_set, List.cons_append, List.nil_append] at q') | (have q' := e_nat_Cmp q; try simp only [u_nil, ui_nil, List.length_replicate, List.length_set, List.cons_append, List.nil_append] at q') | (have q' := e_nat_at q; try simp only [u_nil, ui_nil, List.length_replicate, List.length_set, List.cons_append, List.nil_append] at q') | (have q' := e_nat_trim q; try simp only [u_nil, ui_nil, List.length_replicate, List.length_set, List.cons_append, List.nil_append] at q') | (replace q := Option.some.inj q; subst q) | skip))
       all_goals with_reducible (first | (replace H := Option.some.inj H; subst H) | skip)
       all_goals (try simp only [List.length_replicate, List.length_set] at H)
       all_goals (refine go2 ?_)
       all_goals (first | (trivial) | (exact recl0 _ (by omega) (_, _, _, _, _, _) _ H ⟨_, _, _, _, _, _, _, _, rfl, by simp⟩) | skip))
   | skip
theorem e_limb_Mul {a0 : Int} {a1 : Int} {a2 : Int} {a3 : Int} {r : Int × Int} (H : limb_Mul.f a0 a1 a2 a3 = some r) : CP (CL F) 177 [(.int .u64 a0), (.int .u64 a1), (.int .u64 a2), (.int .u64 a3)] = some (.tup [(.int .u64 r.1), (.int .u64 r.2)]) := by
  refine CP_X (F := F) (f := 177) rfl rfl ?_
  unfold limb_Mul.f at H
  repeat' with_reducible (first | (refine none_some H; done) | (refine ite_e H ?_ ?_ <;> clear H <;> intro c H <;> (try simp only [int_beq, decide_eq_true_eq] at c) <;> first | (have : (_ : Bool) = _ := c; clear this) | (have : ¬ (_ : Bool) = _ := c; clear this) | (replace c := eq_false c; try simp only [List.length_replicate, List.length_set, List.length_nil, List.length_cons, Nat.zero_add] at c) | (replace c := eq_true c; try simp only [List.length_replicate, List.length_set, List.length_nil, List.length_cons, Nat.zero_add] at c)) | (refine bind_k (by assumption) H ?_; clear H; intro H) | (refine bind_e H ?_; clear H; intro _ q H; first | (replace q := Option.some.inj q; subst q) | skip))
  all_goals with_reducible (first | (replace H := Option.some.inj H; subst H) | skip)
  all_goals (try simp only [List.length_replicate, List.length_set] at H)
  all_goals (refine go2 ?_)
  all_goals (first | trivial | skip)
theorem e_mul_made {k : Nat} {l0 : List Int} {r : List Int} (H : mul_made.f k l0 = some r) : CP (CL F) 178 [(.lst (u l0))] = some (.lst (u r)) := by
  refine CP_X (F := F) (f := 178) rfl rfl ?_
  unfold mul_made.f at H
  repeat' with_reducible (first | (refine none_some H; done) | (refine ite_e H ?_ ?_ <;> clear H <;> intro c H <;> (try simp only [int_beq, decide_eq_true_eq] at c) <;> first | (have : (_ : Bool) = _ := c; clear this) | (have : ¬ (_ : Bool) = _ := c; clear this) | (replace c := eq_false c; try simp only [List.length_replicate, List.length_set, List.length_nil, List.length_cons, Nat.zero_add] at c) | (replace c := eq_true c; try simp only [List.length_replicate, List.length_set, List.length_nil, List.length_cons, Nat.zero_add] at c)) | (refine bind_k (by assumption) H ?_; clear H; intro H) | (refine bind_e H ?_; clear H; intro _ q H; first | (have q' := e_nat_Make q; try simp only [u_nil, ui_nil, List.length_replicate, List.length_set, List.cons_append, List.nil_append] at q') | (replace q := Option.some.inj q; subst q) | skip))
  all_goals with_reducible (first | (replace H := Option.some.inj H; subst H) | skip)
  all_goals (try simp only [List.length_replicate, List.length_set] at H)
  all_goals (refine go2 ?_)
  all_goals (first | trivial | skip)
theorem e_mul_Long {k : Nat} {l0 : List Int} {l1 : List Int} {r : List Int} (H : mul_Long.f k l0 l1 = some r) : CP (CL F) 162 [(.lst (u l0)), (.lst (u l1))] = some (.lst (u r)) := by
  refine CP_X (F := F) (f := 162) rfl rfl ?_
  unfold mul_Long.f at H
  repeat' with_reducible (first | (refine none_some H; done) | (refine ite_e H ?_ ?_ <;> clear H <;> intro c H <;> (try simp only [int_beq, decide_eq_true_eq] at c) <;> first | (have : (_ : Bool) = _ := c; clear this) | (have : ¬ (_ : Bool) = _ := c; clear this) | (replace c := eq_false c; try simp only [List.length_replicate, List.length_set, List.length_nil, List.length_cons, Nat.zero_add] at c) | (replace c := eq_true c; try simp only [List.length_replicate, List.length_set, List.length_nil, List.length_cons, Nat.zero_add] at c)) | (refine bind_k (by assumption) H ?_; clear H; intro H) | (refine bind_e H ?_; clear H; intro _ q H; first | (have q' := e_limb_Mul q; try simp only [u_nil, ui_nil, List.length_replicate, List.length_set, List.cons_append, List.nil_append] at q') | (have q' := e_mul_made q; try simp only [u_nil, ui_nil, List.length_replicate, List.length_set, List.cons_append, List.nil_append] at q') | (replace q := Option.some.inj q; subst q) | skip))
  all_goals with_reducible (first | (replace H := Option.some.inj H; subst H) | skip)
  all_goals (try simp only [List.length_replicate, List.length_set] at H)
  all_goals (refine go2 ?_)
  all_goals (first | trivial | skip)
  all_goals first
   |
      (refine X_fuel3 (L := fun n (y : List Int × List Int × List Int × Int × Int) => mul_Long.l0 n y.1 y.2.1 y.2.2.1 y.2.2.2.1 y.2.2.2.2) (S := fun y s => ∃ j4 m0 j6 j7 j8 j9 j10 j20 j24 j25 j26 j27 v0 g, s = ⟨[(0, (.lst (u l0))), (1, (.lst (u y.1))), (4, j4), (5, .ref 0 v0 1 0 m0), (6, j6), (7, j7), (8, j8), (9, j9), (10, j10), (17, (.lst (u y.2.2.1))), (18, (.int .i64 y.2.2.2.1)), (19, (.int .i64 y.2.2.2.2)), (20, j20), (24, j24), (25, j25), (26, j26), (27, j27)], some ⟨v0, 1, u y.2.1⟩ :: g⟩ ∧ m0 = y.2.1.length) (fun _ => by simp only [mul_Long.l0]) _ ?_ _ (Nat.le_refl _) (_, _, _, _, _) _ H ⟨_, _, _, _, _, _, _, _, _, _, _, _, _, _, rfl, by simp⟩
       clear H
       rintro nl0 hnl0 ⟨x1, x5, x17, x18, x19⟩ s H ⟨j4, m0, j6, j7, j8, j9, j10, j20, j24, j25, j26, j27, v0, g, rfl, rfl⟩ recl0
       simp only [mul_Long.l0] at H
       repeat' with_reducible (first | (refine none_some H; done) | (refine ite_e H ?_ ?_ <;> clear H <;> intro c H <;> (try simp only [int_beq, decide_eq_true_eq] at c) <;> first | (have : (_ : Bool) = _ := c; clear this) | (have : ¬ (_ : Bool) = _ := c; clear this) | (replace c := eq_false c; try simp only [List.length_replicate, List.length_set, List.length_nil, List.length_cons, Nat.zero_add] at c) | (replace c := eq_true c; try simp only [List.length_replicate, List.length_set, List.length_nil, List.length_cons, Nat.zero_add] at c)) | (refine bind_k (by assumption) H ?_; clear H; intro H) | (refine bind_e H ?_; clear H; intro _ q H; first | (have q' := e_limb_Mul q; try simp only [u_nil, ui_nil, List.length_replicate, List.length_set, List.cons_append, List.nil_append] at q') | (have q' := e_mul_made q; try simp only [u_nil, ui_nil, List.length_replicate, List.length_set, List.cons_append, List.nil_append] at q') | (replace q := Option.some.inj q; subst q) | skip))
       all_goals with_reducible (first | (replace H := Option.some.inj H; subst H) | skip)
       all_goals (try simp only [List.length_replicate, List.length_set] at H)
       all_goals (refine go2 ?_)
       all_goals (first | (trivial) | skip)
       all_goals first
        |
          (refine X_fuel3 (L := fun n (y : List Int × List Int × Int × Int × Int × List Int × Int × Int × List Int × Int × Int) => mul_Long.l1 n y.1 y.2.1 y.2.2.1 y.2.2.2.1 y.2.2.2.2.1 y.2.2.2.2.2.1 y.2.2.2.2.2.2.1 y.2.2.2.2.2.2.2.1 y.2.2.2.2.2.2.2.2.1 y.2.2.2.2.2.2.2.2.2.1 y.2.2.2.2.2.2.2.2.2.2) (S := fun y s => ∃ j4 m0 j9 j10 j20 j27 v0 g, s = ⟨[(0, (.lst (u l0))), (1, (.lst (u y.1))), (4, j4), (5, .ref 0 v0 1 0 m0), (6, (.int .i64 y.2.2.1)), (7, (.int .u64 y.2.2.2.1)), (8, (.int .u64 y.2.2.2.2.1)), (9, j9), (10, j10), (17, (.lst (u y.2.2.2.2.2.1))), (18, (.int .i64 y.2.2.2.2.2.2.1)), (19, (.int .i64 y.2.2.2.2.2.2.2.1)), (20, j20), (24, (.lst (u y.2.2.2.2.2.2.2.2.1))), (25, (.int .i64 y.2.2.2.2.2.2.2.2.2.1)), (26, (.int .i64 y.2.2.2.2.2.2.2.2.2.2)), (27, j27)], some ⟨v0, 1, u y.2.1⟩ :: g⟩ ∧ m0 = y.2.1.length) (fun _ => by simp only [mul_Long.l1]) _ ?_ _ (Nat.le_refl _) (_, _, _, _, _, _, _, _, _, _, _) _ H ⟨_, _, _, _, _, _, _, _, rfl, by simp⟩
           clear H
           rintro nl1 hnl1 ⟨x1, x5, x6, x7, x8, x17, x18, x19, x24, x25, x26⟩ s H ⟨j4, m0, j9, j10, j20, j27, v0, g, rfl, rfl⟩ recl1
           simp only [mul_Long.l1] at H
           repeat' with_reducible (first | (refine none_some H; done) | (refine ite_e H ?_ ?_ <;> clear H <;> intro c H <;> (try simp only [int_beq, decide_eq_true_eq] at c) <;> first | (have : (_ : Bool) = _ := c; clear this) | (have : ¬ (_ : Bool) = _ := c; clear this) | (replace c := eq_false c; try simp only [List.length_replicate, List.length_set, List.length_nil, List.length_cons, Nat.zero_add] at c) | (replace c := eq_true c; try simp only [List.length_replicate, List.length_set, List.length_nil, List.length_cons, Nat.zero_add] at c)) | (refine bind_k (by assumption) H ?_; clear H; intro H) | (refine bind_e H ?_; clear H; intro _ q H; first | (have q' := e_limb_Mul q; try simp only [u_nil, ui_nil, List.length_replicate, List.length_set, List.cons_append, List.nil_append] at q') | (have q' := e_mul_made q; try simp only [u_nil, ui_nil, List.length_replicate, List.length_set, List.cons_append, List.nil_append] at q') | (replace q := Option.some.inj q; subst q) | skip))
           all_goals with_reducible (first | (replace H := Option.some.inj H; subst H) | skip)
           all_goals (try simp only [List.length_replicate, List.length_set] at H)
           all_goals (refine go2 ?_)
           all_goals (first | (trivial) | (exact recl0 _ (by omega) (_, _, _, _, _) _ H ⟨_, _, _, _, _, _, _, _, _, _, _, _, _, _, rfl, by simp⟩) | (exact recl1 _ (by omega) (_, _, _, _, _, _, _, _, _, _, _) _ H ⟨_, _, _, _, _, _, _, _, rfl, by simp⟩) | skip)))
   | skip
theorem e_mul_cut {k : Nat} {l0 : List Int} {a1 : Int} {r : List Int × List Int} (H : mul_cut.f k l0 a1 = some r) : CP (CL F) 163 [(.lst (u l0)), (.int .i64 a1)] = some (.tup [(.lst (u r.1)), (.lst (u r.2))]) := by
  refine CP_X (F := F) (f := 163) rfl rfl ?_
  unfold mul_cut.f at H
  repeat' with_reducible (first | (refine none_some H; done) | (refine ite_e H ?_ ?_ <;> clear H <;> intro c H <;> (try simp only [int_beq, decide_eq_true_eq] at c) <;> first | (have : (_ : Bool) = _ := c; clear this) | (have : ¬ (_ : Bool) = _ := c; clear this) | (replace c := eq_false c; try simp only [List.length_replicate, List.length_set, List.length_nil, List.length_cons, Nat.zero_add] at c) | (replace c := eq_true c; try simp only [List.length_replicate, List.length_set, List.length_nil, List.length_cons, Nat.zero_add] at c)) | (refine bind_k (by assumption) H ?_; clear H; intro H) | (refine bind_e H ?_; clear H; intro _ q H; first | (have q' := e_mul_made q; try simp only [u_nil, ui_nil, List.length_replicate, List.length_set, List.cons_append, List.nil_append] at q') | (replace q := Option.some.inj q; subst q) | skip))
  all_goals with_reducible (first | (replace H := Option.some.inj H; subst H) | skip)
  all_goals (try simp only [List.length_replicate, List.length_set] at H)
  all_goals (refine go2 ?_)
  all_goals (first | trivial | skip)
theorem e_mul_up {k : Nat} {l0 : List Int} {a1 : Int} {r : List Int} (H : mul_up.f k l0 a1 = some r) : CP (CL F) 166 [(.lst (u l0)), (.int .i64 a1)] = some (.lst (u r)) := by
  refine CP_X (F := F) (f := 166) rfl rfl ?_
  unfold mul_up.f at H
  repeat' with_reducible (first | (refine none_some H; done) | (refine ite_e H ?_ ?_ <;> clear H <;> intro c H <;> (try simp only [int_beq, decide_eq_true_eq] at c) <;> first | (have : (_ : Bool) = _ := c; clear this) | (have : ¬ (_ : Bool) = _ := c; clear this) | (replace c := eq_false c; try simp only [List.length_replicate, List.length_set, List.length_nil, List.length_cons, Nat.zero_add] at c) | (replace c := eq_true c; try simp only [List.length_replicate, List.length_set, List.length_nil, List.length_cons, Nat.zero_add] at c)) | (refine bind_k (by assumption) H ?_; clear H; intro H) | (refine bind_e H ?_; clear H; intro _ q H; first | (have q' := e_mul_made q; try simp only [u_nil, ui_nil, List.length_replicate, List.length_set, List.cons_append, List.nil_append] at q') | (replace q := Option.some.inj q; subst q) | skip))
  all_goals with_reducible (first | (replace H := Option.some.inj H; subst H) | skip)
  all_goals (try simp only [List.length_replicate, List.length_set] at H)
  all_goals (refine go2 ?_)
  all_goals (first | trivial | skip)
theorem e_nat_May {k : Nat} {l0 : List Int} {r : Bool} (H : nat_May.f k l0 = some r) : CP (CL F) 159 [(.lst (u l0))] = some (.bool r) := by
  refine CP_X (F := F) (f := 159) rfl rfl ?_
  unfold nat_May.f at H
  repeat' with_reducible (first | (refine none_some H; done) | (refine ite_e H ?_ ?_ <;> clear H <;> intro c H <;> (try simp only [int_beq, decide_eq_true_eq] at c) <;> first | (have : (_ : Bool) = _ := c; clear this) | (have : ¬ (_ : Bool) = _ := c; clear this) | (replace c := eq_false c; try simp only [List.length_replicate, List.length_set, List.length_nil, List.length_cons, Nat.zero_add] at c) | (replace c := eq_true c; try simp only [List.length_replicate, List.length_set, List.length_nil, List.length_cons, Nat.zero_add] at c)) | (refine bind_k (by assumption) H ?_; clear H; intro H) | (refine bind_e H ?_; clear H; intro _ q H; first | (replace q := Option.some.inj q; subst q) | skip))
  all_goals with_reducible (first | (replace H := Option.some.inj H; subst H) | skip)
  all_goals (try simp only [List.length_replicate, List.length_set] at H)
  all_goals (refine go2 ?_)
  all_goals (first | trivial | skip)
  all_goals first
   |
      (refine X_fuel3 (L := fun n (y : List Int × List Int × Int × Int) => nat_May.l0 n y.1 y.2.1 y.2.2.1 y.2.2.2) (S := fun y s => ∃ j2 j4 j8 j12 g, s = ⟨[(0, (.lst (u y.1))), (2, j2), (4, j4), (5, (.lst (u y.2.1))), (6, (.int .i64 y.2.2.1)), (7, (.int .i64 y.2.2.2)), (8, j8), (12, j12)], g⟩) (fun _ => by simp only [nat_May.l0]) _ ?_ _ (Nat.le_refl _) (_, _, _, _) _ H ⟨_, _, _, _, _, rfl⟩
       clear H
       rintro nl0 hnl0 ⟨x0, x5, x6, x7⟩ s H ⟨j2, j4, j8, j12, g, rfl⟩ recl0
       simp only [nat_May.l0] at H
       repeat' with_reducible (first | (refine none_some H; done) | (refine ite_e H ?_ ?_ <;> clear H <;> intro c H <;> (try simp only [int_beq, decide_eq_true_eq] at c) <;> first | (have : (_ : Bool) = _ := c; clear this) | (have : ¬ (_ : Bool) = _ := c; clear this) | (replace c := eq_false c; try simp only [List.length_replicate, List.length_set, List.length_nil, List.length_cons, Nat.zero_add] at c) | (replace c := eq_true c; try simp only [List.length_replicate, List.length_set, List.length_nil, List.length_cons, Nat.zero_add] at c)) | (refine bind_k (by assumption) H ?_; clear H; intro H) | (refine bind_e H ?_; clear H; intro _ q H; first | (replace q := Option.some.inj q; subst q) | skip))
       all_goals with_reducible (first | (replace H := Option.some.inj H; subst H) | skip)
       all_goals (try simp only [List.length_replicate, List.length_set] at H)
       all_goals (refine go2 ?_)
       all_goals (first | (trivial) | (exact recl0 _ (by omega) (_, _, _, _) _ H ⟨_, _, _, _, _, rfl⟩) | skip))
   | skip
theorem e_limb_Div {a0 : Int} {a1 : Int} {a2 : Int} {r : Int × Int × Int} (H : limb_Div.f a0 a1 a2 = some r) : CP (CL F) 170 [(.int .u64 a0), (.int .u64 a1), (.int .u64 a2)] = some (.tup [(.int .u64 r.1), (.int .u64 r.2.1), (.int .i64 r.2.2)]) := by
  refine CP_X (F := F) (f := 170) rfl rfl ?_
  unfold limb_Div.f at H
  repeat' with_reducible (first | (refine none_some H; done) | (refine ite_e H ?_ ?_ <;> clear H <;> intro c H <;> (try simp only [int_beq, decide_eq_true_eq] at c) <;> first | (have : (_ : Bool) = _ := c; clear this) | (have : ¬ (_ : Bool) = _ := c; clear this) | (replace c := eq_false c; try simp only [List.length_replicate, List.length_set, List.length_nil, List.length_cons, Nat.zero_add] at c) | (replace c := eq_true c; try simp only [List.length_replicate, List.length_set, List.length_nil, List.length_cons, Nat.zero_add] at c)) | (refine bind_k (by assumption) H ?_; clear H; intro H) | (refine bind_e H ?_; clear H; intro _ q H; first | (replace q := Option.some.inj q; subst q) | skip))
  all_goals with_reducible (first | (replace H := Option.some.inj H; subst H) | skip)
  all_goals (try simp only [List.length_replicate, List.length_set] at H)
  all_goals (refine go2 ?_)
  all_goals (first | trivial | skip)
theorem e_divide_Small {k : Nat} {l0 : List Int} {a1 : Int} {r : List Int × Int × Int} (H : divide_Small.f k l0 a1 = some r) : CP (CL F) 160 [(.lst (u l0)), (.int .u64 a1)] = some (.tup [(.lst (u r.1)), (.int .u64 r.2.1), (.int .i64 r.2.2)]) := by
  refine CP_X (F := F) (f := 160) rfl rfl ?_
  unfold divide_Small.f at H
  repeat' with_reducible (first | (refine none_some H; done) | (refine ite_e H ?_ ?_ <;> clear H <;> intro c H <;> (try simp only [int_beq, decide_eq_true_eq] at c) <;> first | (have : (_ : Bool) = _ := c; clear this) | (have : ¬ (_ : Bool) = _ := c; clear this) | (replace c := eq_false c; try simp only [List.length_replicate, List.length_set, List.length_nil, List.length_cons, Nat.zero_add] at c) | (replace c := eq_true c; try simp only [List.length_replicate, List.length_set, List.length_nil, List.length_cons, Nat.zero_add] at c)) | (refine bind_k (by assumption) H ?_; clear H; intro H) | (refine bind_e H ?_; clear H; intro _ q H; first | (have q' := e_limb_Div q; try simp only [u_nil, ui_nil, List.length_replicate, List.length_set, List.cons_append, List.nil_append] at q') | (have q' := e_nat_Make q; try simp only [u_nil, ui_nil, List.length_replicate, List.length_set, List.cons_append, List.nil_append] at q') | (replace q := Option.some.inj q; subst q) | skip))
  all_goals with_reducible (first | (replace H := Option.some.inj H; subst H) | skip)
  all_goals (try simp only [List.length_replicate, List.length_set] at H)
  all_goals (refine go2 ?_)
  all_goals (first | trivial | skip)
  all_goals first
   |
      (refine X_fuel3 (L := fun n (y : List Int × Int × List Int × Int × Int × Int) => divide_Small.l0 n y.1 y.2.1 y.2.2.1 y.2.2.2.1 y.2.2.2.2.1 y.2.2.2.2.2) (S := fun y s => ∃ j4 j5 j6 m0 j9 j10 j11 j15 j22 v0 g, s = ⟨[(0, (.lst (u y.1))), (1, (.int .u64 y.2.1)), (4, j4), (5, j5), (6, j6), (7, .ref 0 v0 1 0 m0), (8, (.int .u64 y.2.2.2.1)), (9, j9), (10, j10), (11, j11), (15, j15), (20, (.int .i64 y.2.2.2.2.1)), (21, (.int .i64 y.2.2.2.2.2)), (22, j22)], some ⟨v0, 1, u y.2.2.1⟩ :: g⟩ ∧ m0 = y.2.2.1.length) (fun _ => by simp only [divide_Small.l0]) _ ?_ _ (Nat.le_refl _) (_, _, _, _, _, _) _ H ⟨_, _, _, _, _, _, _, _, _, _, _, rfl, by simp⟩
       clear H
       rintro nl0 hnl0 ⟨x0, x1, x7, x8, x20, x21⟩ s H ⟨j4, j5, j6, m0, j9, j10, j11, j15, j22, v0, g, rfl, rfl⟩ recl0
       simp only [divide_Small.l0] at H
       repeat' with_reducible (first | (refine none_some H; done) | (refine ite_e H ?_ ?_ <;> clear H <;> intro c H <;> (try simp only [int_beq, decide_eq_true_eq] at c) <;> first | (have : (_ : Bool) = _ := c; clear this) | (have : ¬ (_ : Bool) = _ := c; clear this) | (replace c := eq_false c; try simp only [List.length_replicate, List.length_set, List.length_nil, List.length_cons, Nat.zero_add] at c) | (replace c := eq_true c; try simp only [List.length_replicate, List.length_set, List.length_nil, List.length_cons, Nat.zero_add] at c)) | (refine bind_k (by assumption) H ?_; clear H; intro H) | (refine bind_e H ?_; clear H; intro _ q H; first | (have q' := e_limb_Div q; try simp only [u_nil, ui_nil, List.length_replicate, List.length_set, List.cons_append, List.nil_append] at q') | (have q' := e_nat_Make q; try simp only [u_nil, ui_nil, List.length_replicate, List.length_set, List.cons_append, List.nil_append] at q') | (replace q := Option.some.inj q; subst q) | skip))
       all_goals with_reducible (first | (replace H := Option.some.inj H; subst H) | skip)
       all_goals (try simp only [List.length_replicate, List.length_set] at H)
       all_goals (refine go2 ?_)
       all_goals (first | (trivial) | (exact recl0 _ (by omega) (_, _, _, _, _, _) _ H ⟨_, _, _, _, _, _, _, _, _, _, _, rfl, by simp⟩) | skip))
   | skip
theorem e_limb_Bits {k : Nat} {a0 : Int} {r : Int} (H : limb_Bits.f k a0 = some r) : CP (CL F) 171 [(.int .u64 a0)] = some (.int .i64 r) := by
  refine CP_X (F := F) (f := 171) rfl rfl ?_
  unfold limb_Bits.f at H
  repeat' with_reducible (first | (refine none_some H; done) | (refine ite_e H ?_ ?_ <;> clear H <;> intro c H <;> (try simp only [int_beq, decide_eq_true_eq] at c) <;> first | (have : (_ : Bool) = _ := c; clear this) | (have : ¬ (_ : Bool) = _ := c; clear this) | (replace c := eq_false c; try simp only [List.length_replicate, List.length_set, List.length_nil, List.length_cons, Nat.zero_add] at c) | (replace c := eq_true c; try simp only [List.length_replicate, List.length_set, List.length_nil, List.length_cons, Nat.zero_add] at c)) | (refine bind_k (by assumption) H ?_; clear H; intro H) | (refine bind_e H ?_; clear H; intro _ q H; first | (replace q := Option.some.inj q; subst q) | skip))
  all_goals with_reducible (first | (replace H := Option.some.inj H; subst H) | skip)
  all_goals (try simp only [List.length_replicate, List.length_set] at H)
  all_goals (refine go2 ?_)
  all_goals (first | trivial | skip)
  all_goals first
   |
      (refine X_fuel3 (L := fun n (y : Int × Int × Int) => limb_Bits.l0 n y.1 y.2.1 y.2.2) (S := fun y s => ∃ j2 j4 j6 j12 g, s = ⟨[(0, (.int .u64 y.1)), (2, j2), (3, (.int .i64 y.2.1)), (4, j4), (5, (.int .i64 y.2.2)), (6, j6), (12, j12)], g⟩) (fun _ => by simp only [limb_Bits.l0]) _ ?_ _ (Nat.le_refl _) (_, _, _) _ H ⟨_, _, _, _, _, rfl⟩
       clear H
       rintro nl0 hnl0 ⟨x0, x3, x5⟩ s H ⟨j2, j4, j6, j12, g, rfl⟩ recl0
       simp only [limb_Bits.l0] at H
       repeat' with_reducible (first | (refine none_some H; done) | (refine ite_e H ?_ ?_ <;> clear H <;> intro c H <;> (try simp only [int_beq, decide_eq_true_eq] at c) <;> first | (have : (_ : Bool) = _ := c; clear this) | (have : ¬ (_ : Bool) = _ := c; clear this) | (replace c := eq_false c; try simp only [List.length_replicate, List.length_set, List.length_nil, List.length_cons, Nat.zero_add] at c) | (replace c := eq_true c; try simp only [List.length_replicate, List.length_set, List.length_nil, List.length_cons, Nat.zero_add] at c)) | (refine bind_k (by assumption) H ?_; clear H; intro H) | (refine bind_e H ?_; clear H; intro _ q H; first | (replace q := Option.some.inj q; subst q) | skip))
       all_goals with_reducible (first | (replace H := Option.some.inj H; subst H) | skip)
       all_goals (try simp only [List.length_replicate, List.length_set] at H)
       all_goals (refine go2 ?_)
       all_goals (first | (trivial) | (exact recl0 _ (by omega) (_, _, _) _ H ⟨_, _, _, _, _, rfl⟩) | skip))
   | skip
theorem e_nat_shift {a0 : Int} {r : Int} (H : nat_shift.f a0 = some r) : CP (CL F) 180 [(.int .i64 a0)] = some (.int .i64 r) := by
  refine CP_X (F := F) (f := 180) rfl rfl ?_
  unfold nat_shift.f at H
  repeat' with_reducible (first | (refine none_some H; done) | (refine ite_e H ?_ ?_ <;> clear H <;> intro c H <;> (try simp only [int_beq, decide_eq_true_eq] at c) <;> first | (have : (_ : Bool) = _ := c; clear this) | (have : ¬ (_ : Bool) = _ := c; clear this) | (replace c := eq_false c; try simp only [List.length_replicate, List.length_set, List.length_nil, List.length_cons, Nat.zero_add] at c) | (replace c := eq_true c; try simp only [List.length_replicate, List.length_set, List.length_nil, List.length_cons, Nat.zero_add] at c)) | (refine bind_k (by assumption) H ?_; clear H; intro H) | (refine bind_e H ?_; clear H; intro _ q H; first | (replace q := Option.some.inj q; subst q) | skip))
  all_goals with_reducible (first | (replace H := Option.some.inj H; subst H) | skip)
  all_goals (try simp only [List.length_replicate, List.length_set] at H)
  all_goals (refine go2 ?_)
  all_goals (first | trivial | skip)
theorem nat_Shl_j0_e {n : Nat} {x0 : List Int} {x1 : Int} {x6 : Int} {x19 : Bool} {r} {p : Prop} (h : nat_Shl.j0 n x0 x1 x6 x19 = some r) (h1 : ∀ m, m < n → nat_Shl.j0 (m + 1) x0 x1 x6 x19 = some r → p) : p := by
  cases n with
  | zero => simp [nat_Shl.j0] at h
  | succ m => exact h1 m (by omega) h
theorem e_nat_Shl {k : Nat} {l0 : List Int} {a1 : Int} {r : List Int × Int} (H : nat_Shl.f k l0 a1 = some r) : CP (CL F) 172 [(.lst (u l0)), (.int .i64 a1)] = some (.tup [(.lst (u r.1)), (.int .i64 r.2)]) := by
  refine CP_X (F := F) (f := 172) rfl rfl ?_
  unfold nat_Shl.f at H
  repeat' with_reducible (first | (refine none_some H; done) | (refine ite_e H ?_ ?_ <;> clear H <;> intro c H <;> (try simp only [int_beq, decide_eq_true_eq] at c) <;> first | (have : (_ : Bool) = _ := c; clear this) | (have : ¬ (_ : Bool) = _ := c; clear this) | (replace c := eq_false c; try simp only [List.length_replicate, List.length_set, List.length_nil, List.length_cons, Nat.zero_add] at c) | (replace c := eq_true c; try simp only [List.length_replicate, List.length_set, List.length_nil, List.length_cons, Nat.zero_add] at c)) | (refine bind_k (by assumption) H ?_; clear H; intro H) | (refine bind_e H ?_; clear H; intro _ q H; first | (have q' := e_nat_shift q; try simp only [u_nil, ui_nil, List.length_replicate, List.length_set, List.cons_append, List.nil_append] at q') | (have q' := e_nat_trim q; try simp only [u_nil, ui_nil, List.length_replicate, List.length_set, List.cons_append, List.nil_append] at q') | (replace q := Option.some.inj q; subst q) | skip) | (refine nat_Shl_j0_e H ?_; clear H; intro _ _ H; simp only [nat_Shl.j0] at H))
  all_goals with_reducible (first | (replace H := Option.some.inj H; subst H) | skip)
  all_goals (try simp only [List.length_replicate, List.length_set] at H)
  all_goals (refine go2 ?_)
  all_goals (first | trivial | skip)
  all_goals first
   |
      (refine X_fuel3 (L := fun n (y : Int × List Int × List Int × Int × Int) => nat_Shl.l0 n y.1 y.2.1 y.2.2.1 y.2.2.2.1 y.2.2.2.2) (S := fun y s => ∃ j4 j5 j6 m0 j8 j9 j10 j19 j31 v0 g, s = ⟨[(0, (.lst (u l0))), (1, (.int .i64 y.1)), (4, j4), (5, j5), (6, j6), (7, .ref 0 v0 1 0 m0), (8, j8), (9, j9), (10, j10), (19, j19), (28, (.lst (u y.2.2.1))), (29, (.int .i64 y.2.2.2.1)), (30, (.int .i64 y.2.2.2.2)), (31, j31)], some ⟨v0, 1, u y.2.1⟩ :: g⟩ ∧ m0 = y.2.1.length) (fun _ => by simp only [nat_Shl.l0]) _ ?_ _ (Nat.le_refl _) (_, _, _, _, _) _ H ⟨_, _, _, _, _, _, _, _, _, _, _, rfl, by simp⟩
       clear H
       rintro nl0 hnl0 ⟨x1, x7, x28, x29, x30⟩ s H ⟨j4, j5, j6, m0, j8, j9, j10, j19, j31, v0, g, rfl, rfl⟩ recl0
       simp only [nat_Shl.l0] at H
       repeat' with_reducible (first | (refine none_some H; done) | (refine ite_e H ?_ ?_ <;> clear H <;> intro c H <;> (try simp only [int_beq, decide_eq_true_eq] at c) <;> first | (have : (_ : Bool) = _ := c; clear this) | (have : ¬ (_ : Bool) = _ := c; clear this) | (replace c := eq_false c; try simp only [List.length_replicate, List.length_set, List.length_nil, List.length_cons, Nat.zero_add] at c) | (replace c := eq_true c; try simp only [List.length_replicate, List.length_set, List.length_nil, List.length_cons, Nat.zero_add] at c)) | (refine bind_k (by assumption) H ?_; clear H; intro H) | (refine bind_e H ?_; clear H; intro _ q H; first | (have q' := e_nat_shift q; try simp only [u_nil, ui_nil, List.length_replicate, List.length_set, List.cons_append, List.nil_append] at q') | (have q' := e_nat_trim q; try simp only [u_nil, ui_nil, List.length_replicate, List.length_set, List.cons_append, List.nil_append] at q') | (replace q := Option.some.inj q; subst q) | skip) | (refine nat_Shl_j0_e H ?_; clear H; intro _ _ H; simp only [nat_Shl.j0] at H))
       all_goals with_reducible (first | (replace H := Option.some.inj H; subst H) | skip)
       all_goals (try simp only [List.length_replicate, List.length_set] at H)
       all_goals (refine go2 ?_)
       all_goals (first | (trivial) | (exact recl0 _ (by omega) (_, _, _, _, _) _ H ⟨_, _, _, _, _, _, _, _, _, _, _, rfl, by simp⟩) | skip))
   | skip
theorem e_divide_at {l0 : List Int} {a1 : Int} {r : Int} (H : divide_at.f l0 a1 = some r) : CP (CL F) 181 [(.lst (u l0)), (.int .i64 a1)] = some (.int .u64 r) := by
  refine CP_X (F := F) (f := 181) rfl rfl ?_
  unfold divide_at.f at H
  repeat' with_reducible (first | (refine none_some H; done) | (refine ite_e H ?_ ?_ <;> clear H <;> intro c H <;> (try simp only [int_beq, decide_eq_true_eq] at c) <;> first | (have : (_ : Bool) = _ := c; clear this) | (have : ¬ (_ : Bool) = _ := c; clear this) | (replace c := eq_false c; try simp only [List.length_replicate, List.length_set, List.length_nil, List.length_cons, Nat.zero_add] at c) | (replace c := eq_true c; try simp only [List.length_replicate, List.length_set, List.length_nil, List.length_cons, Nat.zero_add] at c)) | (refine bind_k (by assumption) H ?_; clear H; intro H) | (refine bind_e H ?_; clear H; intro _ q H; first | (replace q := Option.some.inj q; subst q) | skip))
  all_goals with_reducible (first | (replace H := Option.some.inj H; subst H) | skip)
  all_goals (try simp only [List.length_replicate, List.length_set] at H)
  all_goals (refine go2 ?_)
  all_goals (first | trivial | skip)
theorem nat_Shr_j0_e {n : Nat} {x0 : List Int} {x1 : Int} {x6 : Int} {x20 : Bool} {r} {p : Prop} (h : nat_Shr.j0 n x0 x1 x6 x20 = some r) (h1 : ∀ m, m < n → nat_Shr.j0 (m + 1) x0 x1 x6 x20 = some r → p) : p := by
  cases n with
  | zero => simp [nat_Shr.j0] at h
  | succ m => exact h1 m (by omega) h
theorem e_nat_Shr {k : Nat} {l0 : List Int} {a1 : Int} {r : List Int × Int} (H : nat_Shr.f k l0 a1 = some r) : CP (CL F) 176 [(.lst (u l0)), (.int .i64 a1)] = some (.tup [(.lst (u r.1)), (.int .i64 r.2)]) := by
  refine CP_X (F := F) (f := 176) rfl rfl ?_
  unfold nat_Shr.f at H
  repeat' with_reducible (first | (refine none_some H; done) | (refine ite_e H ?_ ?_ <;> clear H <;> intro c H <;> (try simp only [int_beq, decide_eq_true_eq] at c) <;> first | (have : (_ : Bool) = _ := c; clear this) | (have : ¬ (_ : Bool) = _ := c; clear this) | (replace c := eq_false c; try simp only [List.length_replicate, List.length_set, List.length_nil, List.length_cons, Nat.zero_add] at c) | (replace c := eq_true c; try simp only [List.length_replicate, List.length_set, List.length_nil, List.length_cons, Nat.zero_add] at c)) | (refine bind_k (by assumption) H ?_; clear H; intro H) | (refine bind_e H ?_; clear H; intro _ q H; first | (have q' := e_nat_at q; try simp only [u_nil, ui_nil, List.length_replicate, List.length_set, List.cons_append, List.nil_append] at q') | (have q' := e_nat_shift q; try simp only [u_nil, ui_nil, List.length_replicate, List.length_set, List.cons_append, List.nil_append] at q') | (have q' := e_nat_trim q; try simp only [u_nil, ui_nil, List.length_replicate, List.length_set, List.cons_append, List.nil_append] at q') | (replace q := Option.some.inj q; subst q) | skip) | (refine nat_Shr_j0_e H ?_; clear H; intro _ _ H; simp only [nat_Shr.j0] at H))
  all_goals with_reducible (first | (replace H := Option.some.inj H; subst H) | skip)
  all_goals (try simp only [List.length_replicate, List.length_set] at H)
  all_goals (refine go2 ?_)
  all_goals (first | trivial | skip)
  all_goals first
   |
      (refine X_fuel3 (L := fun n (y : List Int × Int × List Int × Int × Int) => nat_Shr.l0 n y.1 y.2.1 y.2.2.1 y.2.2.2.1 y.2.2.2.2) (S := fun y s => ∃ j4 j5 j6 m0 j8 j9 j20 j31 v0 g, s = ⟨[(0, (.lst (u y.1))), (1, (.int .i64 y.2.1)), (4, j4), (5, j5), (6, j6), (7, .ref 0 v0 1 0 m0), (8, j8), (9, j9), (20, j20), (29, (.int .i64 y.2.2.2.1)), (30, (.int .i64 y.2.2.2.2)), (31, j31)], some ⟨v0, 1, u y.2.2.1⟩ :: g⟩ ∧ m0 = y.2.2.1.length) (fun _ => by simp only [nat_Shr.l0]) _ ?_ _ (Nat.le_refl _) (_, _, _, _, _) _ H ⟨_, _, _, _, _, _, _, _, _, _, rfl, by simp⟩
       clear H
       rintro nl0 hnl0 ⟨x0, x1, x7, x29, x30⟩ s H ⟨j4, j5, j6, m0, j8, j9, j20, j31, v0, g, rfl, rfl⟩ recl0
       simp only [nat_Shr.l0] at H
       repeat' with_reducible (first | (refine none_some H; done) | (refine ite_e H ?_ ?_ <;> clear H <;> intro c H <;> (try simp only [int_beq, decide_eq_true_eq] at c) <;> first | (have : (_ : Bool) = _ := c; clear this) | (have : ¬ (_ : Bool) = _ := c; clear this) | (replace c := eq_false c; try simp only [List.length_replicate, List.length_set, List.length_nil, List.length_cons, Nat.zero_add] at c) | (replace c := eq_true c; try simp only [List.length_replicate, List.length_set, List.length_nil, List.length_cons, Nat.zero_add] at c)) | (refine bind_k (by assumption) H ?_; clear H; intro H) | (refine bind_e H ?_; clear H; intro _ q H; first | (have q' := e_nat_at q; try simp only [u_nil, ui_nil, List.length_replicate, List.length_set, List.cons_append, List.nil_append] at q') | (have q' := e_nat_shift q; try simp only [u_nil, ui_nil, List.length_replicate, List.length_set, List.cons_append, List.nil_append] at q') | (have q' := e_nat_trim q; try simp only [u_nil, ui_nil, List.length_replicate, List.length_set, List.cons_append, List.nil_append] at q') | (replace q := Option.some.inj q; subst q) | skip) | (refine nat_Shr_j0_e H ?_; clear H; intro _ _ H; simp only [nat_Shr.j0] at H))
       all_goals with_reducible (first | (replace H := Option.some.inj H; subst H) | skip)
       all_goals (try simp only [List.length_replicate, List.length_set] at H)
       all_goals (refine go2 ?_)
       all_goals (first | (trivial) | (exact recl0 _ (by omega) (_, _, _, _, _) _ H ⟨_, _, _, _, _, _, _, _, _, _, rfl, by simp⟩) | skip))
   | skip
theorem e_triviumref02_Same {k : Nat} {l0 : List Int} {l1 : List Int} {r : Bool} (H : triviumref02_Same.f k l0 l1 = some r) : CP (CL F) 47 [(.lst (u l0)), (.lst (u l1))] = some (.bool r) := by
  refine CP_X (F := F) (f := 47) rfl rfl ?_
  unfold triviumref02_Same.f at H
  repeat' with_reducible (first | (refine none_some H; done) | (refine ite_e H ?_ ?_ <;> clear H <;> intro c H <;> (try simp only [int_beq, decide_eq_true_eq] at c) <;> first | (have : (_ : Bool) = _ := c; clear this) | (have : ¬ (_ : Bool) = _ := c; clear this) | (replace c := eq_false c; try simp only [List.length_replicate, List.length_set, List.length_nil, List.length_cons, Nat.zero_add] at c) | (replace c := eq_true c; try simp only [List.length_replicate, List.length_set, List.length_nil, List.length_cons, Nat.zero_add] at c)) | (refine bind_k (by assumption) H ?_; clear H; intro H) | (refine bind_e H ?_; clear H; intro _ q H; first | (replace q := Option.some.inj q; subst q) | skip))
  all_goals with_reducible (first | (replace H := Option.some.inj H; subst H) | skip)
  all_goals (try simp only [List.length_replicate, List.length_set] at H)
  all_goals (refine go2 ?_)
  all_goals (first | trivial | skip)
  all_goals first
   |
      (refine X_fuel3 (L := fun n (y : List Int × List Int × Int) => triviumref02_Same.l0 n y.1 y.2.1 y.2.2) (S := fun y s => ∃ j4 j10 j14 j25 g, s = ⟨[(0, (.lst (u y.1))), (1, (.lst (u y.2.1))), (4, j4), (5, (.int .i64 y.2.2)), (10, j10), (14, j14), (25, j25)], g⟩) (fun _ => by simp only [triviumref02_Same.l0]) _ ?_ _ (Nat.le_refl _) (_, _, _) _ H ⟨_, _, _, _, _, rfl⟩
       clear H
       rintro nl0 hnl0 ⟨x0, x1, x5⟩ s H ⟨j4, j10, j14, j25, g, rfl⟩ recl0
       simp only [triviumref02_Same.l0] at H
       repeat' with_reducible (first | (refine none_some H; done) | (refine ite_e H ?_ ?_ <;> clear H <;> intro c H <;> (try simp only [int_beq, decide_eq_true_eq] at c) <;> first | (have : (_ : Bool) = _ := c; clear this) | (have : ¬ (_ : Bool) = _ := c; clear this) | (replace c := eq_false c; try simp only [List.length_replicate, List.length_set, List.length_nil, List.length_cons, Nat.zero_add] at c) | (replace c := eq_true c; try simp only [List.length_replicate, List.length_set, List.length_nil, List.length_cons, Nat.zero_add] at c)) | (refine bind_k (by assumption) H ?_; clear H; intro H) | (refine bind_e H ?_; clear H; intro _ q H; first | (replace q := Option.some.inj q; subst q) | skip))
       all_goals with_reducible (first | (replace H := Option.some.inj H; subst H) | skip)
       all_goals (try simp only [List.length_replicate, List.length_set] at H)
       all_goals (refine go2 ?_)
       all_goals (first | (trivial) | (exact recl0 _ (by omega) (_, _, _) _ H ⟨_, _, _, _, _, rfl⟩) | skip))
   | skip
theorem e_triviumref02_DivSmall {k : Nat} {l0 : List Int} {a1 : Int} {r : List Int × Int} (H : triviumref02_DivSmall.f k l0 a1 = some r) : CP (CL F) 101 [(.lst (ui l0)), (.int .i64 a1)] = some (.tup [(.lst (ui r.1)), (.int .i64 r.2)]) := by
  refine CP_X (F := F) (f := 101) rfl rfl ?_
  unfold triviumref02_DivSmall.f at H
  repeat' with_reducible (first | (refine none_some H; done) | (refine ite_e H ?_ ?_ <;> clear H <;> intro c H <;> (try simp only [int_beq, decide_eq_true_eq] at c) <;> first | (have : (_ : Bool) = _ := c; clear this) | (have : ¬ (_ : Bool) = _ := c; clear this) | (replace c := eq_false c; try simp only [List.length_replicate, List.length_set, List.length_nil, List.length_cons, Nat.zero_add] at c) | (replace c := eq_true c; try simp only [List.length_replicate, List.length_set, List.length_nil, List.length_cons, Nat.zero_add] at c)) | (refine bind_k (by assumption) H ?_; clear H; intro H) | (refine bind_e H ?_; clear H; intro _ q H; first | (have q' := e_triviumref02_Trim q; try simp only [u_nil, ui_nil, List.length_replicate, List.length_set, List.cons_append, List.nil_append] at q') | (replace q := Option.some.inj q; subst q) | skip))
  all_goals with_reducible (first | (replace H := Option.some.inj H; subst H) | skip)
  all_goals (try simp only [List.length_replicate, List.length_set] at H)
  all_goals (refine go2 ?_)
  all_goals (first | trivial | skip)
  all_goals first
   |
      (refine X_fuel3 (L := fun n (y : List Int × Int × List Int × Int × Int) => triviumref02_DivSmall.l0 n y.1 y.2.1 y.2.2.1 y.2.2.2.1 y.2.2.2.2) (S := fun y s => ∃ j4 j5 m0 j16 v0 g, s = ⟨[(0, (.lst (ui y.1))), (1, (.int .i64 y.2.1)), (4, j4), (5, j5), (6, .ref 0 v0 1 0 m0), (7, (.int .i64 y.2.2.2.1)), (8, (.int .i64 y.2.2.2.2)), (16, j16)], some ⟨v0, 1, ui y.2.2.1⟩ :: g⟩ ∧ m0 = y.2.2.1.length) (fun _ => by simp only [triviumref02_DivSmall.l0]) _ ?_ _ (Nat.le_refl _) (_, _, _, _, _) _ H ⟨_, _, _, _, _, _, rfl, by simp⟩
       clear H
       rintro nl0 hnl0 ⟨x0, x1, x6, x7, x8⟩ s H ⟨j4, j5, m0, j16, v0, g, rfl, rfl⟩ recl0
       simp only [triviumref02_DivSmall.l0] at H
       repeat' with_reducible (first | (refine none_some H; done) | (refine ite_e H ?_ ?_ <;> clear H <;> intro c H <;> (try simp only [int_beq, decide_eq_true_eq] at c) <;> first | (have : (_ : Bool) = _ := c; clear this) | (have : ¬ (_ : Bool) = _ := c; clear this) | (replace c := eq_false c; try simp only [List.length_replicate, List.length_set, List.length_nil, List.length_cons, Nat.zero_add] at c) | (replace c := eq_true c; try simp only [List.length_replicate, List.length_set, List.length_nil, List.length_cons, Nat.zero_add] at c)) | (refine bind_k (by assumption) H ?_; clear H; intro H) | (refine bind_e H ?_; clear H; intro _ q H; first | (have q' := e_triviumref02_Trim q; try simp only [u_nil, ui_nil, List.length_replicate, List.length_set, List.cons_append, List.nil_append] at q') | (replace q := Option.some.inj q; subst q) | skip))
       all_goals with_reducible (first | (replace H := Option.some.inj H; subst H) | skip)
       all_goals (try simp only [List.length_replicate, List.length_set] at H)
       all_goals (refine go2 ?_)
       all_goals (first | (trivial) | (exact recl0 _ (by omega) (_, _, _, _, _) _ H ⟨_, _, _, _, _, _, rfl, by simp⟩) | skip))
   | skip
theorem e_triviumref02_Back {k : Nat} {l0 : List Int} {r : List Int} (H : triviumref02_Back.f k l0 = some r) : CP (CL F) 48 [(.lst (ui l0))] = some (.lst (u r)) := by
  refine CP_X (F := F) (f := 48) rfl rfl ?_
  unfold triviumref02_Back.f at H
  repeat' with_reducible (first | (refine none_some H; done) | (refine ite_e H ?_ ?_ <;> clear H <;> intro c H <;> (try simp only [int_beq, decide_eq_true_eq] at c) <;> first | (have : (_ : Bool) = _ := c; clear this) | (have : ¬ (_ : Bool) = _ := c; clear this) | (replace c := eq_false c; try simp only [List.length_replicate, List.length_set, List.length_nil, List.length_cons, Nat.zero_add] at c) | (replace c := eq_true c; try simp only [List.length_replicate, List.length_set, List.length_nil, List.length_cons, Nat.zero_add] at c)) | (refine bind_k (by assumption) H ?_; clear H; intro H) | (refine bind_e H ?_; clear H; intro _ q H; first | (have q' := e_triviumref02_DivSmall q; try simp only [u_nil, ui_nil, List.length_replicate, List.length_set, List.cons_append, List.nil_append] at q') | (replace q := Option.some.inj q; subst q) | skip))
  all_goals with_reducible (first | (replace H := Option.some.inj H; subst H) | skip)
  all_goals (try simp only [List.length_replicate, List.length_set] at H)
  all_goals (refine go2 ?_)
  all_goals (first | trivial | skip)
  all_goals first
   |
      (refine X_fuel3 (L := fun n (y : List Int × List Int) => triviumref02_Back.l0 n y.1 y.2) (S := fun y s => ∃ j2 m0 j4 j5 j9 v0 g, s = ⟨[(0, (.lst (ui y.1))), (2, j2), (3, .ref 0 v0 1 0 m0), (4, j4), (5, j5), (9, j9)], some ⟨v0, 1, u y.2⟩ :: g⟩ ∧ m0 = y.2.length) (fun _ => by simp only [triviumref02_Back.l0]) _ ?_ _ (Nat.le_refl _) (_, _) _ H ⟨_, _, _, _, _, _, _, rfl, by simp⟩
       clear H
       rintro nl0 hnl0 ⟨x0, x3⟩ s H ⟨j2, m0, j4, j5, j9, v0, g, rfl, rfl⟩ recl0
       simp only [triviumref02_Back.l0] at H
       repeat' with_reducible (first | (refine none_some H; done) | (refine ite_e H ?_ ?_ <;> clear H <;> intro c H <;> (try simp only [int_beq, decide_eq_true_eq] at c) <;> first | (have : (_ : Bool) = _ := c; clear this) | (have : ¬ (_ : Bool) = _ := c; clear this) | (replace c := eq_false c; try simp only [List.length_replicate, List.length_set, List.length_nil, List.length_cons, Nat.zero_add] at c) | (replace c := eq_true c; try simp only [List.length_replicate, List.length_set, List.length_nil, List.length_cons, Nat.zero_add] at c)) | (refine bind_k (by assumption) H ?_; clear H; intro H) | (refine bind_e H ?_; clear H; intro _ q H; first | (have q' := e_triviumref02_DivSmall q; try simp only [u_nil, ui_nil, List.length_replicate, List.length_set, List.cons_append, List.nil_append] at q') | (replace q := Option.some.inj q; subst q) | skip))
       all_goals with_reducible (first | (replace H := Option.some.inj H; subst H) | skip)
       all_goals (try simp only [List.length_replicate, List.length_set] at H)
       all_goals (refine go2 ?_)
       all_goals (first | (trivial) | (exact recl0 _ (by omega) (_, _) _ H ⟨_, _, _, _, _, _, _, rfl, by simp⟩) | skip))
   | skip
theorem e_triviumref02_Num {k : Nat} {a0 : Int} {r : List Int} (H : triviumref02_Num.f k a0 = some r) : CP (CL F) 52 [(.int .i64 a0)] = some (.lst (ui r)) := by
  refine CP_X (F := F) (f := 52) rfl rfl ?_
  unfold triviumref02_Num.f at H
  repeat' with_reducible (first | (refine none_some H; done) | (refine ite_e H ?_ ?_ <;> clear H <;> intro c H <;> (try simp only [int_beq, decide_eq_true_eq] at c) <;> first | (have : (_ : Bool) = _ := c; clear this) | (have : ¬ (_ : Bool) = _ := c; clear this) | (replace c := eq_false c; try simp only [List.length_replicate, List.length_set, List.length_nil, List.length_cons, Nat.zero_add] at c) | (replace c := eq_true c; try simp only [List.length_replicate, List.length_set, List.length_nil, List.length_cons, Nat.zero_add] at c)) | (refine bind_k (by assumption) H ?_; clear H; intro H) | (refine bind_e H ?_; clear H; intro _ q H; first | (have q' := e_triviumref02_MulAdd q; try simp only [u_nil, ui_nil, List.length_replicate, List.length_set, List.cons_append, List.nil_append] at q') | (replace q := Option.some.inj q; subst q) | skip))
  all_goals with_reducible (first | (replace H := Option.some.inj H; subst H) | skip)
  all_goals (try simp only [List.length_replicate, List.length_set] at H)
  all_goals (refine go2 ?_)
  all_goals (first | trivial | skip)
theorem e_triviumref02_Cmp {k : Nat} {l0 : List Int} {l1 : List Int} {r : Int} (H : triviumref02_Cmp.f k l0 l1 = some r) : CP (CL F) 51 [(.lst (ui l0)), (.lst (ui l1))] = some (.int .i64 r) := by
  refine CP_X (F := F) (f := 51) rfl rfl ?_
  unfold triviumref02_Cmp.f at H
  repeat' with_reducible (first | (refine none_some H; done) | (refine ite_e H ?_ ?_ <;> clear H <;> intro c H <;> (try simp only [int_beq, decide_eq_true_eq] at c) <;> first | (have : (_ : Bool) = _ := c; clear this) | (have : ¬ (_ : Bool) = _ := c; clear this) | (replace c := eq_false c; try simp only [List.length_replicate, List.length_set, List.length_nil, List.length_cons, Nat.zero_add] at c) | (replace c := eq_true c; try simp only [List.length_replicate, List.length_set, List.length_nil, List.length_cons, Nat.zero_add] at c)) | (refine bind_k (by assumption) H ?_; clear H; intro H) | (refine bind_e H ?_; clear H; intro _ q H; first | (replace q := Option.some.inj q; subst q) | skip))
  all_goals with_reducible (first | (replace H := Option.some.inj H; subst H) | skip)
  all_goals (try simp only [List.length_replicate, List.length_set] at H)
  all_goals (refine go2 ?_)
  all_goals (first | trivial | skip)
  all_goals first
   |
      (refine X_fuel3 (L := fun n (y : List Int × List Int × Int) => triviumref02_Cmp.l0 n y.1 y.2.1 y.2.2) (S := fun y s => ∃ j4 j10 j15 j20 j31 j40 g, s = ⟨[(0, (.lst (ui y.1))), (1, (.lst (ui y.2.1))), (4, j4), (5, (.int .i64 y.2.2)), (10, j10), (15, j15), (20, j20), (31, j31), (40, j40)], g⟩) (fun _ => by simp only [triviumref02_Cmp.l0]) _ ?_ _ (Nat.le_refl _) (_, _, _) _ H ⟨_, _, _, _, _, _, _, rfl⟩
       clear H
       rintro nl0 hnl0 ⟨x0, x1, x5⟩ s H ⟨j4, j10, j15, j20, j31, j40, g, rfl⟩ recl0
       simp only [triviumref02_Cmp.l0] at H
       repeat' with_reducible (first | (refine none_some H; done) | (refine ite_e H ?_ ?_ <;> clear H <;> intro c H <;> (try simp only [int_beq, decide_eq_true_eq] at c) <;> first | (have : (_ : Bool) = _ := c; clear this) | (have : ¬ (_ : Bool) = _ := c; clear this) | (replace c := eq_false c; try simp only [List.length_replicate, List.length_set, List.length_nil, List.length_cons, Nat.zero_add] at c) | (replace c := eq_true c; try simp only [List.length_replicate, List.length_set, List.length_nil, List.length_cons, Nat.zero_add] at c)) | (refine bind_k (by assumption) H ?_; clear H; intro H) | (refine bind_e H ?_; clear H; intro _ q H; first | (replace q := Option.some.inj q; subst q) | skip))
       all_goals with_reducible (first | (replace H := Option.some.inj H; subst H) | skip)
       all_goals (try simp only [List.length_replicate, List.length_set] at H)
       all_goals (refine go2 ?_)
       all_goals (first | (trivial) | (exact recl0 _ (by omega) (_, _, _) _ H ⟨_, _, _, _, _, _, _, rfl⟩) | skip))
   | skip
theorem e_triviumref02_Sub {k : Nat} {l0 : List Int} {l1 : List Int} {r : List Int} (H : triviumref02_Sub.f k l0 l1 = some r) : CP (CL F) 145 [(.lst (ui l0)), (.lst (ui l1))] = some (.lst (ui r)) := by
  refine CP_X (F := F) (f := 145) rfl rfl ?_
  unfold triviumref02_Sub.f at H
  repeat' with_reducible (first | (refine none_some H; done) | (refine ite_e H ?_ ?_ <;> clear H <;> intro c H <;> (try simp only [int_beq, decide_eq_true_eq] at c) <;> first | (have : (_ : Bool) = _ := c; clear this) | (have : ¬ (_ : Bool) = _ := c; clear this) | (replace c := eq_false c; try simp only [List.length_replicate, List.length_set, List.length_nil, List.length_cons, Nat.zero_add] at c) | (replace c := eq_true c; try simp only [List.length_replicate, List.length_set, List.length_nil, List.length_cons, Nat.zero_add] at c)) | (refine bind_k (by assumption) H ?_; clear H; intro H) | (refine bind_e H ?_; clear H; intro _ q H; first | (have q' := e_triviumref02_Trim q; try simp only [u_nil, ui_nil, List.length_replicate, List.length_set, List.cons_append, List.nil_append] at q') | (replace q := Option.some.inj q; subst q) | skip))
  all_goals with_reducible (first | (replace H := Option.some.inj H; subst H) | skip)
  all_goals (try simp only [List.length_replicate, List.length_set] at H)
  all_goals (refine go2 ?_)
  all_goals (first | trivial | skip)
  all_goals first
   |
      (refine X_fuel3 (L := fun n (y : List Int × List Int × List Int × Int × Int) => triviumref02_Sub.l0 n y.1 y.2.1 y.2.2.1 y.2.2.2.1 y.2.2.2.2) (S := fun y s => ∃ j4 m0 j8 j13 j25 j33 v0 g, s = ⟨[(0, (.lst (ui y.1))), (1, (.lst (ui y.2.1))), (4, j4), (5, .ref 0 v0 1 0 m0), (6, (.int .i64 y.2.2.2.1)), (7, (.int .i64 y.2.2.2.2)), (8, j8), (13, j13), (25, j25), (33, j33)], some ⟨v0, 1, ui y.2.2.1⟩ :: g⟩ ∧ m0 = y.2.2.1.length) (fun _ => by simp only [triviumref02_Sub.l0]) _ ?_ _ (Nat.le_refl _) (_, _, _, _, _) _ H ⟨_, _, _, _, _, _, _, _, rfl, by simp⟩
       clear H
       rintro nl0 hnl0 ⟨x0, x1, x5, x6, x7⟩ s H ⟨j4, m0, j8, j13, j25, j33, v0, g, rfl, rfl⟩ recl0
       simp only [triviumref02_Sub.l0] at H
       repeat' with_reducible (first | (refine none_some H; done) | (refine ite_e H ?_ ?_ <;> clear H <;> intro c H <;> (try simp only [int_beq, decide_eq_true_eq] at c) <;> first | (have : (_ : Bool) = _ := c; clear this) | (have : ¬ (_ : Bool) = _ := c; clear this) | (replace c := eq_false c; try simp only [List.length_replicate, List.length_set, List.length_nil, List.length_cons, Nat.zero_add] at c) | (replace c := eq_true c; try simp only [List.length_replicate, List.length_set, List.length_nil, List.length_cons, Nat.zero_add] at c)) | (refine bind_k (by assumption) H ?_; clear H; intro H) | (refine bind_e H ?_; clear H; intro _ q H; first | (have q' := e_triviumref02_Trim q; try simp only [u_nil, ui_nil, List.length_replicate, List.length_set, List.cons_append, List.nil_append] at q') | (replace q := Option.some.inj q; subst q) | skip))
       all_goals with_reducible (first | (replace H := Option.some.inj H; subst H) | skip)
       all_goals (try simp only [List.length_replicate, List.length_set] at H)
       all_goals (refine go2 ?_)
       all_goals (first | (trivial) | (exact recl0 _ (by omega) (_, _, _, _, _) _ H ⟨_, _, _, _, _, _, _, _, rfl, by simp⟩) | skip))
   | skip
theorem e_triviumref02_Div {k : Nat} {l0 : List Int} {l1 : List Int} {r : List Int × List Int} (H : triviumref02_Div.f k l0 l1 = some r) : CP (CL F) 98 [(.lst (ui l0)), (.lst (ui l1))] = some (.tup [(.lst (ui r.1)), (.lst (ui r.2))]) := by
  refine CP_X (F := F) (f := 98) rfl rfl ?_
  unfold triviumref02_Div.f at H
  repeat' with_reducible (first | (refine none_some H; done) | (refine ite_e H ?_ ?_ <;> clear H <;> intro c H <;> (try simp only [int_beq, decide_eq_true_eq] at c) <;> first | (have : (_ : Bool) = _ := c; clear this) | (have : ¬ (_ : Bool) = _ := c; clear this) | (replace c := eq_false c; try simp only [List.length_replicate, List.length_set, List.length_nil, List.length_cons, Nat.zero_add] at c) | (replace c := eq_true c; try simp only [List.length_replicate, List.length_set, List.length_nil, List.length_cons, Nat.zero_add] at c)) | (refine bind_k (by assumption) H ?_; clear H; intro H) | (refine bind_e H ?_; clear H; intro _ q H; first | (have q' := e_triviumref02_Cmp q; try simp only [u_nil, ui_nil, List.length_replicate, List.length_set, List.cons_append, List.nil_append] at q') | (have q' := e_triviumref02_MulAdd q; try simp only [u_nil, ui_nil, List.length_replicate, List.length_set, List.cons_append, List.nil_append] at q') | (have q' := e_triviumref02_Sub q; try simp only [u_nil, ui_nil, List.length_replicate, List.length_set, List.cons_append, List.nil_append] at q') | (have q' := e_triviumref02_Trim q; try simp only [u_nil, ui_nil, List.length_replicate, List.length_set, List.cons_append, List.nil_append] at q') | (replace q := Option.some.inj q; subst q) | skip))
  all_goals with_reducible (first | (replace H := Option.some.inj H; subst H) | skip)
  all_goals (try simp only [List.length_replicate, List.length_set] at H)
  all_goals (refine go2 ?_)
  all_goals (first | trivial | skip)
  all_goals first
   |
      (refine X_fuel3 (L := fun n (y : List Int × List Int × List Int × List Int × Int) => triviumref02_Div.l0 n y.1 y.2.1 y.2.2.1 y.2.2.2.1 y.2.2.2.2) (S := fun y s => ∃ j4 j5 m0 j9 j10 j11 j20 j34 j44 v0 g, s = ⟨[(0, (.lst (ui y.1))), (1, (.lst (ui y.2.1))), (4, j4), (5, j5), (6, .ref 0 v0 1 0 m0), (7, (.lst (ui y.2.2.2.1))), (8, (.int .i64 y.2.2.2.2)), (9, j9), (10, j10), (11, j11), (20, j20), (34, j34), (44, j44)], some ⟨v0, 1, ui y.2.2.1⟩ :: g⟩ ∧ m0 = y.2.2.1.length) (fun _ => by simp only [triviumref02_Div.l0]) _ ?_ _ (Nat.le_refl _) (_, _, _, _, _) _ H ⟨_, _, _, _, _, _, _, _, _, _, _, rfl, by simp⟩
       clear H
       rintro nl0 hnl0 ⟨x0, x1, x6, x7, x8⟩ s H ⟨j4, j5, m0, j9, j10, j11, j20, j34, j44, v0, g, rfl, rfl⟩ recl0
       simp only [triviumref02_Div.l0] at H
       repeat' with_reducible (first | (refine none_some H; done) | (refine ite_e H ?_ ?_ <;> clear H <;> intro c H <;> (try simp only [int_beq, decide_eq_true_eq] at c) <;> first | (have : (_ : Bool) = _ := c; clear this) | (have : ¬ (_ : Bool) = _ := c; clear this) | (replace c := eq_false c; try simp only [List.length_replicate, List.length_set, List.length_nil, List.length_cons, Nat.zero_add] at c) | (replace c := eq_true c; try simp only [List.length_replicate, List.length_set, List.length_nil, List.length_cons, Nat.zero_add] at c)) | (refine bind_k (by assumption) H ?_; clear H; intro H) | (refine bind_e H ?_; clear H; intro _ q H; first | (have q' := e_triviumref02_Cmp q; try simp only [u_nil, ui_nil, List.length_replicate, List.length_set, List.cons_append, List.nil_append] at q') | (have q' := e_triviumref02_MulAdd q; try simp only [u_nil, ui_nil, List.length_replicate, List.length_set, List.cons_append, List.nil_append] at q') | (have q' := e_triviumref02_Sub q; try simp only [u_nil, ui_nil, List.length_replicate, List.length_set, List.cons_append, List.nil_append] at q') | (have q' := e_triviumref02_Trim q; try simp only [u_nil, ui_nil, List.length_replicate, List.length_set, List.cons_append, List.nil_append] at q') | (replace q := Option.some.inj q; subst q) | skip))
       all_goals with_reducible (first | (replace H := Option.some.inj H; subst H) | skip)
       all_goals (try simp only [List.length_replicate, List.length_set] at H)
       all_goals (refine go2 ?_)
       all_goals (first | (trivial) | skip)
       all_goals first
        |
          (refine X_fuel3 (L := fun n (y : List Int × List Int × List Int × List Int × Int × Int × Int) => triviumref02_Div.l1 n y.1 y.2.1 y.2.2.1 y.2.2.2.1 y.2.2.2.2.1 y.2.2.2.2.2.1 y.2.2.2.2.2.2) (S := fun y s => ∃ j4 j5 m0 j11 j20 j34 j44 v0 g, s = ⟨[(0, (.lst (ui y.1))), (1, (.lst (ui y.2.1))), (4, j4), (5, j5), (6, .ref 0 v0 1 0 m0), (7, (.lst (ui y.2.2.2.1))), (8, (.int .i64 y.2.2.2.2.1)), (9, (.int .i64 y.2.2.2.2.2.1)), (10, (.int .i64 y.2.2.2.2.2.2)), (11, j11), (20, j20), (34, j34), (44, j44)], some ⟨v0, 1, ui y.2.2.1⟩ :: g⟩ ∧ m0 = y.2.2.1.length) (fun _ => by simp only [triviumref02_Div.l1]) _ ?_ _ (Nat.le_refl _) (_, _, _, _, _, _, _) _ H ⟨_, _, _, _, _, _, _, _, _, rfl, by simp⟩
           clear H
           rintro nl1 hnl1 ⟨x0, x1, x6, x7, x8, x9, x10⟩ s H ⟨j4, j5, m0, j11, j20, j34, j44, v0, g, rfl, rfl⟩ recl1
           simp only [triviumref02_Div.l1] at H
           repeat' with_reducible (first | (refine none_some H; done) | (refine ite_e H ?_ ?_ <;> clear H <;> intro c H <;> (try simp only [int_beq, decide_eq_true_eq] at c) <;> first | (have : (_ : Bool) = _ := c; clear this) | (have : ¬ (_ : Bool) = _ := c; clear this) | (replace c := eq_false c; try simp only [List.length_replicate, List.length_set, List.length_nil, List.length_cons, Nat.zero_add] at c) | (replace c := eq_true c; try simp only [List.length_replicate, List.length_set, List.length_nil, List.length_cons, Nat.zero_add] at c)) | (refine bind_k (by assumption) H ?_; clear H; intro H) | (refine bind_e H ?_; clear H; intro _ q H; first | (have q' := e_triviumref02_Cmp q; try simp only [u_nil, ui_nil, List.length_replicate, List.length_set, List.cons_append, List.nil_append] at q') | (have q' := e_triviumref02_MulAdd q; try simp only [u_nil, ui_nil, List.length_replicate, List.length_set, List.cons_append, List.nil_append] at q') | (have q' := e_triviumref02_Sub q; try simp only [u_nil, ui_nil, List.length_replicate, List.length_set, List.cons_append, List.nil_append] at q') | (have q' := e_triviumref02_Trim q; try simp only [u_nil, ui_nil, List.length_replicate, List.length_set, List.cons_append, List.nil_append] at q') | (replace q := Option.some.inj q; subst q) | skip))
           all_goals with_reducible (first | (replace H := Option.some.inj H; subst H) | skip)
           all_goals (try simp only [List.length_replicate, List.length_set] at H)
           all_goals (refine go2 ?_)
           all_goals (first | (trivial) | (exact recl0 _ (by omega) (_, _, _, _, _) _ H ⟨_, _, _, _, _, _, _, _, _, _, _, rfl, by simp⟩) | (exact recl1 _ (by omega) (_, _, _, _, _, _, _) _ H ⟨_, _, _, _, _, _, _, _, _, rfl, by simp⟩) | skip)))
   | skip
theorem e_triviumref02_Gcd {k : Nat} {l0 : List Int} {l1 : List Int} {r : List Int} (H : triviumref02_Gcd.f k l0 l1 = some r) : CP (CL F) 99 [(.lst (ui l0)), (.lst (ui l1))] = some (.lst (ui r)) := by
  refine CP_X (F := F) (f := 99) rfl rfl ?_
  unfold triviumref02_Gcd.f at H
  repeat' with_reducible (first | (refine none_some H; done) | (refine ite_e H ?_ ?_ <;> clear H <;> intro c H <;> (try simp only [int_beq, decide_eq_true_eq] at c) <;> first | (have : (_ : Bool) = _ := c; clear this) | (have : ¬ (_ : Bool) = _ := c; clear this) | (replace c := eq_false c; try simp only [List.length_replicate, List.length_set, List.length_nil, List.length_cons, Nat.zero_add] at c) | (replace c := eq_true c; try simp only [List.length_replicate, List.length_set, List.length_nil, List.length_cons, Nat.zero_add] at c)) | (refine bind_k (by assumption) H ?_; clear H; intro H) | (refine bind_e H ?_; clear H; intro _ q H; first | (have q' := e_triviumref02_Div q; try simp only [u_nil, ui_nil, List.length_replicate, List.length_set, List.cons_append, List.nil_append] at q') | (replace q := Option.some.inj q; subst q) | skip))
  all_goals with_reducible (first | (replace H := Option.some.inj H; subst H) | skip)
  all_goals (try simp only [List.length_replicate, List.length_set] at H)
  all_goals (refine go2 ?_)
  all_goals (first | trivial | skip)
  all_goals first
   |
      (refine X_fuel3 (L := fun n (y : List Int × List Int) => triviumref02_Gcd.l0 n y.1 y.2) (S := fun y s => ∃ j4 j6 j9 g, s = ⟨[(0, (.lst (ui y.1))), (1, (.lst (ui y.2))), (4, j4), (6, j6), (9, j9)], g⟩) (fun _ => by simp only [triviumref02_Gcd.l0]) _ ?_ _ (Nat.le_refl _) (_, _) _ H ⟨_, _, _, _, rfl⟩
       clear H
       rintro nl0 hnl0 ⟨x0, x1⟩ s H ⟨j4, j6, j9, g, rfl⟩ recl0
       simp only [triviumref02_Gcd.l0] at H
       repeat' with_reducible (first | (refine none_some H; done) | (refine ite_e H ?_ ?_ <;> clear H <;> intro c H <;> (try simp only [int_beq, decide_eq_true_eq] at c) <;> first | (have : (_ : Bool) = _ := c; clear this) | (have : ¬ (_ : Bool) = _ := c; clear this) | (replace c := eq_false c; try simp only [List.length_replicate, List.length_set, List.length_nil, List.length_cons, Nat.zero_add] at c) | (replace c := eq_true c; try simp only [List.length_replicate, List.length_set, List.length_nil, List.length_cons, Nat.zero_add] at c)) | (refine bind_k (by assumption) H ?_; clear H; intro H) | (refine bind_e H ?_; clear H; intro _ q H; first | (have q' := e_triviumref02_Div q; try simp only [u_nil, ui_nil, List.length_replicate, List.length_set, List.cons_append, List.nil_append] at q') | (replace q := Option.some.inj q; subst q) | skip))
       all_goals with_reducible (first | (replace H := Option.some.inj H; subst H) | skip)
       all_goals (try simp only [List.length_replicate, List.length_set] at H)
       all_goals (refine go2 ?_)
       all_goals (first | (trivial) | (exact recl0 _ (by omega) (_, _) _ H ⟨_, _, _, _, rfl⟩) | skip))
   | skip
theorem e_triviumref02_Mul {k : Nat} {l0 : List Int} {l1 : List Int} {r : List Int} (H : triviumref02_Mul.f k l0 l1 = some r) : CP (CL F) 100 [(.lst (ui l0)), (.lst (ui l1))] = some (.lst (ui r)) := by
  refine CP_X (F := F) (f := 100) rfl rfl ?_
  unfold triviumref02_Mul.f at H
  repeat' with_reducible (first | (refine none_some H; done) | (refine ite_e H ?_ ?_ <;> clear H <;> intro c H <;> (try simp only [int_beq, decide_eq_true_eq] at c) <;> first | (have : (_ : Bool) = _ := c; clear this) | (have : ¬ (_ : Bool) = _ := c; clear this) | (replace c := eq_false c; try simp only [List.length_replicate, List.length_set, List.length_nil, List.length_cons, Nat.zero_add] at c) | (replace c := eq_true c; try simp only [List.length_replicate, List.length_set, List.length_nil, List.length_cons, Nat.zero_add] at c)) | (refine bind_k (by assumption) H ?_; clear H; intro H) | (refine bind_e H ?_; clear H; intro _ q H; first | (have q' := e_triviumref02_Trim q; try simp only [u_nil, ui_nil, List.length_replicate, List.length_set, List.cons_append, List.nil_append] at q') | (replace q := Option.some.inj q; subst q) | skip))
  all_goals with_reducible (first | (replace H := Option.some.inj H; subst H) | skip)
  all_goals (try simp only [List.length_replicate, List.length_set] at H)
  all_goals (refine go2 ?_)
  all_goals (first | trivial | skip)
  all_goals first
   |
      (refine X_fuel3 (L := fun n (y : List Int × List Int × List Int × Int) => triviumref02_Mul.l0 n y.1 y.2.1 y.2.2.1 y.2.2.2) (S := fun y s => ∃ j4 m0 j7 j8 j9 j20 j26 j61 v0 g, s = ⟨[(0, (.lst (ui y.1))), (1, (.lst (ui y.2.1))), (4, j4), (5, .ref 0 v0 1 0 m0), (6, (.int .i64 y.2.2.2)), (7, j7), (8, j8), (9, j9), (20, j20), (26, j26), (61, j61)], some ⟨v0, 1, ui y.2.2.1⟩ :: g⟩ ∧ m0 = y.2.2.1.length) (fun _ => by simp only [triviumref02_Mul.l0]) _ ?_ _ (Nat.le_refl _) (_, _, _, _) _ H ⟨_, _, _, _, _, _, _, _, _, _, rfl, by simp⟩
       clear H
       rintro nl0 hnl0 ⟨x0, x1, x5, x6⟩ s H ⟨j4, m0, j7, j8, j9, j20, j26, j61, v0, g, rfl, rfl⟩ recl0
       simp only [triviumref02_Mul.l0] at H
       repeat' with_reducible (first | (refine none_some H; done) | (refine ite_e H ?_ ?_ <;> clear H <;> intro c H <;> (try simp only [int_beq, decide_eq_true_eq] at c) <;> first | (have : (_ : Bool) = _ := c; clear this) | (have : ¬ (_ : Bool) = _ := c; clear this) | (replace c := eq_false c; try simp only [List.length_replicate, List.length_set, List.length_nil, List.length_cons, Nat.zero_add] at c) | (replace c := eq_true c; try simp only [List.length_replicate, List.length_set, List.length_nil, List.length_cons, Nat.zero_add] at c)) | (refine bind_k (by assumption) H ?_; clear H; intro H) | (refine bind_e H ?_; clear H; intro _ q H; first | (have q' := e_triviumref02_Trim q; try simp only [u_nil, ui_nil, List.length_replicate, List.length_set, List.cons_append, List.nil_append] at q') | (replace q := Option.some.inj q; subst q) | skip))
       all_goals with_reducible (first | (replace H := Option.some.inj H; subst H) | skip)
       all_goals (try simp only [List.length_replicate, List.length_set] at H)
       all_goals (refine go2 ?_)
       all_goals (first | (trivial) | skip)
       all_goals first
        |
          (refine X_fuel3 (L := fun n (y : List Int × List Int × List Int × Int × Int × Int) => triviumref02_Mul.l1 n y.1 y.2.1 y.2.2.1 y.2.2.2.1 y.2.2.2.2.1 y.2.2.2.2.2) (S := fun y s => ∃ j4 m0 j9 j20 j26 j61 v0 g, s = ⟨[(0, (.lst (ui y.1))), (1, (.lst (ui y.2.1))), (4, j4), (5, .ref 0 v0 1 0 m0), (6, (.int .i64 y.2.2.2.1)), (7, (.int .i64 y.2.2.2.2.1)), (8, (.int .i64 y.2.2.2.2.2)), (9, j9), (20, j20), (26, j26), (61, j61)], some ⟨v0, 1, ui y.2.2.1⟩ :: g⟩ ∧ m0 = y.2.2.1.length) (fun _ => by simp only [triviumref02_Mul.l1]) _ ?_ _ (Nat.le_refl _) (_, _, _, _, _, _) _ H ⟨_, _, _, _, _, _, _, _, rfl, by simp⟩
           clear H
           rintro nl1 hnl1 ⟨x0, x1, x5, x6, x7, x8⟩ s H ⟨j4, m0, j9, j20, j26, j61, v0, g, rfl, rfl⟩ recl1
           simp only [triviumref02_Mul.l1] at H
           repeat' with_reducible (first | (refine none_some H; done) | (refine ite_e H ?_ ?_ <;> clear H <;> intro c H <;> (try simp only [int_beq, decide_eq_true_eq] at c) <;> first | (have : (_ : Bool) = _ := c; clear this) | (have : ¬ (_ : Bool) = _ := c; clear this) | (replace c := eq_false c; try simp only [List.length_replicate, List.length_set, List.length_nil, List.length_cons, Nat.zero_add] at c) | (replace c := eq_true c; try simp only [List.length_replicate, List.length_set, List.length_nil, List.length_cons, Nat.zero_add] at c)) | (refine bind_k (by assumption) H ?_; clear H; intro H) | (refine bind_e H ?_; clear H; intro _ q H; first | (have q' := e_triviumref02_Trim q; try simp only [u_nil, ui_nil, List.length_replicate, List.length_set, List.cons_append, List.nil_append] at q') | (replace q := Option.some.inj q; subst q) | skip))
           all_goals with_reducible (first | (replace H := Option.some.inj H; subst H) | skip)
           all_goals (try simp only [List.length_replicate, List.length_set] at H)
           all_goals (refine go2 ?_)
           all_goals (first | (trivial) | (exact recl1 _ (by omega) (_, _, _, _, _, _) _ H ⟨_, _, _, _, _, _, _, _, rfl, by simp⟩) | skip)
           all_goals first
            |
              (refine X_fuel3 (L := fun n (y : List Int × List Int × List Int × Int × Int × Int) => triviumref02_Mul.l2 n y.1 y.2.1 y.2.2.1 y.2.2.2.1 y.2.2.2.2.1 y.2.2.2.2.2) (S := fun y s => ∃ j4 m0 j8 j20 j26 j61 v0 g, s = ⟨[(0, (.lst (ui y.1))), (1, (.lst (ui y.2.1))), (4, j4), (5, .ref 0 v0 1 0 m0), (6, (.int .i64 y.2.2.2.1)), (7, (.int .i64 y.2.2.2.2.1)), (8, j8), (9, (.int .i64 y.2.2.2.2.2)), (20, j20), (26, j26), (61, j61)], some ⟨v0, 1, ui y.2.2.1⟩ :: g⟩ ∧ m0 = y.2.2.1.length) (fun _ => by simp only [triviumref02_Mul.l2]) _ ?_ _ (Nat.le_refl _) (_, _, _, _, _, _) _ H ⟨_, _, _, _, _, _, _, _, rfl, by simp⟩
               clear H
               rintro nl2 hnl2 ⟨x0, x1, x5, x6, x7, x9⟩ s H ⟨j4, m0, j8, j20, j26, j61, v0, g, rfl, rfl⟩ recl2
               simp only [triviumref02_Mul.l2] at H
               repeat' with_reducible (first | (refine none_some H; done) | (refine ite_e H ?_ ?_ <;> clear H <;> intro c H <;> (try simp only [int_beq, decide_eq_true_eq] at c) <;> first | (have : (_ : Bool) = _ := c; clear this) | (have : ¬ (_ : Bool) = _ := c; clear this) | (replace c := eq_false c; try simp only [List.length_replicate, List.length_set, List.length_nil, List.length_cons, Nat.zero_add] at c) | (replace c := eq_true c; try simp only [List.length_replicate, List.length_set, List.length_nil, List.length_cons, Nat.zero_add] at c)) | (refine bind_k (by assumption) H ?_; clear H; intro H) | (refine bind_e H ?_; clear H; intro _ q H; first | (have q' := e_triviumref02_Trim q; try simp only [u_nil, ui_nil, List.length_replicate, List.length_set, List.cons_append, List.nil_append] at q') | (replace q := Option.some.inj q; subst q) | skip))
               all_goals with_reducible (first | (replace H := Option.some.inj H; subst H) | skip)
               all_goals (try simp only [List.length_replicate, List.length_set] at H)
               all_goals (refine go2 ?_)
               all_goals (first | (trivial) | (exact recl0 _ (by omega) (_, _, _, _) _ H ⟨_, _, _, _, _, _, _, _, _, _, rfl, by simp⟩) | (exact recl2 _ (by omega) (_, _, _, _, _, _) _ H ⟨_, _, _, _, _, _, _, _, rfl, by simp⟩) | skip))))
   | skip
end Go.S

end
section
set_option linter.unusedVariables false
set_option linter.unusedSimpArgs false
set_option maxRecDepth 100000
namespace Go.S
open Go Go.AM Go.RowKit Go.K
theorem divide_guess_j1_e {n : Nat} {x0 : List Int} {x1 : Int} {x2 : List Int} {x7 : Int} {x9 : Int} {x10 : Int} {x63 : Bool} {r} {p : Prop} (h : divide_guess.j1 n x0 x1 x2 x7 x9 x10 x63 = some r) (h1 : ∀ m, m < n → divide_guess.j1 (m + 1) x0 x1 x2 x7 x9 x10 x63 = some r → p) : p := by
  cases n with
  | zero => simp [divide_guess.j1] at h
  | succ m => exact h1 m (by omega) h
theorem r_divide_guess {k : Nat} {l0 : List Int} {a1 : Int} {l2 : List Int} {r : Int} (H : divide_guess.f k l0 a1 l2 = some r) {h : Heap} {i v m : Nat} (hb : h[i]? = some (some ⟨v, 1, u l0⟩)) (hm : m = l0.length) :
    CL F 173 [.ref i v 1 0 m, .int .i64 a1, .lst (u l2)] h = some (.int .u64 r, h) := by
  subst hm
  refine CL_X (F := F) (f := 173) rfl rfl ?_
  unfold divide_guess.f at H
  repeat' with_reducible (first | (refine none_some H; done) | (refine ite_e H ?_ ?_ <;> clear H <;> intro c H <;> (try simp only [int_beq, decide_eq_true_eq] at c) <;> first | (have : (_ : Bool) = _ := c; clear this) | (have : ¬ (_ : Bool) = _ := c; clear this) | (replace c := eq_false c; try simp only [List.length_replicate, List.length_set, List.length_nil, List.length_cons, Nat.zero_add] at c) | (replace c := eq_true c; try simp only [List.length_replicate, List.length_set, List.length_nil, List.length_cons, Nat.zero_add] at c)) | (refine bind_k (by assumption) H ?_; clear H; intro H) | (refine bind_e H ?_; clear H; intro _ q H; first | (replace q := Option.some.inj q; subst q) | skip))
  all_goals with_reducible (first | (replace H := Option.some.inj H; subst H) | skip)
  all_goals (try simp only [List.length_replicate, List.length_set] at H)
  all_goals (refine go2 ?_)
  refine X_fuel3 (L := fun n (y : Int × Int × Int) => divide_guess.l0 n l0 a1 l2 y.1 y.2.1 y.2.2) (S := fun y s => ∃ j6 j8 j63 j74, s = ⟨[(0, .ref i v 1 0 l0.length), (1, (.int .i64 a1)), (2, (.lst (u l2))), (6, j6), (7, (.int .i64 y.1)), (8, j8), (9, (.int .u64 y.2.1)), (10, (.int .u64 y.2.2)), (63, j63), (74, j74)], h⟩) (fun _ => by simp only [divide_guess.l0]) _ ?_ _ (Nat.le_refl _) (_, _, _) _ H ⟨_, _, _, _, rfl⟩
  clear H
  rintro nl0 hnl0 ⟨x7, x9, x10⟩ s H ⟨j6, j8, j63, j74, rfl⟩ recl0
  simp only [divide_guess.l0] at H
  repeat' with_reducible (first | (refine none_some H; done) | (refine ite_e H ?_ ?_ <;> clear H <;> intro c H <;> (try simp only [int_beq, decide_eq_true_eq] at c) <;> first | (have : (_ : Bool) = _ := c; clear this) | (have : ¬ (_ : Bool) = _ := c; clear this) | (replace c := eq_false c; try simp only [List.length_replicate, List.length_set, List.length_nil, List.length_cons, Nat.zero_add] at c) | (replace c := eq_true c; try simp only [List.length_replicate, List.length_set, List.length_nil, List.length_cons, Nat.zero_add] at c)) | (refine bind_k (by assumption) H ?_; clear H; intro H) | (refine bind_e H ?_; clear H; intro _ q H; first | (replace q := Option.some.inj q; subst q) | skip) | (refine divide_guess_j1_e H ?_; clear H; intro _ _ H; simp only [divide_guess.j1] at H))
  all_goals with_reducible (first | (replace H := Option.some.inj H; subst H) | skip)
  all_goals (try simp only [List.length_replicate, List.length_set] at H)
  all_goals (refine go2 ?_)
  all_goals (first | (trivial) | (exact recl0 _ (by omega) (_, _, _) _ H ⟨_, _, _, _, rfl⟩))
theorem r_divide_take {k : Nat} {l0 : List Int} {a1 : Int} {l2 : List Int} {a3 : Int} {r : Bool × List Int} (H : divide_take.f k l0 a1 l2 a3 = some r) {h : Heap} {i v m : Nat} (hb : h[i]? = some (some ⟨v, 1, u l0⟩)) (hm : m = l0.length) :
    CL F 174 [.ref i v 1 0 m, .int .i64 a1, .lst (u l2), .int .u64 a3] h = some (.bool r.1, h.set i (some ⟨v, 1, u r.2⟩)) := by
  subst hm
  have hi : i < h.length := by rcases Nat.lt_or_ge i h.length with hi | hi; exact hi; rw [List.getElem?_eq_none hi] at hb; cases hb
  have hg : ∀ x : Option Blk, (h.set i x)[i]? = some x := fun x => by rw [List.getElem?_set_self hi]
  have hs : ∀ x y : Option Blk, (h.set i x).set i y = h.set i y := fun x y => List.set_set x
  have h0 : h = h.set i (some ⟨v, 1, u l0⟩) := by rw [List.getElem?_eq_getElem hi] at hb; rw [← Option.some.inj hb, List.set_getElem_self]
  rw [show CL F 174 [.ref i v 1 0 l0.length, .int .i64 a1, .lst (u l2), .int .u64 a3] h = CL F 174 [.ref i v 1 0 l0.length, .int .i64 a1, .lst (u l2), .int .u64 a3] (h.set i (some ⟨v, 1, u l0⟩)) by rw [← h0]]
  clear h0 hb
  refine CL_X (F := F) (f := 174) rfl rfl ?_
  unfold divide_take.f at H
  repeat' with_reducible (first | (refine none_some H; done) | (refine ite_e H ?_ ?_ <;> clear H <;> intro c H <;> (try simp only [int_beq, decide_eq_true_eq] at c) <;> first | (have : (_ : Bool) = _ := c; clear this) | (have : ¬ (_ : Bool) = _ := c; clear this) | (replace c := eq_false c; try simp only [List.length_replicate, List.length_set, List.length_nil, List.length_cons, Nat.zero_add] at c) | (replace c := eq_true c; try simp only [List.length_replicate, List.length_set, List.length_nil, List.length_cons, Nat.zero_add] at c)) | (refine bind_k (by assumption) H ?_; clear H; intro H) | (refine bind_e H ?_; clear H; intro _ q H; first | (replace q := Option.some.inj q; subst q) | skip))
  all_goals with_reducible (first | (replace H := Option.some.inj H; subst H) | skip)
  all_goals (try simp only [List.length_replicate, List.length_set] at H)
  all_goals (refine go2 ?_)
  refine X_fuel3 (L := fun n (y : List Int × Int × Int × Int × Int) => divide_take.l0 n y.1 a1 l2 a3 y.2.1 y.2.2.1 y.2.2.2.1 y.2.2.2.2) (S := fun y s => ∃ j8 j11 j12 j17, s = ⟨[(0, .ref i v 1 0 l0.length), (1, (.int .i64 a1)), (2, (.lst (u l2))), (3, (.int .u64 a3)), (8, j8), (9, (.int .u64 y.2.1)), (10, (.int .u64 y.2.2.1)), (11, j11), (12, j12), (15, (.int .i64 y.2.2.2.1)), (16, (.int .i64 y.2.2.2.2)), (17, j17)], h.set i (some ⟨v, 1, u y.1⟩)⟩ ∧ y.1.length = l0.length) (fun _ => by simp only [divide_take.l0]) _ ?_ _ (Nat.le_refl _) (_, _, _, _, _) _ H ⟨_, _, _, _, rfl, rfl⟩
  clear H
  rintro nl0 hnl0 ⟨x0, x9, x10, x15, x16⟩ s H ⟨j8, j11, j12, j17, rfl, hl⟩ recl0
  simp only [divide_take.l0] at H
  simp only at hl
  rw [← hl]
  rw [← hl] at recl0
  clear hl
  repeat' with_reducible (first | (refine none_some H; done) | (refine ite_e H ?_ ?_ <;> clear H <;> intro c H <;> (try simp only [int_beq, decide_eq_true_eq] at c) <;> first | (have : (_ : Bool) = _ := c; clear this) | (have : ¬ (_ : Bool) = _ := c; clear this) | (replace c := eq_false c; try simp only [List.length_replicate, List.length_set, List.length_nil, List.length_cons, Nat.zero_add] at c) | (replace c := eq_true c; try simp only [List.length_replicate, List.length_set, List.length_nil, List.length_cons, Nat.zero_add] at c)) | (refine bind_k (by assumption) H ?_; clear H; intro H) | (refine bind_e H ?_; clear H; intro _ q H; first | (have q' := e_divide_at q; try simp only [u_nil, ui_nil, List.length_replicate, List.length_set, List.cons_append, List.nil_append] at q') | (have q' := e_limb_Mul q; try simp only [u_nil, ui_nil, List.length_replicate, List.length_set, List.cons_append, List.nil_append] at q') | (have q' := e_limb_Sub q; try simp only [u_nil, ui_nil, List.length_replicate, List.length_set, List.cons_append, List.nil_append] at q') | (replace q := Option.some.inj q; subst q) | skip))
  all_goals with_reducible (first | (replace H := Option.some.inj H; subst H) | skip)
  all_goals (try simp only [List.length_replicate, List.length_set] at H)
  all_goals (refine go2 ?_)
  all_goals (first | (trivial) | (exact recl0 _ (by omega) (_, _, _, _, _) _ H ⟨_, _, _, _, rfl, by simp⟩))
theorem r_divide_give {k : Nat} {l0 : List Int} {a1 : Int} {l2 : List Int}  {r : List Int} (H : divide_give.f k l0 a1 l2 = some r) {h : Heap} {i v m : Nat} (hb : h[i]? = some (some ⟨v, 1, u l0⟩)) (hm : m = l0.length) :
    CL F 175 [.ref i v 1 0 m, .int .i64 a1, .lst (u l2)] h = some (.tup [], h.set i (some ⟨v, 1, u r⟩)) := by
  subst hm
  have hi : i < h.length := by rcases Nat.lt_or_ge i h.length with hi | hi; exact hi; rw [List.getElem?_eq_none hi] at hb; cases hb
  have hg : ∀ x : Option Blk, (h.set i x)[i]? = some x := fun x => by rw [List.getElem?_set_self hi]
  have hs : ∀ x y : Option Blk, (h.set i x).set i y = h.set i y := fun x y => List.set_set x
  have h0 : h = h.set i (some ⟨v, 1, u l0⟩) := by rw [List.getElem?_eq_getElem hi] at hb; rw [← Option.some.inj hb, List.set_getElem_self]
  rw [show CL F 175 [.ref i v 1 0 l0.length, .int .i64 a1, .lst (u l2)] h = CL F 175 [.ref i v 1 0 l0.length, .int .i64 a1, .lst (u l2)] (h.set i (some ⟨v, 1, u l0⟩)) by rw [← h0]]
  clear h0 hb
  refine CL_X (F := F) (f := 175) rfl rfl ?_
  unfold divide_give.f at H
  repeat' with_reducible (first | (refine none_some H; done) | (refine ite_e H ?_ ?_ <;> clear H <;> intro c H <;> (try simp only [int_beq, decide_eq_true_eq] at c) <;> first | (have : (_ : Bool) = _ := c; clear this) | (have : ¬ (_ : Bool) = _ := c; clear this) | (replace c := eq_false c; try simp only [List.length_replicate, List.length_set, List.length_nil, List.length_cons, Nat.zero_add] at c) | (replace c := eq_true c; try simp only [List.length_replicate, List.length_set, List.length_nil, List.length_cons, Nat.zero_add] at c)) | (refine bind_k (by assumption) H ?_; clear H; intro H) | (refine bind_e H ?_; clear H; intro _ q H; first | (replace q := Option.some.inj q; subst q) | skip))
  all_goals with_reducible (first | (replace H := Option.some.inj H; subst H) | skip)
  all_goals (try simp only [List.length_replicate, List.length_set] at H)
  all_goals (refine go2 ?_)
  refine X_fuel3 (L := fun n (y : List Int × Int × Int × Int) => divide_give.l0 n y.1 a1 l2 y.2.1 y.2.2.1 y.2.2.2) (S := fun y s => ∃ j7 j12, s = ⟨[(0, .ref i v 1 0 l0.length), (1, (.int .i64 a1)), (2, (.lst (u l2))), (6, (.int .u64 y.2.1)), (7, j7), (10, (.int .i64 y.2.2.1)), (11, (.int .i64 y.2.2.2)), (12, j12)], h.set i (some ⟨v, 1, u y.1⟩)⟩ ∧ y.1.length = l0.length) (fun _ => by simp only [divide_give.l0]) _ ?_ _ (Nat.le_refl _) (_, _, _, _) _ H ⟨_, _, rfl, rfl⟩
  clear H
  rintro nl0 hnl0 ⟨x0, x6, x10, x11⟩ s H ⟨j7, j12, rfl, hl⟩ recl0
  simp only [divide_give.l0] at H
  simp only at hl
  rw [← hl]
  rw [← hl] at recl0
  clear hl
  repeat' with_reducible (first | (refine none_some H; done) | (refine ite_e H ?_ ?_ <;> clear H <;> intro c H <;> (try simp only [int_beq, decide_eq_true_eq] at c) <;> first | (have : (_ : Bool) = _ := c; clear this) | (have : ¬ (_ : Bool) = _ := c; clear this) | (replace c := eq_false c; try simp only [List.length_replicate, List.length_set, List.length_nil, List.length_cons, Nat.zero_add] at c) | (replace c := eq_true c; try simp only [List.length_replicate, List.length_set, List.length_nil, List.length_cons, Nat.zero_add] at c)) | (refine bind_k (by assumption) H ?_; clear H; intro H) | (refine bind_e H ?_; clear H; intro _ q H; first | (have q' := e_divide_at q; try simp only [u_nil, ui_nil, List.length_replicate, List.length_set, List.cons_append, List.nil_append] at q') | (have q' := e_limb_Add q; try simp only [u_nil, ui_nil, List.length_replicate, List.length_set, List.cons_append, List.nil_append] at q') | (replace q := Option.some.inj q; subst q) | skip))
  all_goals with_reducible (first | (replace H := Option.some.inj H; subst H) | skip)
  all_goals (try simp only [List.length_replicate, List.length_set] at H)
  all_goals (refine go2 ?_)
  all_goals (first | (trivial) | (exact recl0 _ (by omega) (_, _, _, _) _ H ⟨_, _, rfl, by simp⟩))
theorem divide_take_len {x1 : Int} {x2 : List Int} {x3 : Int} {r : Bool × List Int} : ∀ (n : Nat) (x0 : List Int) (x9 x10 x15 x16 : Int), divide_take.l0 n x0 x1 x2 x3 x9 x10 x15 x16 = some r → r.2.length = x0.length := by
  intro n
  induction n with
  | zero => intro x0 x9 x10 x15 x16 H; simp [divide_take.l0] at H
  | succ n ih =>
    intro x0 x9 x10 x15 x16 H
    simp only [divide_take.l0] at H
    repeat' with_reducible (first | (refine none_some H; done) | (refine ite_e H ?_ ?_ <;> clear H <;> intro c H) | (refine bind_e H ?_; clear H; intro _ q H))
    · rw [ih _ _ _ _ _ H, List.length_set]
    · cases H; rfl
theorem divide_give_len {x1 : Int} {x2 : List Int} {r : List Int} : ∀ (n : Nat) (x0 : List Int) (x6 x10 x11 : Int), divide_give.l0 n x0 x1 x2 x6 x10 x11 = some r → r.length = x0.length := by
  intro n
  induction n with
  | zero => intro x0 x6 x10 x11 H; simp [divide_give.l0] at H
  | succ n ih =>
    intro x0 x6 x10 x11 H
    simp only [divide_give.l0] at H
    repeat' with_reducible (first | (refine none_some H; done) | (refine ite_e H ?_ ?_ <;> clear H <;> intro c H) | (refine bind_e H ?_; clear H; intro _ q H))
    · rw [ih _ _ _ _ H, List.length_set]
    · cases H; rfl
theorem r_divide_guess0 {k : Nat} {l0 : List Int} {a1 : Int} {l2 : List Int} {r : Int} (H : divide_guess.f k l0 a1 l2 = some r) (v : Nat) : ∀ h : Heap, h[0]? = some (some ⟨v, 1, u l0⟩) → CL F 173 [.ref 0 v 1 0 l0.length, .int .i64 a1, .lst (u l2)] h = some (.int .u64 r, h) := fun h hb => r_divide_guess H hb rfl
theorem r_divide_take0 {k : Nat} {l0 : List Int} {a1 : Int} {l2 : List Int} {a3 : Int} {r : Bool × List Int} (H : divide_take.f k l0 a1 l2 a3 = some r) (v : Nat) : r.2.length = l0.length ∧ ∀ h : Heap, h[0]? = some (some ⟨v, 1, u l0⟩) → CL F 174 [.ref 0 v 1 0 l0.length, .int .i64 a1, .lst (u l2), .int .u64 a3] h = some (.bool r.1, h.set 0 (some ⟨v, 1, u r.2⟩)) := ⟨divide_take_len _ _ _ _ _ _ H, fun h hb => r_divide_take H hb rfl⟩
theorem r_divide_give0 {k : Nat} {l0 : List Int} {a1 : Int} {l2 : List Int} {r : List Int} (H : divide_give.f k l0 a1 l2 = some r) (v : Nat) {m : Nat} (hm : l0.length = m) : r.length = m ∧ ∀ h : Heap, h[0]? = some (some ⟨v, 1, u l0⟩) → CL F 175 [.ref 0 v 1 0 m, .int .i64 a1, .lst (u l2)] h = some (.tup [], h.set 0 (some ⟨v, 1, u r⟩)) := ⟨by rw [← hm]; exact divide_give_len _ _ _ _ _ H, fun h hb => r_divide_give H hb hm.symm⟩
theorem e_divide_knuth {k : Nat} {l0 : List Int} {l1 : List Int} {r : List Int × List Int} (H : divide_knuth.f k l0 l1 = some r) : CP (CL F) 161 [(.lst (u l0)), (.lst (u l1))] = some (.tup [(.lst (u r.1)), (.lst (u r.2))]) := by
  refine CP_X (F := F) (f := 161) rfl rfl ?_
  unfold divide_knuth.f at H
  repeat' with_reducible (first | (refine none_some H; done) | (refine ite_e H ?_ ?_ <;> clear H <;> intro c H <;> (try simp only [int_beq, decide_eq_true_eq] at c) <;> first | (have : (_ : Bool) = _ := c; clear this) | (have : ¬ (_ : Bool) = _ := c; clear this) | (replace c := eq_false c; try simp only [List.length_replicate, List.length_set, List.length_nil, List.length_cons, Nat.zero_add] at c) | (replace c := eq_true c; try simp only [List.length_replicate, List.length_set, List.length_nil, List.length_cons, Nat.zero_add] at c)) | (refine bind_k (by assumption) H ?_; clear H; intro H) | (refine bind_e H ?_; clear H; intro _ q H; first | (have q' := e_limb_Bits q; try simp only [u_nil, ui_nil, List.length_replicate, List.length_set, List.cons_append, List.nil_append] at q') | (have q' := e_nat_Make q; try simp only [u_nil, ui_nil, List.length_replicate, List.length_set, List.cons_append, List.nil_append] at q') | (have q' := e_nat_Shl q; try simp only [u_nil, ui_nil, List.length_replicate, List.length_set, List.cons_append, List.nil_append] at q') | (have q' := e_nat_Shr q; try simp only [u_nil, ui_nil, List.length_replicate, List.length_set, List.cons_append, List.nil_append] at q') | (replace q := Option.some.inj q; subst q) | skip))
  all_goals with_reducible (first | (replace H := Option.some.inj H; subst H) | skip)
  all_goals (try simp only [List.length_replicate, List.length_set] at H)
  all_goals (refine go2 ?_)
  simp only [tk_0, nl_app, nz_sub, nz_add] at H
  refine X_fuel3 (L := fun n (y : Int × List Int × List Int × List Int × Int) => divide_knuth.l0 n y.1 y.2.1 y.2.2.1 y.2.2.2.1 y.2.2.2.2) (S := fun y s => ∃ j4 j5 m0 j10 m1 j14 j16 j58 j75 v0 v1 g, s = ⟨[(0, (.lst (u l0))), (1, (.lst (u l1))), (4, j4), (5, j5), (6, (.int .i64 y.1)), (7, (.lst (u y.2.1))), (9, .ref 0 v0 1 0 m0), (10, j10), (12, .ref 1 v1 1 0 m1), (13, (.int .i64 y.2.2.2.2)), (14, j14), (16, j16), (58, j58), (75, j75)], some ⟨v0, 1, u y.2.2.1⟩ :: some ⟨v1, 1, u y.2.2.2.1⟩ :: g⟩ ∧ m0 = y.2.2.1.length ∧ m1 = y.2.2.2.1.length) (fun _ => by simp only [divide_knuth.l0]) _ ?_ _ (Nat.le_refl _) (_, _, _, _, _) _ H ⟨_, _, _, _, _, _, _, _, _, _, _, _, rfl, by simp; omega, by simp⟩
  clear H
  rintro nl0 hnl0 ⟨x6, x7, x9, x12, x13⟩ s H ⟨j4, j5, m0, j10, m1, j14, j16, j58, j75, v0, v1, g, rfl, rfl, rfl⟩ recl0
  simp only [divide_knuth.l0] at H
  repeat' with_reducible (first | (refine none_some H; done) | (refine ite_e H ?_ ?_ <;> clear H <;> intro c H <;> (try simp only [int_beq, decide_eq_true_eq] at c) <;> first | (have : (_ : Bool) = _ := c; clear this) | (have : ¬ (_ : Bool) = _ := c; clear this) | (replace c := eq_false c; try simp only [List.length_replicate, List.length_set, List.length_nil, List.length_cons, Nat.zero_add] at c) | (replace c := eq_true c; try simp only [List.length_replicate, List.length_set, List.length_nil, List.length_cons, Nat.zero_add] at c)) | (refine bind_k (by assumption) H ?_; clear H; intro H) | (refine bind_e H ?_; clear H; intro _ q H; first
     | (have q' := r_divide_guess0 q v0)
     | (have q' := r_divide_take0 q v0; have ql := q'.1; replace q' := q'.2)
     | (have q' := r_divide_give0 q v0 ql; have ql' := q'.1; replace q' := q'.2)
     | (have q' := e_nat_Make q) | (have q' := e_nat_Shr q) | (replace q := Option.some.inj q; subst q) | skip))
  all_goals with_reducible (first | (replace H := Option.some.inj H; subst H) | skip)
  all_goals (try simp only [List.length_replicate, List.length_set] at H)
  all_goals (refine go2 ?_)
  all_goals (first | (trivial) | (exact recl0 _ (by omega) (_, _, _, _, _) _ H ⟨_, _, _, _, _, _, _, _, _, _, _, _, rfl, by first | rfl | simp only [ql'] | simp only [ql], by first | rfl | simp only [List.length_set]⟩))
def ul (l : List (List Int)) : List AV := l.map fun x => .lst (u x)
theorem ul_len (l : List (List Int)) : (ul l).length = l.length := by simp [ul]
theorem ul_get (l : List (List Int)) (i : Int) (h0 : 0 ≤ i) (h1 : i < (l.length : Int)) : (ul l)[i.toNat]? = some (.lst (u (rdl l i))) := by
  have : i.toNat < l.length := by omega
  simp [ul, rdl, List.getElem?_eq_getElem this, List.getD]
theorem e_nat_Sum {k : Nat} {l0 : List (List Int)} {r : List Int} (H : nat_Sum.f k l0 = some r) : CP (CL F) 165 [.lst (ul l0)] = some (.lst (u r)) := by
  refine CP_X (F := F) (f := 165) rfl rfl ?_
  have hul := ul_len
  have hug := ul_get
  unfold nat_Sum.f at H
  refine go2 ?_
  refine X_fuel3 (L := fun n (y : List Int × Int × Int) => nat_Sum.l0 n y.1 l0 y.2.1 y.2.2) (S := fun y s => ∃ j2 j5 j9 t, fz [] t = some (.lst (u y.1)) ∧ used [] deep t = [] ∧ s = ⟨[(0, .lst (ul l0)), (2, j2), (3, t), (5, j5), (6, .lst (ul l0)), (7, .int .i64 y.2.1), (8, .int .i64 y.2.2), (9, j9)], []⟩) (fun _ => by simp only [nat_Sum.l0]) _ ?_ _ (Nat.le_refl _) (_, _, _) _ H ⟨_, _, _, .nil, rfl, rfl, rfl⟩
  clear H
  rintro nl0 hnl0 ⟨x3, x7, x8⟩ s H ⟨j2, j5, j9, t, ht, hu, rfl⟩ recl0
  simp only [nat_Sum.l0] at H
  repeat' with_reducible (first | (refine none_some H; done) | (refine ite_e H ?_ ?_ <;> clear H <;> intro c H <;> (try simp only [int_beq, decide_eq_true_eq] at c) <;> first | (have : (_ : Bool) = _ := c; clear this) | (have : ¬ (_ : Bool) = _ := c; clear this) | (replace c := eq_false c; try simp only [List.length_replicate, List.length_set, List.length_nil, List.length_cons, Nat.zero_add] at c) | (replace c := eq_true c; try simp only [List.length_replicate, List.length_set, List.length_nil, List.length_cons, Nat.zero_add] at c)) | (refine bind_k (by assumption) H ?_; clear H; intro H) | (refine bind_e H ?_; clear H; intro _ q H; first | (have q' := e_nat_Add q; try simp only [u_nil, ui_nil, List.length_replicate, List.length_set, List.cons_append, List.nil_append] at q') | (replace q := Option.some.inj q; subst q) | skip))
  all_goals with_reducible (first | (replace H := Option.some.inj H; subst H) | skip)
  all_goals (try simp only [List.length_replicate, List.length_set] at H)
  all_goals (refine go2 ?_)
  all_goals (first | trivial | exact recl0 _ (by omega) (_, _, _) _ H ⟨_, _, _, _, rfl, rfl, rfl⟩)
theorem fz3 {h : Heap} {v s : Nat} {a b c : List Int} : fzR (frz h 6) (some (some ⟨v, s, [.lst (u a), .lst (u b), .lst (u c)]⟩)) v 0 3 = some (.lst (ul [a, b, c])) := fzR_p (n := 4) rfl
theorem us3 {h : Heap} {id v s : Nat} {a b c : List Int} : usR (used h 6) (some (some ⟨v, s, [.lst (u a), .lst (u b), .lst (u c)]⟩)) id v 0 3 = [id] := usR_p (n := 4) rfl
theorem e_mul_Short : ∀ {k : Nat} {l0 l1 : List Int} {r : List Int}, mul_Short.f k l0 l1 = some r → CP (CL F) 143 [.lst (u l0), .lst (u l1)] = some (.lst (u r)) := by
  intro k
  induction k with
  | zero => intro l0 l1 r H; simp [mul_Short.f] at H
  | succ k ih =>
  intro l0 l1 r H
  refine CP_X (F := F) (f := 143) rfl rfl ?_
  have hf3 := @fz3
  have hu3 := @us3
  simp only [mul_Short.f] at H
  repeat' with_reducible (first | (refine none_some H; done) | (refine ite_e H ?_ ?_ <;> clear H <;> intro c H <;> (try simp only [int_beq, decide_eq_true_eq] at c) <;> first | (have : (_ : Bool) = _ := c; clear this) | (have : ¬ (_ : Bool) = _ := c; clear this) | (replace c := eq_false c; try simp only [List.length_replicate, List.length_set, List.length_nil, List.length_cons, Nat.zero_add] at c) | (replace c := eq_true c; try simp only [List.length_replicate, List.length_set, List.length_nil, List.length_cons, Nat.zero_add] at c)) | (refine bind_k (by assumption) H ?_; clear H; intro H) | (refine bind_e H ?_; clear H; intro _ q H; first | (have q' := ih q; try simp only [u_nil, ui_nil, List.length_replicate, List.length_set, List.cons_append, List.nil_append] at q') | (have q' := e_mul_Long q; try simp only [u_nil, ui_nil, List.length_replicate, List.length_set, List.cons_append, List.nil_append] at q') | (have q' := e_mul_cut q; try simp only [u_nil, ui_nil, List.length_replicate, List.length_set, List.cons_append, List.nil_append] at q') | (have q' := e_nat_Add q; try simp only [u_nil, ui_nil, List.length_replicate, List.length_set, List.cons_append, List.nil_append] at q') | (have q' := e_nat_Sub q; try simp only [u_nil, ui_nil, List.length_replicate, List.length_set, List.cons_append, List.nil_append] at q') | (have q' := e_mul_up q; try simp only [u_nil, ui_nil, List.length_replicate, List.length_set, List.cons_append, List.nil_append] at q') | (have q' := e_nat_Sum q; try simp only [u_nil, ui_nil, List.length_replicate, List.length_set, List.cons_append, List.nil_append] at q') | (replace q := Option.some.inj q; subst q) | skip))
  all_goals with_reducible (first | (replace H := Option.some.inj H; subst H) | skip)
  all_goals (try simp only [List.length_replicate, List.length_set] at H)
  all_goals clear ih
  all_goals (refine go2 ?_)
  all_goals trivial
theorem triviumref02_Clean_j1_e {n : Nat} {x5 : List Int} {r} {p : Prop} (h : triviumref02_Clean.j1 n x5 = some r) (h1 : ∀ m, m < n → triviumref02_Clean.j1 (m + 1) x5 = some r → p) : p := by
  cases n with
  | zero => simp [triviumref02_Clean.j1] at h
  | succ m => exact h1 m (by omega) h
theorem rd_take (l : List Int) (m : Nat) (i : Int) (h0 : 0 ≤ i) (h1 : i < (m : Int)) : rd (l.take m) i = rd l i := by
  unfold rd
  simp only [List.getD_eq_getElem?_getD]
  rw [List.getElem?_take_of_lt (by omega)]
theorem e_triviumref02_Clean {k : Nat} {l0 : List Int} {a1 : Int} {r : List Int} (H : triviumref02_Clean.f k l0 a1 = some r) : CP (CL F) 135 [(.lst (u l0)), (.int .i64 a1)] = some (.lst (u r)) := by
  refine CP_X (F := F) (f := 135) rfl rfl ?_
  unfold triviumref02_Clean.f at H
  refine go2 ?_
  refine X_fuel3 (L := fun n (y : List Int × Int) => triviumref02_Clean.l0 n l0 a1 y.1 y.2) (S := fun y s => ∃ j4 m0 j16 j38 v0 g, s = ⟨[(0, (.lst (u l0))), (1, (.int .i64 a1)), (4, j4), (5, .ref 0 v0 1 0 m0), (6, (.int .i64 y.2)), (16, j16), (38, j38)], some ⟨v0, 1, u y.1⟩ :: g⟩ ∧ m0 = y.1.length) (fun _ => by simp only [triviumref02_Clean.l0]) _ ?_ _ (Nat.le_refl _) (_, _) _ H ⟨_, _, _, _, _, _, rfl, by simp⟩
  clear H
  rintro nl0 hnl0 ⟨x5, x6⟩ s H ⟨j4, m0, j16, j38, v0, g, rfl, rfl⟩ recl0
  simp only [triviumref02_Clean.l0] at H
  repeat' with_reducible (first | (refine none_some H; done) | (refine ite_e H ?_ ?_ <;> clear H <;> intro c H <;> (try simp only [int_beq, decide_eq_true_eq] at c) <;> first | (have : (_ : Bool) = _ := c; clear this) | (have : ¬ (_ : Bool) = _ := c; clear this) | (replace c := eq_false c; try simp only [List.length_replicate, List.length_set, List.length_nil, List.length_cons, Nat.zero_add] at c) | (replace c := eq_true c; try simp only [List.length_replicate, List.length_set, List.length_nil, List.length_cons, Nat.zero_add] at c)) | (refine bind_k (by assumption) H ?_; clear H; intro H) | (refine bind_e H ?_; clear H; intro _ q H; first | (replace q := Option.some.inj q; subst q) | skip) | (refine triviumref02_Clean_j1_e H ?_; clear H; intro _ _ H; simp only [triviumref02_Clean.j1] at H))
  all_goals with_reducible (first | (replace H := Option.some.inj H; subst H) | skip)
  all_goals (try simp only [List.length_replicate, List.length_set] at H)
  all_goals (refine go2 ?_)
  all_goals (try exact recl0 _ (by omega) (_, _) _ H ⟨_, _, _, _, _, _, rfl, by simp⟩)
  all_goals (clear recl0; refine X_fuel3 (L := fun n (y : List Int) => triviumref02_Clean.l1 n y) (S := fun y s => ∃ j4 m0 j6 j16 j38 v0 g b, s = ⟨[(0, (.lst (u l0))), (1, (.int .i64 a1)), (4, j4), (5, .ref 0 v0 1 0 m0), (6, j6), (16, j16), (38, j38)], some ⟨v0, 1, u b⟩ :: g⟩ ∧ m0 ≤ b.length ∧ y = b.take m0) (fun _ => by simp only [triviumref02_Clean.l1]) _ ?_ _ (Nat.le_refl _) _ _ H ⟨_, _, _, _, _, _, _, _, rfl, by simp, by simp⟩)
  all_goals clear H
  all_goals rintro nl1 hnl1 y s H ⟨j4, m0, j6, j16, j38, v0, g, b, rfl, hm, rfl⟩ recl1
  all_goals simp only [triviumref02_Clean.l1] at H
  all_goals have hl : (List.take m0 b).length = m0 := by rw [List.length_take]; omega
  all_goals rw [hl] at H
  all_goals replace hm := eq_true hm
  repeat' with_reducible (first | (refine none_some H; done) | (rw [rd_take b m0 _ (of_eq_true (by assumption)) (of_eq_true (by assumption))] at H) | (refine ite_e H ?_ ?_ <;> clear H <;> intro c H <;> (try simp only [int_beq, decide_eq_true_eq] at c) <;> first | (have : (_ : Bool) = _ := c; clear this) | (have : ¬ (_ : Bool) = _ := c; clear this) | (replace c := eq_false c; try simp only [List.length_replicate, List.length_set, List.length_nil, List.length_cons, Nat.zero_add] at c) | (replace c := eq_true c; try simp only [List.length_replicate, List.length_set, List.length_nil, List.length_cons, Nat.zero_add] at c)) | (refine bind_k (by assumption) H ?_; clear H; intro H) | (refine bind_e H ?_; clear H; intro _ q H; first | (replace q := Option.some.inj q; subst q) | skip))
  all_goals with_reducible (first | (replace H := Option.some.inj H; subst H) | skip)
  all_goals (try simp only [List.length_replicate, List.length_set] at H)
  all_goals have hg := fun i h0 (h1 : i < (m0 : Int)) => u_get b i h0 (by have := of_eq_true hm; omega)
  all_goals (refine go2 ?_)
  all_goals (first | trivial | exact recl1 _ (by omega) _ _ H ⟨_, _, _, _, _, _, _, _, rfl, by have h1 := of_eq_true hm; have h2 : wrap64 ((m0 : Int) - 1) < (m0 : Int) := of_eq_true (by assumption); omega, by have h2 : wrap64 ((m0 : Int) - 1) < (m0 : Int) := of_eq_true (by assumption); rw [List.take_take]; congr 1; omega⟩)
end Go.S

end
section
set_option linter.unusedVariables false
set_option linter.unusedSimpArgs false
set_option maxRecDepth 100000
namespace Go.S
open Go Go.AM Go.RowKit Go.K
theorem e_mul_Mul {k : Nat} {l0 : List Int} {l1 : List Int} {r : List Int} (H : mul_Mul.f k l0 l1 = some r) : CP (CL F) 97 [(.lst (u l0)), (.lst (u l1))] = some (.lst (u r)) := by
  refine CP_X (F := F) (f := 97) rfl rfl ?_
  unfold mul_Mul.f at H
  repeat' with_reducible (first | (refine none_some H; done) | (refine ite_e H ?_ ?_ <;> clear H <;> intro c H <;> (try simp only [int_beq, decide_eq_true_eq] at c) <;> first | (have : (_ : Bool) = _ := c; clear this) | (have : ¬ (_ : Bool) = _ := c; clear this) | (replace c := eq_false c; try simp only [List.length_replicate, List.length_set, List.length_nil, List.length_cons, Nat.zero_add] at c) | (replace c := eq_true c; try simp only [List.length_replicate, List.length_set, List.length_nil, List.length_cons, Nat.zero_add] at c)) | (refine bind_k (by assumption) H ?_; clear H; intro H) | (refine bind_e H ?_; clear H; intro _ q H; first | (have q' := e_mul_Short q; try simp only [u_nil, ui_nil, List.length_replicate, List.length_set, List.cons_append, List.nil_append] at q') | (replace q := Option.some.inj q; subst q) | skip))
  all_goals with_reducible (first | (replace H := Option.some.inj H; subst H) | skip)
  all_goals (try simp only [List.length_replicate, List.length_set] at H)
  all_goals (refine go2 ?_)
  all_goals (first | trivial | skip)
theorem divide_Div_j0_e {n : Nat} {x0 : List Int} {x1 : List Int} {x18 : Bool} {r} {p : Prop} (h : divide_Div.j0 n x0 x1 x18 = some r) (h1 : ∀ m, m < n → divide_Div.j0 (m + 1) x0 x1 x18 = some r → p) : p := by
  cases n with
  | zero => simp [divide_Div.j0] at h
  | succ m => exact h1 m (by omega) h
theorem e_divide_Div {k : Nat} {l0 : List Int} {l1 : List Int} {r : List Int × List Int × Int} (H : divide_Div.f k l0 l1 = some r) : CP (CL F) 141 [(.lst (u l0)), (.lst (u l1))] = some (.tup [(.lst (u r.1)), (.lst (u r.2.1)), (.int .i64 r.2.2)]) := by
  refine CP_X (F := F) (f := 141) rfl rfl ?_
  unfold divide_Div.f at H
  repeat' with_reducible (first | (refine none_some H; done) | (refine ite_e H ?_ ?_ <;> clear H <;> intro c H <;> (try simp only [int_beq, decide_eq_true_eq] at c) <;> first | (have : (_ : Bool) = _ := c; clear this) | (have : ¬ (_ : Bool) = _ := c; clear this) | (replace c := eq_false c; try simp only [List.length_replicate, List.length_set, List.length_nil, List.length_cons, Nat.zero_add] at c) | (replace c := eq_true c; try simp only [List.length_replicate, List.length_set, List.length_nil, List.length_cons, Nat.zero_add] at c)) | (refine bind_k (by assumption) H ?_; clear H; intro H) | (refine bind_e H ?_; clear H; intro _ q H; first | (have q' := e_divide_Small q; try simp only [u_nil, ui_nil, List.length_replicate, List.length_set, List.cons_append, List.nil_append] at q') | (have q' := e_divide_knuth q; try simp only [u_nil, ui_nil, List.length_replicate, List.length_set, List.cons_append, List.nil_append] at q') | (have q' := e_nat_Cmp q; try simp only [u_nil, ui_nil, List.length_replicate, List.length_set, List.cons_append, List.nil_append] at q') | (have q' := e_nat_Make q; try simp only [u_nil, ui_nil, List.length_replicate, List.length_set, List.cons_append, List.nil_append] at q') | (have q' := e_nat_May q; try simp only [u_nil, ui_nil, List.length_replicate, List.length_set, List.cons_append, List.nil_append] at q') | (have q' := e_nat_Of q; try simp only [u_nil, ui_nil, List.length_replicate, List.length_set, List.cons_append, List.nil_append] at q') | (replace q := Option.some.inj q; subst q) | skip) | (refine divide_Div_j0_e H ?_; clear H; intro _ _ H; simp only [divide_Div.j0] at H))
  all_goals with_reducible (first | (replace H := Option.some.inj H; subst H) | skip)
  all_goals (try simp only [List.length_replicate, List.length_set] at H)
  all_goals (refine go2 ?_)
  all_goals (first | trivial | skip)
theorem e_divide_Mod {k : Nat} {l0 : List Int} {l1 : List Int} {r : List Int × Int} (H : divide_Mod.f k l0 l1 = some r) : CP (CL F) 158 [(.lst (u l0)), (.lst (u l1))] = some (.tup [(.lst (u r.1)), (.int .i64 r.2)]) := by
  refine CP_X (F := F) (f := 158) rfl rfl ?_
  unfold divide_Mod.f at H
  repeat' with_reducible (first | (refine none_some H; done) | (refine ite_e H ?_ ?_ <;> clear H <;> intro c H <;> (try simp only [int_beq, decide_eq_true_eq] at c) <;> first | (have : (_ : Bool) = _ := c; clear this) | (have : ¬ (_ : Bool) = _ := c; clear this) | (replace c := eq_false c; try simp only [List.length_replicate, List.length_set, List.length_nil, List.length_cons, Nat.zero_add] at c) | (replace c := eq_true c; try simp only [List.length_replicate, List.length_set, List.length_nil, List.length_cons, Nat.zero_add] at c)) | (refine bind_k (by assumption) H ?_; clear H; intro H) | (refine bind_e H ?_; clear H; intro _ q H; first | (have q' := e_divide_Div q; try simp only [u_nil, ui_nil, List.length_replicate, List.length_set, List.cons_append, List.nil_append] at q') | (replace q := Option.some.inj q; subst q) | skip))
  all_goals with_reducible (first | (replace H := Option.some.inj H; subst H) | skip)
  all_goals (try simp only [List.length_replicate, List.length_set] at H)
  all_goals (refine go2 ?_)
  all_goals (first | trivial | skip)
theorem e_gcd_Euclid {k : Nat} {l0 : List Int} {l1 : List Int} {r : List Int} (H : gcd_Euclid.f k l0 l1 = some r) : CP (CL F) 140 [(.lst (u l0)), (.lst (u l1))] = some (.lst (u r)) := by
  refine CP_X (F := F) (f := 140) rfl rfl ?_
  unfold gcd_Euclid.f at H
  repeat' with_reducible (first | (refine none_some H; done) | (refine ite_e H ?_ ?_ <;> clear H <;> intro c H <;> (try simp only [int_beq, decide_eq_true_eq] at c) <;> first | (have : (_ : Bool) = _ := c; clear this) | (have : ¬ (_ : Bool) = _ := c; clear this) | (replace c := eq_false c; try simp only [List.length_replicate, List.length_set, List.length_nil, List.length_cons, Nat.zero_add] at c) | (replace c := eq_true c; try simp only [List.length_replicate, List.length_set, List.length_nil, List.length_cons, Nat.zero_add] at c)) | (refine bind_k (by assumption) H ?_; clear H; intro H) | (refine bind_e H ?_; clear H; intro _ q H; first | (have q' := e_divide_Mod q; try simp only [u_nil, ui_nil, List.length_replicate, List.length_set, List.cons_append, List.nil_append] at q') | (have q' := e_nat_Make q; try simp only [u_nil, ui_nil, List.length_replicate, List.length_set, List.cons_append, List.nil_append] at q') | (replace q := Option.some.inj q; subst q) | skip))
  all_goals with_reducible (first | (replace H := Option.some.inj H; subst H) | skip)
  all_goals (try simp only [List.length_replicate, List.length_set] at H)
  all_goals (refine go2 ?_)
  all_goals (first | trivial | skip)
  all_goals first
   |
      (refine X_fuel3 (L := fun n (y : List Int × List Int) => gcd_Euclid.l0 n y.1 y.2) (S := fun y s => ∃ j4 j9 j23 g, s = ⟨[(0, (.lst (u l0))), (1, (.lst (u l1))), (4, j4), (5, (.lst (u y.1))), (7, (.lst (u y.2))), (9, j9), (23, j23)], g⟩) (fun _ => by simp only [gcd_Euclid.l0]) _ ?_ _ (Nat.le_refl _) (_, _) _ H ⟨_, _, _, _, rfl⟩
       clear H
       rintro nl0 hnl0 ⟨x5, x7⟩ s H ⟨j4, j9, j23, g, rfl⟩ recl0
       simp only [gcd_Euclid.l0] at H
       repeat' with_reducible (first | (refine none_some H; done) | (refine ite_e H ?_ ?_ <;> clear H <;> intro c H <;> (try simp only [int_beq, decide_eq_true_eq] at c) <;> first | (have : (_ : Bool) = _ := c; clear this) | (have : ¬ (_ : Bool) = _ := c; clear this) | (replace c := eq_false c; try simp only [List.length_replicate, List.length_set, List.length_nil, List.length_cons, Nat.zero_add] at c) | (replace c := eq_true c; try simp only [List.length_replicate, List.length_set, List.length_nil, List.length_cons, Nat.zero_add] at c)) | (refine bind_k (by assumption) H ?_; clear H; intro H) | (refine bind_e H ?_; clear H; intro _ q H; first | (have q' := e_divide_Mod q; try simp only [u_nil, ui_nil, List.length_replicate, List.length_set, List.cons_append, List.nil_append] at q') | (have q' := e_nat_Make q; try simp only [u_nil, ui_nil, List.length_replicate, List.length_set, List.cons_append, List.nil_append] at q') | (replace q := Option.some.inj q; subst q) | skip))
       all_goals with_reducible (first | (replace H := Option.some.inj H; subst H) | skip)
       all_goals (try simp only [List.length_replicate, List.length_set] at H)
       all_goals (refine go2 ?_)
       all_goals (first | (trivial) | (exact recl0 _ (by omega) (_, _) _ H ⟨_, _, _, _, rfl⟩) | skip))
   | skip
theorem e_divide_Exact {k : Nat} {l0 : List Int} {l1 : List Int} {r : List Int × Int} (H : divide_Exact.f k l0 l1 = some r) : CP (CL F) 95 [(.lst (u l0)), (.lst (u l1))] = some (.tup [(.lst (u r.1)), (.int .i64 r.2)]) := by
  refine CP_X (F := F) (f := 95) rfl rfl ?_
  unfold divide_Exact.f at H
  repeat' with_reducible (first | (refine none_some H; done) | (refine ite_e H ?_ ?_ <;> clear H <;> intro c H <;> (try simp only [int_beq, decide_eq_true_eq] at c) <;> first | (have : (_ : Bool) = _ := c; clear this) | (have : ¬ (_ : Bool) = _ := c; clear this) | (replace c := eq_false c; try simp only [List.length_replicate, List.length_set, List.length_nil, List.length_cons, Nat.zero_add] at c) | (replace c := eq_true c; try simp only [List.length_replicate, List.length_set, List.length_nil, List.length_cons, Nat.zero_add] at c)) | (refine bind_k (by assumption) H ?_; clear H; intro H) | (refine bind_e H ?_; clear H; intro _ q H; first | (have q' := e_divide_Div q; try simp only [u_nil, ui_nil, List.length_replicate, List.length_set, List.cons_append, List.nil_append] at q') | (replace q := Option.some.inj q; subst q) | skip))
  all_goals with_reducible (first | (replace H := Option.some.inj H; subst H) | skip)
  all_goals (try simp only [List.length_replicate, List.length_set] at H)
  all_goals (refine go2 ?_)
  all_goals (first | trivial | skip)
end Go.S

end
section
set_option linter.unusedVariables false
set_option linter.unusedSimpArgs false
set_option maxRecDepth 100000
namespace Go.S
open Go Go.AM Go.RowKit Go.K
theorem ev_cp {α : Type} {g : Nat → Option α} {r : α} {p : Prop} (h : Ev g r) (k : ∀ n, g n = some r → p) : p := by
  obtain ⟨K, hK⟩ := h
  exact k K (hK K (Nat.le_refl _))
theorem s_nat_Of {x : Int} (h0 : 0 ≤ x) (h1 : x ≤ 18446744073709551615) : CP (CL F) 93 [.int .u64 x] = some (eN x) :=
  ev_cp (nat_of_ev h0 h1) fun _ h => e_nat_Of h
theorem s_whole_Made (b : Bool) {n : Int} (hn : 0 ≤ n) (hl : L n < 1000000000) : CP (CL F) 96 [.bool b, eN n] = some (eZ (sg b n)) :=
  ev_cp (made_wz b hn (by rw [L_nat hn]; omega)) fun _ h => e_whole_Made h
theorem qn {q : Rat} : 0 ≤ (q.den : Int) := Int.natCast_nonneg _
end Go.S

end
section
set_option linter.unusedVariables false
set_option linter.unusedSimpArgs false
set_option maxRecDepth 100000
namespace Go.S
open Go Go.AM Go.RowKit Go.K
theorem dvd_div_ab {p g : Int} (hg : 0 < g) (h : g ∣ p) : p / g < 0 ↔ p < 0 := by
  obtain ⟨c, rfl⟩ := h
  rw [Int.mul_ediv_cancel_left _ (by omega)]
  constructor
  · intro h1; exact Int.mul_neg_of_pos_of_neg hg h1
  · intro h1
    apply Int.lt_of_not_ge
    intro h2
    have := Int.mul_nonneg (Int.le_of_lt hg) h2
    omega
theorem dz : dg D 0 = [] := dg_zero _
theorem bz : dg B 0 = [] := dg_zero _
theorem lenD_pos' {x : Int} (hx : 0 ≤ x) (h : x ≠ 0) : (0 : Int) < ((dg D x).length : Int) := by have := (lenD_pos hx).2 h; omega
theorem lenB_pos' {x : Int} (hx : 0 ≤ x) (h : x ≠ 0) : (0 : Int) < ((dg B x).length : Int) := by have := (dg_len_pos hx).2 h; omega
theorem sg_nonneg_ab (b : Bool) {n : Int} (hn : 0 ≤ n) : ab (sg b n) = n := by unfold sg ab; split <;> omega
theorem sg_lt (b : Bool) {n : Int} (hn : 0 ≤ n) : sg b n < 0 ↔ b = true ∧ n ≠ 0 := by unfold sg; split <;> simp_all <;> omega
theorem rZ_sg (b : Bool) {n : Int} (hn : 0 ≤ n) : rZ (sg b n) = .agg [.bool (b && decide (n ≠ 0)), rN n] := by
  unfold rZ
  rw [sg_nonneg_ab b hn]
  congr 3
  rw [Bool.eq_iff_iff]
  simp [sg_lt b hn]
theorem s_r02_Of {x : Int} (hx : 0 ≤ x) (h1 : L x < 100000000) : CP (CL F) 138 [eN x] = some (rN x) :=
  ev_cp (of_ev hx (by rw [L_nat hx]; omega)) fun _ h => e_triviumref02_Of h
theorem s_r02_Back {x : Int} (hx : 0 ≤ x) (h1 : L x < 100000000) : CP (CL F) 48 [rN x] = some (eN x) :=
  ev_cp (back_ev hx (by have := L_Dn hx; omega)) fun _ h => e_triviumref02_Back h
theorem s_r02_Cmp {x y : Int} (hx : 0 ≤ x) (hy : 0 ≤ y) (h1 : L x < 100000000) : CP (CL F) 51 [rN x, rN y] = some (.int .i64 (cmpI x y)) :=
  ev_cp (rcmp_ev hx hy (by have := L_Dn hx; omega)) fun _ h => e_triviumref02_Cmp h
theorem s_r02_Mul {x y : Int} (hx : 0 ≤ x) (hy : 0 ≤ y) (h1 : L x < 1000000000) (h2 : L y < 1000000000) : CP (CL F) 100 [rN x, rN y] = some (rN (x * y)) :=
  ev_cp (rmul_ev hx hy (by have := L_Dn hx; omega) (by have := L_Dn hy; omega)) fun _ h => e_triviumref02_Mul h
theorem s_r02_Div {x y : Int} (hx : 0 ≤ x) (hy : 0 < y) (h1 : L x < 1000000000) (h2 : L y < 1000000000) : CP (CL F) 98 [rN x, rN y] = some (.tup [rN (x / y), rN (x % y)]) :=
  ev_cp (rdiv_ev hx hy (by have := L_Dn hx; omega) (by have := L_Dn (x := y) (by omega); omega)) fun _ h => e_triviumref02_Div h
theorem s_r02_Gcd {x y : Int} (hx : 0 ≤ x) (hy : 0 ≤ y) (h1 : L x < 1000000000) (h2 : L y < 1000000000) : CP (CL F) 99 [rN x, rN y] = some (rN (gg x y)) := by
  obtain ⟨m, rfl⟩ := Int.eq_ofNat_of_zero_le hx
  obtain ⟨n, rfl⟩ := Int.eq_ofNat_of_zero_le hy
  have e : Ev (fun k => triviumref02_Gcd.f k (dg D (m : Int)) (dg D (n : Int))) (dg D (gg (m : Int) (n : Int))) := by
    have := rgcd_l0 n m (by have := L_Dn hx; omega) (by have := L_Dn hy; omega)
    unfold triviumref02_Gcd.f gg
    simpa using this
  exact ev_cp e fun _ h => e_triviumref02_Gcd h
theorem s_r02_Num {n : Int} (h0 : 0 ≤ n) (h1 : n ≤ 4294967296) : CP (CL F) 52 [.int .i64 n] = some (rN n) :=
  ev_cp (num_ev h0 h1) fun _ h => e_triviumref02_Num h
theorem s_r02_Same (xs ys : List Int) (h : xs.length < 17592186044416) : CP (CL F) 47 [.lst (u xs), .lst (u ys)] = some (.bool (decide (xs = ys))) :=
  ev_cp (same_ev xs ys h) fun _ h => e_triviumref02_Same h
theorem s_r02_Clean (xs : List Int) (m : Nat) (hu : ∀ x ∈ xs, 0 ≤ x) (hl : xs.length < 17592186044416) : CP (CL F) 135 [.lst (u xs), .int .i64 (m : Int)] = some (eN (cl xs m)) :=
  ev_cp (clean_ev xs m hu hl) fun _ h => e_triviumref02_Clean h
theorem L_cl (xs : List Int) (m : Nat) : L (cl xs m) ≤ m := L_le (by rw [ab_of_nonneg (cl_nonneg xs m)]; exact cl_lt xs m)
theorem s_r07_made (b : Bool) {n : Int} (hn : 0 ≤ n) : CP (CL F) 146 [.bool b, rN n] = some (rZ (sg b n)) := by
  rw [rZ_sg b hn]
  refine CP_X (F := F) (f := 146) rfl rfl ?_
  by_cases h0 : n = 0
  · subst h0
    have hz := dz
    cases b <;> (refine go3 ?_; simp [dz, ui])
  · have hp := lenD_pos' hn h0
    cases b
    · refine go3 ?_; trivial
    · refine go3 ?_
      simp [h0]
theorem s_r07_Of {z : Int} (h : L z < 100000000) : CP (CL F) 136 [eZ z] = some (rZ z) := by
  refine CP_X (F := F) (f := 136) rfl rfl ?_
  have h1 := s_r02_Of (ab_nonneg z) (by rw [← L_nat (ab_nonneg z)]; exact h)
  have h2 := s_r07_made (decide (z < 0)) (ab_nonneg z)
  rw [sg_wz] at h2
  clear h
  refine go3 ?_
  trivial
theorem s_r07_Back {z : Int} (h : L z < 100000000) : CP (CL F) 50 [rZ z] = some (eZ z) := by
  refine CP_X (F := F) (f := 50) rfl rfl ?_
  have h1 := s_r02_Back (ab_nonneg z) (by rw [← L_nat (ab_nonneg z)]; exact h)
  clear h
  refine go3 ?_
  trivial
theorem s_r07_Num {n : Int} (h0 : -4294967296 ≤ n) (h1 : n ≤ 4294967296) : CP (CL F) 108 [.int .i64 n] = some (rZ n) := by
  refine CP_X (F := F) (f := 108) rfl rfl ?_
  by_cases hn : n < 0
  · have e : wrap64 (0 - n) = -n := by rw [w64 (by omega) (by omega)]; omega
    have e2 : wrap64 (-n) = -n := w64 (by omega) (by omega)
    have a1 := s_r02_Num (n := -n) (by omega) (by omega)
    have a2 := s_r07_made true (n := -n) (by omega)
    rw [show sg true (-n) = n by unfold sg; simp] at a2
    clear h0 h1
    refine go3 ?_
    unfold rZ; simp [hn]
  · have a1 := s_r02_Num (n := n) (by omega) (by omega)
    have a2 := s_r07_made false (n := n) (by omega)
    rw [show sg false n = n by unfold sg; simp] at a2
    clear h0 h1
    refine go3 ?_
    unfold rZ; simp [hn]
theorem s_r07_Clean (b : Bool) (xs : List Int) (m : Nat) (hu : ∀ x ∈ xs, 0 ≤ x) (hl : xs.length < 17592186044416) : CP (CL F) 137 [.agg [.bool b, .lst (u xs)], .int .i64 (m : Int)] = some (eZ (sg b (cl xs m))) := by
  have hz : eZ (sg b (cl xs m)) = .agg [.bool (b && decide (cl xs m ≠ 0)), eN (cl xs m)] := by
    unfold eZ
    rw [sg_nonneg_ab b (cl_nonneg xs m)]
    congr 3
    rw [Bool.eq_iff_iff]
    simp [sg_lt b (cl_nonneg xs m)]
  rw [hz]
  refine CP_X (F := F) (f := 137) rfl rfl ?_
  have h1 := s_r02_Clean xs m hu hl
  have hn := cl_nonneg xs m
  clear hz hu hl
  generalize cl xs m = n at *
  by_cases h0 : n = 0
  · subst h0
    have hz := bz
    cases b <;> (refine go3 ?_; simp [bz, u])
  · have hp := lenB_pos' hn h0
    cases b
    · refine go3 ?_; trivial
    · refine go3 ?_
      simp [h0]
theorem dg_inj {x y : Int} (hx : 0 ≤ x) (hy : 0 ≤ y) : dg B x = dg B y ↔ x = y := ⟨fun h => by rw [← val_dg hB x hx, ← val_dg hB y hy, h], fun h => by rw [h]⟩
theorem s_r07_Same {x y : Int} (h : L x < 1000000000) : CP (CL F) 49 [eZ x, eZ y] = some (.bool (decide (x = y))) := by
  refine CP_X (F := F) (f := 49) rfl rfl ?_
  have h1 := s_r02_Same (dg B (ab x)) (dg B (ab y)) (by have := L_def x; omega)
  have e : decide (x = y) = ((decide (x < 0) == decide (y < 0)) && decide (dg B (ab x) = dg B (ab y))) := by
    rw [Bool.eq_iff_iff]
    simp only [decide_eq_true_eq, Bool.and_eq_true, beq_iff_eq, decide_eq_decide, dg_inj (ab_nonneg x) (ab_nonneg y)]
    unfold ab; omega
  rw [e]
  clear e h
  by_cases hb : (decide (x < 0) == decide (y < 0)) = true
  · refine go3 ?_; trivial
  · have hb' : (decide (x < 0) == decide (y < 0)) = false := by simpa using hb
    clear hb
    refine go3 ?_; trivial
theorem s_r07_Mul {x y : Int} (h1 : L x < 1000000000) (h2 : L y < 1000000000) : CP (CL F) 127 [rZ x, rZ y] = some (rZ (x * y)) := by
  refine CP_X (F := F) (f := 127) rfl rfl ?_
  have hm := s_r02_Mul (ab_nonneg x) (ab_nonneg y) (by rw [← L_nat (ab_nonneg x)]; exact h1) (by rw [← L_nat (ab_nonneg y)]; exact h2)
  have hd := s_r07_made (decide (x < 0) != decide (y < 0)) (n := ab x * ab y) (Int.mul_nonneg (ab_nonneg x) (ab_nonneg y))
  have e : sg (decide (x < 0) != decide (y < 0)) (ab x * ab y) = x * y := by
    rw [← ab_mul]
    by_cases a1 : x < 0 <;> by_cases a2 : y < 0
    · have := Int.mul_nonneg_of_nonpos_of_nonpos (Int.le_of_lt a1) (Int.le_of_lt a2)
      simp [a1, a2, sg, ab_of_nonneg this]
    · have : x * y ≤ 0 := Int.mul_nonpos_of_nonpos_of_nonneg (Int.le_of_lt a1) (by omega)
      simp [a1, a2, sg]; unfold ab; omega
    · have : x * y ≤ 0 := Int.mul_nonpos_of_nonneg_of_nonpos (by omega) (Int.le_of_lt a2)
      simp [a1, a2, sg]; unfold ab; omega
    · have := Int.mul_nonneg (show 0 ≤ x by omega) (show 0 ≤ y by omega)
      simp [a1, a2, sg, ab_of_nonneg this]
  rw [e] at hd
  clear e h1 h2
  refine go3 ?_
  trivial
theorem s_r08_Low {p d : Int} (hd : 0 < d) (h1 : L p < 1000000000) (h2 : L d < 1000000000) : CP (CL F) 107 [rZ p, rN d] = some (rQ (Rat.divInt p d)) := by
  refine CP_X (F := F) (f := 107) rfl rfl ?_
  have hg := gg_pos (p := p) (d := d) (by omega)
  have egg : gg (ab p) d = gg p d := by unfold gg ab; simp
  have lg : L (gg p d) < 1000000000 := by have := L_dvd (gg_dvd_right p d) (by omega); omega
  have g1 := s_r02_Gcd (ab_nonneg p) (Int.le_of_lt hd) (by rw [← L_nat (ab_nonneg p)]; exact h1) h2
  rw [egg] at g1
  have d1 := s_r02_Div (ab_nonneg p) hg (by rw [← L_nat (ab_nonneg p)]; exact h1) lg
  have d2 := s_r02_Div (Int.le_of_lt hd) hg h2 lg
  have e := nq_rat (p := p) hd
  unfold nq wz at e
  simp only [Prod.mk.injEq] at e
  obtain ⟨e1, e2, e3⟩ := e
  have hq := dvd_div_ab hg (gg_dvd_left p d)
  have e2' : ab p / gg p d = ab (Rat.divInt p d).num := by
    rw [← ab_div hg (gg_dvd_left p d)]
    exact (dg_inj (ab_nonneg _) (ab_nonneg _)).1 e2
  have e3' : d / gg p d = ((Rat.divInt p d).den : Int) := (dg_inj (Int.ediv_nonneg (Int.le_of_lt hd) (Int.le_of_lt hg)) (Int.natCast_nonneg _)).1 e3
  rw [e2'] at d1
  rw [e3'] at d2
  have e4 : (p < 0) = ((Rat.divInt p d).num < 0) := by
    rw [decide_eq_decide] at e1
    rw [← propext e1]
    exact propext hq.symm
  clear e1 e2 e3 e2' e3' hq egg lg h1 h2
  by_cases hp : p < 0
  · have hn : (Rat.divInt p d).num ≠ 0 := by rw [e4] at hp; omega
    have hl := lenD_pos' (ab_nonneg (Rat.divInt p d).num) (by unfold ab; omega)
    have hp' := e4 ▸ hp
    unfold rQ
    clear e4 hd hg
    refine go3 ?_
    trivial
  · have hp' := e4 ▸ hp
    unfold rQ
    clear e4 hd hg
    refine go3 ?_
    trivial
end Go.S

end
section
set_option linter.unusedVariables false
set_option linter.unusedSimpArgs false
set_option maxRecDepth 100000
namespace Go.S
open Go Go.AM Go.RowKit Go.K
theorem s_r08_Of {q : Rat} (h : Lq q < 100000000) : CP (CL F) 92 [eQ q] = some (rQ q) := by
  refine CP_X (F := F) (f := 92) rfl rfl ?_
  have h1 := s_r07_Of (z := q.num) (by have := Lq_num q; omega)
  have h2 := s_r02_Of (x := (q.den : Int)) qn (by have := Lq_den q; omega)
  clear h
  refine go3 ?_
  trivial
theorem s_r08_Back {q : Rat} (h : Lq q < 100000000) : CP (CL F) 36 [rQ q] = some (eQ q) := by
  refine CP_X (F := F) (f := 36) rfl rfl ?_
  have h1 := s_r07_Back (z := q.num) (by have := Lq_num q; omega)
  have h2 := s_r02_Back (x := (q.den : Int)) qn (by have := Lq_den q; omega)
  clear h
  refine go3 ?_
  trivial
theorem s_r08_Num {n d : Int} (h0 : -4294967296 ≤ n) (h1 : n ≤ 4294967296) (h2 : 0 < d) (h3 : d ≤ 4294967296) : CP (CL F) 62 [.int .i64 n, .int .i64 d] = some (rQ (Rat.divInt n d)) := by
  refine CP_X (F := F) (f := 62) rfl rfl ?_
  have a1 := s_r07_Num h0 h1
  have a2 := s_r02_Num (n := d) (by omega) h3
  have a3 := s_r08_Low (p := n) (d := d) h2 (by have := L_small2 (x := n) (by unfold ab; omega); omega) (by have := L_small2 (x := d) (by unfold ab; omega); omega)
  clear h0 h1 h2 h3
  refine go3 ?_
  trivial
theorem s_r08_Int {n : Int} (h0 : -4294967296 ≤ n) (h1 : n ≤ 4294967296) : CP (CL F) 62 [.int .i64 n, .int .i64 1] = some (rQ (n : Rat)) := by
  have := s_r08_Num h0 h1 (d := 1) (by decide) (by decide)
  rwa [show Rat.divInt n 1 = (n : Rat) by
    have := Rat.num_divInt_den (n : Rat)
    rw [Rat.num_intCast, Rat.den_intCast] at this
    exact this] at this
theorem s_r08_Mul {a b : Rat} (h1 : Lq a < 30000000) (h2 : Lq b < 30000000) : CP (CL F) 84 [rQ a, rQ b] = some (rQ (a * b)) := by
  refine CP_X (F := F) (f := 84) rfl rfl ?_
  have a1 := Lq_num a; have a2 := Lq_den a; have b1 := Lq_num b; have b2 := Lq_den b
  have m1 := L_mul a.num b.num; have m3 := L_mul a.den b.den
  have w1 := s_r07_Mul (x := a.num) (y := b.num) (by omega) (by omega)
  have w4 := s_r02_Mul (x := (a.den : Int)) (y := (b.den : Int)) qn qn (by omega) (by omega)
  have k := s_r08_Low (p := a.num * b.num) (d := a.den * b.den) (Int.mul_pos (by have := a.den_pos; omega) (by have := b.den_pos; omega)) (by omega) (by omega)
  rw [← rat_mul] at k
  clear h1 h2 a1 a2 b1 b2 m1 m3
  refine go3 ?_
  trivial
theorem s_r08_Clean (b : Bool) (xs ys : List Int) (hx : ∀ x ∈ xs, 0 ≤ x) (hy : ∀ y ∈ ys, 0 ≤ y) (lx : xs.length < 17592186044416) (ly : ys.length < 17592186044416) (m : Nat) (hm : m < 1000000) (hm1 : 1 ≤ m) :
    ∃ q : Rat, Lq q ≤ m ∧ CP (CL F) 91 [.agg [.bool b, .lst (u xs), .lst (u ys)], .int .i64 (m : Int)] = some (eQ q) := by
  let d := if cl ys m = 0 then 1 else cl ys m
  have hd : 0 < d := by have := cl_nonneg ys m; show 0 < (if cl ys m = 0 then 1 else cl ys m); split <;> omega
  have Ld : L d ≤ m := by show L (if cl ys m = 0 then 1 else cl ys m) ≤ m; split; have := L_one; omega; exact L_cl ys m
  have Ln : L (sg b (cl xs m)) ≤ m := by have := L_cl xs m; unfold L at *; rw [sg_nonneg_ab b (cl_nonneg xs m)]; rwa [ab_of_nonneg (cl_nonneg xs m)] at this
  have hq : Lq (Rat.divInt (sg b (cl xs m)) d) ≤ m := by
    have := Lq_divInt (p := sg b (cl xs m)) (d := d) (by omega)
    omega
  refine ⟨Rat.divInt (sg b (cl xs m)) d, hq, ?_⟩
  refine CP_X (F := F) (f := 91) rfl rfl ?_
  have k1 := s_r02_Clean ys m hy ly
  have k2 := s_r07_Clean b xs m hx lx
  have k3 := s_r07_Of (z := sg b (cl xs m)) (by omega)
  have k4 := s_r02_Of (x := d) (Int.le_of_lt hd) (by omega)
  have k5 := s_r08_Low (p := sg b (cl xs m)) (d := d) hd (by omega) (by omega)
  have k6 := s_r08_Back (q := Rat.divInt (sg b (cl xs m)) d) (by omega)
  have hn := cl_nonneg ys m
  clear hx hy lx ly Ld Ln hq
  by_cases h0 : cl ys m = 0
  · have ed : d = 1 := by show (if cl ys m = 0 then 1 else cl ys m) = 1; rw [if_pos h0]
    rw [ed] at k4 k5 k6 hd ⊢
    rw [h0] at k1
    clear_value d
    have e1 : dg K.B 1 = [1] := by rw [dg_pos hB (by decide)]; rw [show (1 : Int) / K.B = 0 from rfl, bz]; rfl
    have hz := bz
    unfold eN at k4
    rw [e1] at k4
    clear h0 hd hn e1
    refine go3 ?_
    trivial
  · have ed : d = cl ys m := by show (if cl ys m = 0 then 1 else cl ys m) = _; rw [if_neg h0]
    have hp := lenB_pos' hn h0
    have hp2 : ¬ ((dg B (cl ys m)).length : Int) = 0 := by omega
    rw [← ed] at k1 hp hp2
    clear_value d
    clear h0 hd hn ed
    refine go3 ?_
    trivial
end Go.S

end
section
set_option linter.unusedVariables false
set_option linter.unusedSimpArgs false
namespace Go.S
open Go Go.AM Go.RowKit Go.K
theorem X_up {F : Nat → Option AFunc} {ks : List Nat} {Q : Ex → St → Prop} {k : Kt} {a : ACode} (N : Nat) (S : Nat → St → Prop)
    (step : ∀ i s, i < N → S i s → (∀ s', S (i + 1) s' → X F ks Q (.loop a) s' k) → X F ks Q a s (.seq (.loop a) k))
    (stop : ∀ s, S N s → X F ks Q a s (.seq (.loop a) k)) : ∀ i, i ≤ N → ∀ s, S i s → X F ks Q (.loop a) s k := by
  have H : ∀ d i, N - i = d → i ≤ N → ∀ s, S i s → X F ks Q (.loop a) s k := by
    intro d
    induction d with
    | zero =>
      intro i hd hi s hs
      obtain rfl : i = N := by omega
      exact X_round (stop s hs)
    | succ d ih =>
      intro i hd hi s hs
      exact X_round (step i s (by omega) hs fun s' hs' => ih (i + 1) (by omega) (by omega) s' hs')
  exact fun i hi s hs => H _ i rfl hi s hs
theorem X_upto {F : Nat → Option AFunc} {ks : List Nat} {Q : Ex → St → Prop} {k : Kt} {a : ACode} (N : Nat) (S : Nat → St → Prop)
    (step : ∀ i s, i ≤ N → S i s → (∀ s', i < N → S (i + 1) s' → X F ks Q (.loop a) s' k) → X F ks Q a s (.seq (.loop a) k)) : ∀ i, i ≤ N → ∀ s, S i s → X F ks Q (.loop a) s k := by
  have H : ∀ d i, N - i = d → i ≤ N → ∀ s, S i s → X F ks Q (.loop a) s k := by
    intro d
    induction d with
    | zero =>
      intro i hd hi s hs
      exact X_round (step i s hi hs fun s' h _ => by omega)
    | succ d ih =>
      intro i hd hi s hs
      exact X_round (step i s hi hs fun s' h hs' => ih (i + 1) (by omega) (by omega) s' hs')
  exact fun i hi s hs => H _ i rfl hi s hs
section
variable {α : Type} {f : α → AV}
theorem em_getN [Inhabited α] (l : List α) (i : Nat) (h : i < l.length) : (em f l)[i]? = some (f (l.getD i default)) := by
  simp [em, List.getElem?_eq_getElem h, List.getD]
end
theorem getD_mem {α : Type} [Inhabited α] {l : List α} {i : Nat} (h : i < l.length) : l.getD i default ∈ l := by
  simp [List.getD, List.getElem?_eq_getElem h]
theorem take_succ_getD {α : Type} [Inhabited α] (l : List α) (i : Nat) (h : i < l.length) : l.take (i + 1) = l.take i ++ [l.getD i default] := by
  rw [List.take_add_one, List.getElem?_eq_getElem h]
  simp [List.getD, List.getElem?_eq_getElem h]
theorem lt_c {i n : Nat} (h : i < n) : ((i : Int) < (n : Int)) := by omega
theorem nlt_c {n : Nat} : ¬ ((n : Int) < (n : Int)) := by omega
theorem CP_raw {F : Nat → Option AFunc} {f : Nat} {args : List AV} {r : AV} {h : Heap} {x : AV} (h1 : CL F f args [] = some (r, h)) (h2 : fz h r = some x) : CP (CL F) f args = some x := CP_of h1 h2
end Go.S

end
section
set_option linter.unusedVariables false
set_option linter.unusedSimpArgs false
set_option maxRecDepth 100000
namespace Go.S
open Go Go.AM Go.RowKit Go.K
abbrev eR (l : List Rat) : AV := .lst (em eQ l)
abbrev rR (l : List Rat) : AV := .lst (em rQ l)
end Go.S

end
section
set_option linter.unusedVariables false
set_option linter.unusedSimpArgs false
set_option maxRecDepth 100000
namespace Go.S
open Go Go.AM Go.RowKit Go.K
structure XQ where
  b : Bool
  n : List Int
  d : List Int
instance : Inhabited XQ := ⟨⟨false, [], []⟩⟩
def XQ.ok (x : XQ) : Prop := (∀ y ∈ x.n, 0 ≤ y) ∧ (∀ y ∈ x.d, 0 ≤ y) ∧ x.n.length < 17592186044416 ∧ x.d.length < 17592186044416
def eX (x : XQ) : AV := .agg [.bool x.b, .lst (u x.n), .lst (u x.d)]
theorem cells_eX {x : XQ} : cells (eX x) = [.bool x.b, .lst (u x.n), .lst (u x.d)] := rfl
theorem agg_eX {x : XQ} : AV.agg [.bool x.b, .lst (u x.n), .lst (u x.d)] = eX x := rfl
theorem fz_eX {x : XQ} {h} : fz h (eX x) = some (eX x) := fz_plain1 rfl
theorem us_eX {x : XQ} {h} : used h deep (eX x) = [] := us_plain1 rfl
theorem shut_eX {x : XQ} {cs} : shut (eX x) cs = some (.agg cs) := rfl
theorem s_r08_CleanX {x : XQ} (hx : x.ok) {m : Nat} (hm : m < 1000000) (hm1 : 1 ≤ m) : ∃ q : Rat, Lq q ≤ m ∧ CP (CL F) 91 [eX x, eI m] = some (eQ q) := s_r08_Clean x.b x.n x.d hx.1 hx.2.1 hx.2.2.1 hx.2.2.2 m hm hm1
theorem s_Few {l : List XQ} (hx : ∀ x ∈ l, x.ok) {most : Nat} (hm : most ≤ 1000000) : ∃ qs : List Rat, qs.length = min l.length most ∧ (∀ q ∈ qs, Lq q ≤ 1) ∧ CP (CL F) 44 [.lst (em eX l), eI most] = some (.tup [eR qs, rR qs]) := by
  have hex : ∃ f : XQ → Rat, ∀ x ∈ l, Lq (f x) ≤ 1 ∧ CP (CL F) 91 [eX x, eI 1] = some (eQ (f x)) := by
    classical
    refine ⟨fun x => if h : x ∈ l then (s_r08_CleanX (hx x h) (m := 1) (by decide) (by decide)).choose else 0, fun x h => ?_⟩
    simp only [h, dif_pos]
    exact (s_r08_CleanX (hx x h) (m := 1) (by decide) (by decide)).choose_spec
  obtain ⟨f, hf⟩ := hex
  refine ⟨(l.take most).map f, by simp; omega, fun q hq => by
    obtain ⟨x, hx, rfl⟩ := List.mem_map.1 hq
    exact (hf x (List.mem_of_mem_take hx)).1, ?_⟩
  refine CP_X (F := F) (f := 44) rfl rfl ?_
  have c1 := @cells_eX
  have c2 := @agg_eX
  have c3 := @fz_eX
  have c4 := @us_eX
  have c5 := @shut_eX
  clear hx
  refine go3 ?_
  refine X_upto (min l.length most) (fun i s => ∃ j4 j5 j9 j20 v w g, s = ⟨[(0, .lst (em eX l)), (1, eI most), (4, j4), (5, j5), (6, .ref 0 v 3 0 i), (7, .ref 1 w 3 0 i), (8, eI i), (9, j9), (20, j20)], some ⟨v, 3, em eQ ((l.take i).map f)⟩ :: some ⟨w, 3, em rQ ((l.take i).map f)⟩ :: g⟩) ?_ 0 (Nat.zero_le _) _ ⟨_, _, _, _, _, _, [], rfl⟩
  rintro i s hi ⟨j4, j5, j9, j20, v, w, g, rfl⟩ rec
  have hlen : ((l.take i).map f).length = i := by simp; omega
  have ht : List.take i ((l.take i).map f) = (l.take i).map f := take_len_g _ hlen.symm
  by_cases h1 : i < l.length
  · have h1' := lt_c h1
    by_cases h2 : i < most
    · have h2' := lt_c h2
      have hi2 : i < min l.length most := by omega
      have hg0 := em_getN (f := eX) l i h1
      obtain ⟨f1, f2⟩ := hf _ (getD_mem h1)
      have k1 := s_r08_Of (q := f (l.getD i default)) (by omega)
      have hs : (l.take i).map f ++ [f (l.getD i default)] = (l.take (i + 1)).map f := by rw [take_succ_getD l i h1]; simp
      have hlim : i + 1 ≤ 2513169434916 := by omega
      have hlim2 : i < 2513169434916 := by omega
      have hw := i64_nat (n := i) (by omega)
      clear hf f1 hlen hi
      refine go3 ?_
      exact rec _ hi2 ⟨_, _, _, _, _, _, _, rfl⟩
    · have h2' : ¬ ((i : Int) < (most : Int)) := by omega
      have hi2 : i = most := by omega
      subst hi2
      clear hf rec hi h1
      refine go3 ?_
      trivial
  · have h1' : ¬ ((i : Int) < (l.length : Int)) := by omega
    have hi2 : l.take most = l := List.take_of_length_le (by omega)
    have hi3 : l.take i = l := List.take_of_length_le (by omega)
    have ht2 : List.take i (l.map f) = l.map f := take_len_g _ (by simp; omega)
    clear hf rec hi h1
    refine go3 ?_
    trivial
end Go.S

end
section
set_option linter.unusedVariables false
set_option linter.unusedSimpArgs false
set_option maxRecDepth 100000
namespace Go.Proofs.YtflnfnemhgjglaaGreat.R
open Go Go.AM Go.S Go.RowKit Go.K Go.Proofs
def okN (l : List Int) : Prop := (∀ x ∈ l, 0 ≤ x) ∧ l.length < 17592186044416
theorem bytes64 : Tryz.prog.bytesOf 136 = 8 := by kernel_rfl
theorem rdU : Rd Tryz.prog 136 (fun n : Int => [.int .u64 n]) fun n => (Lit.int .u64 n).wf = true := rd_int Tryz.underlying136
theorem rdN : Rd Tryz.prog 41 (fun l : List Int => [.lst (u l)]) okN :=
  (rd_slice Tryz.underlying41 rdU (fun n => AV.int .u64 n) (fun _ => rfl) (s := 1) (by kernel_rfl) (fun _ => rfl) (by decide)).map id (fun _ => rfl) fun l ⟨h1, h2⟩ => ⟨fun x hx => (wf_u64 (h1 x hx)).1, by
    rw [bytes64] at h2
    have : reachBytes = 140737488351232 := rfl
    show l.length < _
    omega⟩
theorem rdZ : Rd Tryz.prog 43 (fun z : Bool × List Int => [.bool z.1, .lst (u z.2)]) fun z => okN z.2 := by
  refine Rd.map (f := fun p : Bool × List Int × Unit => [AV.bool p.1] ++ ([AV.lst (u p.2.1)] ++ [])) (ok := fun p => True ∧ okN p.2.1 ∧ True) (rd_struct Tryz.underlying43 (fun _ => by kernel_rfl) ?_) (fun p => (p.1, p.2.1)) (fun _ => rfl) fun p h => h.2.1
  refine rdfs_cons (s := 1) (f := fun b : Bool => [AV.bool b]) (g := fun q : List Int × Unit => [AV.lst (u q.1)] ++ []) (ok := fun _ => True) (okb := fun q => okN q.1 ∧ True) rfl (by kernel_rfl) (fun _ => rfl) (rd_bool Tryz.underlying4) ?_
  exact rdfs_cons (s := 1) (f := fun l : List Int => [AV.lst (u l)]) (g := fun _ : Unit => []) (ok := okN) (okb := fun _ => True) rfl (by kernel_rfl) (fun _ => rfl) rdN rdfs_nil
theorem rdQ : Rd Tryz.prog 45 (fun x : XQ => [.bool x.b, .lst (u x.n), .lst (u x.d)]) XQ.ok := by
  refine Rd.map (f := fun p : (Bool × List Int) × List Int × Unit => [AV.bool p.1.1, AV.lst (u p.1.2)] ++ ([AV.lst (u p.2.1)] ++ [])) (ok := fun p => okN p.1.2 ∧ okN p.2.1 ∧ True) (rd_struct Tryz.underlying45 (fun _ => by kernel_rfl) ?_) (fun p => ⟨p.1.1, p.1.2, p.2.1⟩) (fun _ => rfl) fun p h => ⟨h.1.1, h.2.1.1, h.1.2, h.2.1.2⟩
  refine rdfs_cons (s := 2) (f := fun z : Bool × List Int => [AV.bool z.1, AV.lst (u z.2)]) (g := fun q : List Int × Unit => [AV.lst (u q.1)] ++ []) (ok := fun z => okN z.2) (okb := fun q => okN q.1 ∧ True) rfl (by kernel_rfl) (fun _ => rfl) rdZ ?_
  exact rdfs_cons (s := 1) (f := fun l : List Int => [AV.lst (u l)]) (g := fun _ : Unit => []) (ok := okN) (okb := fun _ => True) rfl (by kernel_rfl) (fun _ => rfl) rdN rdfs_nil
theorem rdR : Rd Tryz.prog 56 (fun l : List XQ => [.lst (em eX l)]) fun l => ∀ x ∈ l, x.ok :=
  (rd_slice Tryz.underlying56 rdQ eX (fun _ => rfl) (s := 3) (by kernel_rfl) (fun _ => rfl) (by decide)).map id (fun _ => rfl) fun l h => h.1
end Go.Proofs.YtflnfnemhgjglaaGreat.R

end
