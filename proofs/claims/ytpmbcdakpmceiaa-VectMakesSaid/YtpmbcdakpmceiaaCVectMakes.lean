/- Rows of noughts, and units, are as the document says, or refused: for every pair of whole numbers. -/
import Derived.Laws.BitsLemmas
import Derived.Test.YtpmbcdakpmceiaaRows
import Derived.WalkKit
import Derived.ProofKit
import Derived.OpenShut
import Derived.ShutString
import Derived.ChangeOld
import Derived.Below
import Derived.SizedLaws
import Derived.Test.YtpmbcdakpmceiaaCVectMakes6
set_option linter.unusedVariables false
set_option linter.unusedSimpArgs false
set_option linter.unusedSectionVars false
section
namespace Go.Proofs.Ytpmbcdakpmceiaa.A
set_option linter.unusedVariables false
set_option linter.unusedSimpArgs false
open Go Go.RowKit Go.Proofs.YtpmbcdakpmceiaaW.PrintWords Go.Proofs.YtpmbcdakpmceiaaW.PrintLast Go.Proofs.YtpmbcdakpmceiaaW.PrintMore
section
variable {α β : Type} {f g : Nat → Option α} {r : α}
theorem ev_pos {c : Prop} [Decidable c] (h : c) (k : Ev f r) : Ev (fun n => if c then f n else g n) r := by
  simpa only [if_pos h] using k
theorem ev_neg {c : Prop} [Decidable c] (h : ¬ c) (k : Ev g r) : Ev (fun n => if c then f n else g n) r := by
  simpa only [if_neg h] using k
theorem ev_ite {c : Prop} [Decidable c] (hp : c → Ev f r) (hn : ¬ c → Ev g r) : Ev (fun n => if c then f n else g n) r := by
  by_cases h : c
  · exact ev_pos h (hp h)
  · exact ev_neg h (hn h)
theorem ev_now {a : α} (h : a = r) : Ev (fun _ => some a) r := ⟨0, fun _ _ => by rw [h]⟩
theorem ev_bind {a : β} {g : Nat → Option β} {f : Nat → β → Option α} (h : Ev g a) (k : Ev (fun n => f n a) r) : Ev (fun n => (g n).bind (f n)) r := h.bind k
theorem ev_eq {a : β} {x : Option β} {f : Nat → β → Option α} (h : x = some a) (k : Ev (fun n => f n a) r) : Ev (fun n => x.bind (f n)) r := by
  subst h; exact k
end
theorem w64 {x : Int} (h0 : -9223372036854775808 ≤ x) (h1 : x ≤ 9223372036854775807) : wrap64 x = x := by unfold wrap64; omega
theorem wf_i64 {x : Int} (h : (Lit.int .i64 x).wf = true) : -9223372036854775808 ≤ x ∧ x ≤ 9223372036854775807 := by
  simp [Lit.wf, IntKind.min, IntKind.max, IntKind.signed, IntKind.bits] at h; omega
theorem rd_nat (xs : List Int) (i : Nat) : rd xs (i : Int) = xs.getD i 0 := by simp [rd]
def Dig (b : Int) (xs : List Int) : Prop := ∀ x ∈ xs, 0 ≤ x ∧ x < b
theorem Dig.nil {b : Int} : Dig b [] := fun _ h => by cases h
theorem Dig.cons {b x : Int} {xs : List Int} (h0 : 0 ≤ x) (h1 : x < b) (h : Dig b xs) : Dig b (x :: xs) := by
  intro y hy
  rcases List.mem_cons.1 hy with rfl | hy
  · exact ⟨h0, h1⟩
  · exact h y hy
theorem Dig.append {b : Int} {xs ys : List Int} (h : Dig b xs) (k : Dig b ys) : Dig b (xs ++ ys) := by
  intro y hy
  rcases List.mem_append.1 hy with hy | hy
  · exact h y hy
  · exact k y hy
theorem Dig.rd {b : Int} {xs : List Int} (h : Dig b xs) {i : Int} (h0 : 0 ≤ i) (h1 : i < xs.length) : 0 ≤ rd xs i ∧ rd xs i < b := by
  obtain ⟨j, rfl⟩ := Int.eq_ofNat_of_zero_le h0
  have hj : j < xs.length := by omega
  rw [rd_nat, List.getD, List.getElem?_eq_getElem hj]
  exact h _ (List.getElem_mem hj)
theorem Dig.take {b : Int} {xs : List Int} (h : Dig b xs) (i : Nat) : Dig b (xs.take i) := fun y hy => h y (List.mem_of_mem_take hy)
theorem Dig.mono {b c : Int} {xs : List Int} (h : Dig b xs) (hc : b ≤ c) : Dig c xs := fun x hx => ⟨(h x hx).1, by have := (h x hx).2; omega⟩
end Go.Proofs.Ytpmbcdakpmceiaa.A

end
section
namespace Go.Proofs.Ytpmbcdakpmceiaa.Pure
set_option linter.unusedVariables false
set_option linter.unusedSimpArgs false
open Go Go.RowKit Go.Proofs.YtpmbcdakpmceiaaW.PrintWords Go.Proofs.YtpmbcdakpmceiaaW.PrintLast Go.Proofs.YtpmbcdakpmceiaaW.PrintMore Go.Proofs.Ytpmbcdakpmceiaa.F Go.Proofs.Ytpmbcdakpmceiaa.A
theorem ev_succ' {α : Type} {g : Nat → Option α} {r : α} (h : Ev (fun k => g (k + 1)) r) : Ev g r := by
  obtain ⟨K, hK⟩ := h
  refine ⟨K + 1, fun k hk => ?_⟩
  obtain ⟨m, rfl⟩ : ∃ m, k = m + 1 := ⟨k - 1, by omega⟩
  exact hK m (by omega)
def O0 : S34 := ⟨⟨false, []⟩, [1]⟩
def O1 : S34 := ⟨⟨false, [1]⟩, [1]⟩
set_option maxRecDepth 100000 in
theorem of0_ev : Ev (fun k => rat_Of.f k 0) (false, [], [1]) := Ev.of (fun k => rat_Of.mono 0 k) (k := 60) (by decide +kernel)
set_option maxRecDepth 100000 in
theorem of1_ev : Ev (fun k => rat_Of.f k 1) (false, [1], [1]) := Ev.of (fun k => rat_Of.mono 1 k) (k := 60) (by decide +kernel)
set_option maxRecDepth 100000 in
theorem same0_ev : Ev (fun k => rat_Same.f k false [] [1] false [] [1]) true := Ev.of (fun k => rat_Same.mono _ _ _ _ _ _ k) (k := 60) (by decide +kernel)
set_option maxRecDepth 100000 in
theorem one_ev : Ev (fun k => rat_One.f k false [1] [1]) true := Ev.of (fun k => rat_One.mono _ _ _ k) (k := 60) (by decide +kernel)
set_option maxRecDepth 100000 in
theorem works11_ev : Ev (fun k => triviumlaw11_works.f k) true := Ev.of (fun k => triviumlaw11_works.mono k) (k := 200) (by decide +kernel)
theorem fn0 : vect_LeadFn1.f false [] [1] = some false := by decide
theorem fn1 : vect_LeadFn1.f false [1] [1] = some true := by decide
theorem set_rep (i m : Nat) : (List.replicate i O0 ++ List.replicate (m + 1) z34).set i O0 = List.replicate (i + 1) O0 ++ List.replicate m z34 := by
  rw [List.set_append_right _ _ (by simp), List.length_replicate, Nat.sub_self, List.replicate_succ, List.set_cons_zero]
  conv => rhs; rw [List.replicate_succ']
  simp
theorem zero_l0 (n : Nat) (hn : n ≤ 200) : ∀ d i : Nat, n - i = d → i ≤ n → Ev (fun k => vect_Zero.l0 k (List.replicate i O0 ++ List.replicate (n - i) z34) (n : Int) (i : Int)) (List.replicate n O0, 0) := by
  intro d
  induction d with
  | zero =>
    intro i hd hi
    have : i = n := by omega
    subst this
    refine ev_succ' ?_
    simp only [vect_Zero.l0]
    refine ev_neg (by omega) (ev_now ?_)
    simp
  | succ d ih =>
    intro i hd hi
    have key := ih (i + 1) (by omega) (by omega)
    rw [show n - (i + 1) = d by omega] at key
    have w : Aside0 (wrap64 ((i : Int) + 1) = ((i + 1 : Nat) : Int)) := ⟨by rw [w64 (by omega) (by omega)]; omega⟩
    refine ev_succ' ?_
    simp only [vect_Zero.l0]
    rw [show n - i = d + 1 by omega, w.out, Int.toNat_natCast]
    clear w
    refine ev_pos (by omega) (ev_bind of0_ev (ev_pos (by omega) (ev_pos (by simp; omega) ?_)))
    simp only []
    rw [show ({ f0 := { f0 := false, f1 := [] }, f1 := [1] } : S34) = O0 from rfl, set_rep]
    exact key
theorem zero_ev (n : Nat) (hn : n ≤ 200) : Ev (fun k => vect_Zero.f k (n : Int)) (List.replicate n O0, 0) := by
  have key := zero_l0 n hn _ 0 rfl (by omega)
  unfold vect_Zero.f
  refine ev_neg (by omega) ?_
  rw [decide_eq_false (by omega)]
  refine ev_succ' ?_
  simp only [vect_Zero.j0, Option.bind_some, Int.toNat_natCast, List.length_replicate]
  refine ev_neg (by simp) (ev_pos (by omega) (ev_pos (by omega) ?_))
  simpa using key
theorem zero_no (n : Int) (hn : n < 0 ∨ 200 < n) : Ev (fun k => vect_Zero.f k n) ([], 2) := by
  have J : Ev (fun k => vect_Zero.j0 k n true) ([], 2) := by
    refine ev_succ' ?_
    simp only [vect_Zero.j0]
    exact ev_pos (by first | rfl | trivial) (ev_now rfl)
  unfold vect_Zero.f
  refine ev_ite (fun h => J) (fun h => ?_)
  rw [decide_eq_true (by omega)]
  exact J
theorem unit_ev (n i : Nat) (hn : n ≤ 200) (hi : i < n) : Ev (fun k => vect_Unit.f k (n : Int) (i : Int)) ((List.replicate n O0).set i O1, 0) := by
  unfold vect_Unit.f
  refine ev_bind (zero_ev n hn) (ev_pos rfl (ev_neg (by omega) (ev_neg (by omega) (ev_bind of1_ev (ev_pos (by omega) (ev_pos (by simp; omega) (ev_now ?_)))))))
  rw [Int.toNat_natCast]; rfl
theorem unit_no (n i : Int) (h : n < 0 ∨ 200 < n ∨ i < 0 ∨ n ≤ i) : Ev (fun k => vect_Unit.f k n i) ([], 2) := by
  unfold vect_Unit.f
  by_cases hn : n < 0 ∨ 200 < n
  · exact ev_bind (zero_no n hn) (ev_neg (by decide) (ev_now rfl))
  · obtain ⟨m, rfl⟩ := Int.eq_ofNat_of_zero_le (show 0 ≤ n by omega)
    refine ev_bind (zero_ev m (by omega)) (ev_pos rfl (ev_ite (fun h1 => ev_now rfl) (fun h1 => ev_pos (by omega) (ev_now rfl))))
theorem rd_rep (n i : Nat) (h : i < n) : rd_T34 (List.replicate n O0) (i : Int) = O0 := by
  unfold rd_T34
  rw [Int.toNat_natCast, List.getD, List.getElem?_replicate, if_pos h]; rfl
theorem rd_set_ne (n i j : Nat) (h : j < n) (hne : i ≠ j) : rd_T34 ((List.replicate n O0).set i O1) (j : Int) = O0 := by
  unfold rd_T34
  rw [Int.toNat_natCast, List.getD, List.getElem?_set_ne hne, List.getElem?_replicate, if_pos h]; rfl
theorem rd_set_eq (n i : Nat) (h : i < n) : rd_T34 ((List.replicate n O0).set i O1) (i : Int) = O1 := by
  unfold rd_T34
  rw [Int.toNat_natCast, List.getD, List.getElem?_set_self (by simpa using h)]; rfl
theorem index_none (xs : List S34) (n : Nat) (hl : xs.length = n) (hn : n ≤ 200) (h : ∀ j : Nat, j < n → rd_T34 xs (j : Int) = O0) : ∀ d i : Nat, n - i = d → i ≤ n → Ev (fun k => slices_IndexRat.l0 k xs (n : Int) (i : Int)) (-1) := by
  intro d
  induction d with
  | zero =>
    intro i hd hi
    refine ev_succ' ?_
    simp only [slices_IndexRat.l0]
    exact ev_neg (by omega) (ev_now rfl)
  | succ d ih =>
    intro i hd hi
    have key := ih (i + 1) (by omega) (by omega)
    have w : Aside0 (wrap64 ((i : Int) + 1) = ((i + 1 : Nat) : Int)) := ⟨by rw [w64 (by omega) (by omega)]; omega⟩
    refine ev_succ' ?_
    simp only [slices_IndexRat.l0]
    rw [h i (by omega), w.out]
    clear w
    exact ev_pos (by omega) (ev_pos (by omega) (ev_pos (by omega) (ev_eq fn0 (ev_neg (by simp) key))))
theorem index_at (xs : List S34) (n m : Nat) (hl : xs.length = n) (hn : n ≤ 200) (hm : m < n) (h : ∀ j : Nat, j < m → rd_T34 xs (j : Int) = O0) (h1 : rd_T34 xs (m : Int) = O1) : ∀ d i : Nat, m - i = d → i ≤ m → Ev (fun k => slices_IndexRat.l0 k xs (n : Int) (i : Int)) (m : Int) := by
  intro d
  induction d with
  | zero =>
    intro i hd hi
    have : i = m := by omega
    subst this
    refine ev_succ' ?_
    simp only [slices_IndexRat.l0]
    rw [h1]
    exact ev_pos (by omega) (ev_pos (by omega) (ev_pos (by omega) (ev_eq fn1 (ev_pos rfl (ev_now rfl)))))
  | succ d ih =>
    intro i hd hi
    have key := ih (i + 1) (by omega) (by omega)
    have w : Aside0 (wrap64 ((i : Int) + 1) = ((i + 1 : Nat) : Int)) := ⟨by rw [w64 (by omega) (by omega)]; omega⟩
    refine ev_succ' ?_
    simp only [slices_IndexRat.l0]
    rw [h i (by omega), w.out]
    clear w
    exact ev_pos (by omega) (ev_pos (by omega) (ev_pos (by omega) (ev_eq fn0 (ev_neg (by simp) key))))
theorem lead_zero (n : Nat) (hn : n ≤ 200) : Ev (fun k => vect_Lead.f k (List.replicate n O0)) (n : Int) := by
  have key := index_none (List.replicate n O0) n (by simp) hn (fun j hj => rd_rep n j hj) _ 0 rfl (by omega)
  unfold vect_Lead.f slices_IndexRat.f
  rw [List.length_replicate]
  exact ev_bind key (ev_pos (by decide) (ev_now rfl))
theorem lead_unit (n i : Nat) (hn : n ≤ 200) (hi : i < n) : Ev (fun k => vect_Lead.f k ((List.replicate n O0).set i O1)) (i : Int) := by
  have key := index_at ((List.replicate n O0).set i O1) n i (by simp) hn hi (fun j hj => rd_set_ne n i j (by omega) (by omega)) (rd_set_eq n i hi) _ 0 rfl (by omega)
  unfold vect_Lead.f slices_IndexRat.f
  rw [List.length_set, List.length_replicate]
  exact ev_bind key (ev_neg (by omega) (ev_now rfl))
theorem refused3 (n i : Int) (x5 : List S34) : Ev (fun k => triviumlaw11_VectMakes.j3 k n i x5 [] 2 true) true := by
  refine ev_succ' ?_
  simp only [triviumlaw11_VectMakes.j3]
  exact ev_pos (by first | rfl | trivial) (ev_pos (by first | rfl | trivial) (ev_pos (by simp) (ev_bind works11_ev (ev_now rfl))))
theorem makes_l0 (n : Nat) (hn : n ≤ 200) (i : Int) (u : List S34) (e : Int) (hu : Ev (fun k => vect_Unit.f k (n : Int) i) (u, e)) (h : (0 ≤ i ∧ i < n ∧ e = 0 ∧ u = (List.replicate n O0).set i.toNat O1) ∨ ((i < 0 ∨ n ≤ i) ∧ e = 2 ∧ u = [])) :
    ∀ d j : Nat, n - j = d → j ≤ n → Ev (fun k => triviumlaw11_VectMakes.l0 k (n : Int) i (List.replicate n O0) u e (j : Int)) true := by
  intro d
  induction d with
  | zero =>
    intro j hd hj
    refine ev_succ' ?_
    simp only [triviumlaw11_VectMakes.l0]
    refine ev_neg (by omega) ?_
    rcases h with ⟨h0, h1, rfl, rfl⟩ | ⟨h0, rfl, rfl⟩
    · obtain ⟨m, rfl⟩ := Int.eq_ofNat_of_zero_le h0
      refine ev_neg (by omega) ?_
      rw [decide_eq_false (by omega)]
      refine ev_succ' ?_
      simp only [triviumlaw11_VectMakes.j3]
      rw [Int.toNat_natCast, rd_set_eq n m (by omega)]
      refine ev_neg (by simp) (ev_pos (by first | rfl | trivial) (ev_pos (by simp) (ev_bind (lead_unit n m hn (by omega)) (ev_pos rfl (ev_pos (by omega) (ev_pos (by simp; omega) (ev_bind one_ev (ev_pos rfl (ev_bind (lead_zero n hn) (ev_pos rfl (ev_bind works11_ev (ev_now rfl))))))))))))
    · refine ev_ite (fun h1 => refused3 _ _ _) (fun h1 => ?_)
      rw [decide_eq_true (by omega)]
      exact refused3 _ _ _
  | succ d ih =>
    intro j hd hj
    have key := ih (j + 1) (by omega) (by omega)
    have w : Aside0 (wrap64 ((j : Int) + 1) = ((j + 1 : Nat) : Int)) := ⟨by rw [w64 (by omega) (by omega)]; omega⟩
    refine ev_succ' ?_
    simp only [triviumlaw11_VectMakes.l0]
    rw [rd_rep n j (by omega), w.out]
    clear w
    exact ev_pos (by omega) (ev_pos (by omega) (ev_pos (by simp; omega) (ev_bind of0_ev (ev_bind same0_ev (ev_pos rfl key)))))
theorem VectMakes : triviumlaw11_VectMakes.Pure := by
  intro n i hn hi
  replace hn := wf_i64 hn
  replace hi := wf_i64 hi
  refine Ev.rounds ?_
  unfold triviumlaw11_VectMakes.f
  by_cases h : n < 0 ∨ 200 < n
  · have J : Ev (fun k => triviumlaw11_VectMakes.j0 k n i [] 2 [] 2 true) true := by
      refine ev_succ' ?_
      simp only [triviumlaw11_VectMakes.j0]
      exact ev_pos (by first | rfl | trivial) (ev_pos (by first | rfl | trivial) (ev_pos (by first | rfl | trivial) (ev_pos (w64 (by decide) (by decide)) (ev_bind works11_ev (ev_now rfl)))))
    refine ev_bind (zero_no n h) (ev_bind (unit_no n i (by omega)) (ev_ite (fun h1 => J) (fun h1 => ?_)))
    rw [decide_eq_true (by omega)]
    exact J
  · obtain ⟨m, rfl⟩ := Int.eq_ofNat_of_zero_le (show 0 ≤ n by omega)
    have key : ∃ (u : List S34) (e : Int), Ev (fun k => vect_Unit.f k (m : Int) i) (u, e) ∧ ((0 ≤ i ∧ i < m ∧ e = 0 ∧ u = (List.replicate m O0).set i.toNat O1) ∨ ((i < 0 ∨ m ≤ i) ∧ e = 2 ∧ u = [])) := by
      by_cases hb : i < 0 ∨ (m : Int) ≤ i
      · exact ⟨_, _, unit_no m i (by omega), .inr ⟨by omega, rfl, rfl⟩⟩
      · obtain ⟨j, rfl⟩ := Int.eq_ofNat_of_zero_le (show 0 ≤ i by omega)
        exact ⟨_, _, unit_ev m j (by omega) (by omega), .inl ⟨by omega, by omega, rfl, by rw [Int.toNat_natCast]⟩⟩
    obtain ⟨u, e, hu, hue⟩ := key
    refine ev_bind (zero_ev m (by omega)) (ev_bind hu (ev_neg (by omega) ?_))
    rw [decide_eq_false (by omega)]
    refine ev_succ' ?_
    simp only [triviumlaw11_VectMakes.j0]
    refine ev_neg (by simp) (ev_pos (by simp) (ev_succ' ?_))
    simp only [triviumlaw11_VectMakes.j1]
    exact ev_neg (by simp) (makes_l0 m (by omega) i u e hu hue _ 0 rfl (by omega))
end Go.Proofs.Ytpmbcdakpmceiaa.Pure

end
section
namespace Go.Proofs.Ytpmbcdakpmceiaa.vectMakes
open Go.Proofs.YtpmbcdakpmceiaaW
open Go.ChangeShapes Go.WideShapes Go.ChangeAt Go.RowKit
open Go.ChangeMaps (open_string shut_string)
set_option linter.unusedVariables false
theorem own : ownKnob Try.prog.godebug = none := by kernel_rfl
set_option maxRecDepth 100000 in
theorem lifted (os : Os) (started : os.Started) (H : Type) (enc : TypeId × Value → H) :
    ReturnsInHanded {} Try.checked os 3 .any (Rows.vectMakesSpec.pre6 enc Try.prog Try.f3 Rows.vectMakesRow.domain false) (Rows.vectMakesSpec.post enc Try.prog Try.f3 false true false false) := by
  refine returnsInHanded_of_change_sized (C := Try.checked) own started (by kernel_rfl) Try.func3
    (ChangeSpec.witness6 (enc := enc) (C := Try.checked) false ⟨#[], #[.int .i64 0, .int .i64 0], []⟩ 8 (by kernel_rfl) (by kernel_rfl) (by kernel_rfl) (by kernel_rfl)) ?_
  intro W base args ds gs before hval0 hW hcnd hsz0 _
  have hsz : (DataW.weightsEach Try.prog (Try.f3.params.toList ++ Rows.vectMakesSpec.plain.varTypes Try.prog) (ds ++ gs)).all (· ≤ reachBytes) = true := hsz0
  have hval : ∀ (j : Nat) t v, Try.f3.params[j]? = some t → args[j]? = some v → Value.okWide Try.prog W .any base t v := hval0
  have hW' := hW
  obtain ⟨p, q, hA0, hV, rfl, hfz, hnd⟩ := hW
  have hA : DataW.TrodAll enc Try.prog W 0 (fun _ => true) true Try.f3.params.toList args.toList ds p := hA0
  rw [Try.params3] at hA hval hsz
  obtain ⟨v0, vs0, d0, ds0, p0, q0, hargs, rfl, rfl, h0, r0⟩ := trodAll_cons hA
  obtain ⟨v1, vs1, d1, ds1, p1, q1, rfl, rfl, rfl, h1, r1⟩ := trodAll_cons r0
  obtain ⟨rfl, rfl, rfl⟩ := trodAll_nil r1
  obtain rfl : args = #[v0, v1] := by cases args; simp_all
  obtain ⟨rfl, rfl⟩ := trodVars_none hV
  obtain ⟨a0, rfl, rfl, rfl, w0⟩ := open_int Try.underlying3 (hval 0 3 v0 rfl rfl) h0
  obtain ⟨a1, rfl, rfl, rfl, w1⟩ := open_int Try.underlying3 (hval 1 3 v1 rfl rfl) h1
  clear hA0 hval0 hsz0 hsz
  refine (F.triviumlaw11_VectMakes.walk Pure.VectMakes a0 a1 W w0 w1).mono fun e W' ⟨he, bel⟩ => ?_
  subst he
  exact ⟨_, rfl, _, _, _, [], _, [], hW', trodAll_mk1 (shut_bool Try.underlying4 _), (trodAll_cons_mk (shut_int Try.underlying3 w0) (trodAll_cons_mk (shut_int Try.underlying3 w1) trodAll_mk0)), rfl, bel.frame _, fun h => by cases h⟩
theorem over : Rows.vectMakesRow.holds Try.pinned (OpenSpec.ofChange Rows.vectMakesSpec) :=
  OpenClaim.holds_of_wide 3 Try.f3 rfl rfl rfl rfl rfl rfl rfl ⟨rfl, rfl, rfl, rfl, rfl⟩ rfl rfl rfl rfl rfl (by kernel_rfl) Try.func3 (by kernel_rfl)
    (of_decide_eq_true (by kernel_rfl)) (by unfold Func.isWrapper; first | (rw [if_pos (by decide +kernel)]; kernel_rfl) | (rw [if_neg (by decide +kernel)]; exact ⟨rfl, rfl⟩))
    (fun os started H enc _ => lifted os started H enc)
theorem proved : Rows.VectMakesSaid := over
#print axioms proved
end Go.Proofs.Ytpmbcdakpmceiaa.vectMakes
namespace Go.Proofs.Ytpmbcdakpmceiaa
theorem vectMakes_holds : Rows.VectMakesSaid := vectMakes.proved
end Go.Proofs.Ytpmbcdakpmceiaa

end
