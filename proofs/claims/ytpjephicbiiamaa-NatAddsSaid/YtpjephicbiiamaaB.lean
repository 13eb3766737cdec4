/- What the functions of layer 2, and the reference of layer 2, come to, on numbers: each is told by the numbers that its digits make. -/
import Derived.Test.YtpjephicbiiamaaF0
import Derived.Test.YtpjephicbiiamaaF1
import Derived.Test.YtpjephicbiiamaaF2
import Derived.Test.YtpjephicbiiamaaF3
import Derived.Test.YtpjephicbiiamaaA
namespace Go.Proofs.Ytpjephicbiiamaa.B
set_option linter.unusedVariables false
set_option linter.unusedSimpArgs false
open Go Go.RowKit Go.Proofs.YtpjephicbiiamaaW.PrintWords Go.Proofs.YtpjephicbiiamaaW.PrintLast Go.Proofs.YtpjephicbiiamaaW.PrintMore Go.Proofs.Ytpjephicbiiamaa.F Go.Proofs.Ytpjephicbiiamaa.A

abbrev B : Int := 4294967296
abbrev D : Int := 10000
theorem ev_succ {α : Type} {g : Nat → Option α} {r : α} (h : Ev (fun k => g (k + 1)) r) : Ev g r := by
  obtain ⟨K, hK⟩ := h
  refine ⟨K + 1, fun k hk => ?_⟩
  obtain ⟨m, rfl⟩ : ∃ m, k = m + 1 := ⟨k - 1, by omega⟩
  exact hK m (by omega)
theorem strip_snoc_zero (xs : List Int) : strip (xs ++ [0]) = strip xs := by
  induction xs with
  | nil => rfl
  | cons x xs ih => rw [List.cons_append, strip, strip, ih]
theorem strip_snoc (xs : List Int) {y : Int} (hy : y ≠ 0) : strip (xs ++ [y]) = xs ++ [y] := by
  induction xs with
  | nil => simp [strip, hy]
  | cons x xs ih =>
    rw [List.cons_append, strip, ih]
    cases xs <;> rfl
theorem take_succ_rd (xs : List Int) (i : Nat) (h : i < xs.length) : xs.take (i + 1) = xs.take i ++ [rd xs i] := by
  rw [List.take_succ_eq_append_getElem h, rd_nat, List.getD, List.getElem?_eq_getElem h]; rfl
theorem cast_pred (i : Nat) : ((i + 1 : Nat) : Int) - 1 = i := by omega
theorem cast_succ (i : Nat) : (i : Int) + 1 = ((i + 1 : Nat) : Int) := by omega

/-! ### trim -/
theorem trim_l0 (xs : List Int) (hl : xs.length < 17592186044416) : ∀ i : Nat, i ≤ xs.length → Ev (fun k => nat_trim.l0 k xs (i : Int)) (strip (xs.take i)) := by
  intro i
  induction i with
  | zero =>
    intro h
    refine ev_succ ?_
    simp only [nat_trim.l0]
    refine ev_neg (by omega) (ev_pos (by omega) (ev_pos (by omega) (ev_now ?_)))
    rfl
  | succ i ih =>
    intro h
    refine ev_succ ?_
    simp only [nat_trim.l0, cast_pred, Int.toNat_natCast]
    simp (disch := omega) only [w64]
    refine ev_pos (by omega) (ev_pos (by omega) (ev_pos (by omega) ?_))
    rw [take_succ_rd xs i (by omega)]
    refine ev_ite (fun hz => ?_) (fun hz => ?_)
    · rw [hz, strip_snoc_zero]; exact ih (by omega)
    · refine ev_pos (by omega) (ev_pos (by omega) (ev_now ?_))
      rw [strip_snoc _ hz]
theorem trim_ev (xs : List Int) (hl : xs.length < 17592186044416) : Ev (fun k => nat_trim.f k xs) (strip xs) := by
  have := trim_l0 xs hl xs.length (Nat.le_refl _)
  rwa [List.take_length] at this
theorem rtrim_l0 (xs : List Int) (hl : xs.length < 17592186044416) : ∀ i : Nat, i ≤ xs.length → Ev (fun k => triviumref02_Trim.l0 k xs (i : Int)) (strip (xs.take i)) := by
  intro i
  induction i with
  | zero =>
    intro h
    refine ev_succ ?_
    simp only [triviumref02_Trim.l0, Option.bind_some]
    refine ev_neg (by omega) (ev_pos (by omega) (ev_pos (by omega) (ev_pos (by simp; try omega) (ev_now ?_))))
    rfl
  | succ i ih =>
    intro h
    refine ev_succ ?_
    simp only [triviumref02_Trim.l0, Option.bind_some, cast_pred, Int.toNat_natCast]
    simp (disch := omega) only [w64]
    refine ev_pos (by omega) (ev_pos (by omega) (ev_pos (by omega) ?_))
    rw [take_succ_rd xs i (by omega)]
    refine ev_ite (fun hz => ?_) (fun hz => ?_)
    · rw [hz, strip_snoc_zero]; exact ih (by omega)
    · refine ev_pos (by omega) (ev_pos (by omega) (ev_pos (by simp [List.length_take]; omega) (ev_now ?_)))
      rw [strip_snoc _ hz]; rfl
theorem rtrim_ev (xs : List Int) (hl : xs.length < 17592186044416) : Ev (fun k => triviumref02_Trim.f k xs) (strip xs) := by
  have := rtrim_l0 xs hl xs.length (Nat.le_refl _)
  rwa [List.take_length] at this

/-! ### Clean -/
theorem clean_l1 : ∀ n : Nat, ∀ xs : List Int, xs.length = n → xs.length < 17592186044416 → Ev (fun k => triviumref02_Clean.l1 k xs) (strip xs) := by
  intro n
  induction n with
  | zero =>
    intro xs hn hl
    refine ev_succ ?_
    simp only [triviumref02_Clean.l1]
    refine ev_neg (by omega) (ev_now ?_)
    rw [List.length_eq_zero_iff.1 hn]; rfl
  | succ n ih =>
    intro xs hn hl
    have e : xs = xs.take n ++ [rd xs n] := by rw [← take_succ_rd xs n (by omega), ← hn, List.take_length]
    refine ev_succ ?_
    simp only [triviumref02_Clean.l1]
    rw [hn]
    simp only [cast_pred, Int.toNat_natCast]
    simp (disch := omega) only [w64, Int.toNat_natCast]
    refine ev_pos (by omega) (ev_pos (by omega) (ev_pos (by omega) ?_))
    refine ev_ite (fun hz => ?_) (fun hz => ?_)
    · rw [hz] at e
      refine ev_pos (by omega) ?_
      conv => rhs; rw [e, strip_snoc_zero]
      exact ih _ (by rw [List.length_take]; omega) (by rw [List.length_take]; omega)
    · refine ev_now ?_
      conv => rhs; rw [e, strip_snoc _ hz]
      exact e
/-- The number of so many limbs, each cut to 32 bits. -/
def cl (xs : List Int) (m : Nat) : Int := val B ((xs.take m).map (· % B))
theorem dig_map (xs : List Int) : Dig B (xs.map (· % B)) := by
  intro y hy
  obtain ⟨x, -, rfl⟩ := List.mem_map.1 hy
  exact ⟨Int.emod_nonneg _ (by decide), Int.emod_lt_of_pos _ (by decide)⟩
theorem cl_nonneg (xs : List Int) (m : Nat) : 0 ≤ cl xs m := val_nonneg (by decide) (dig_map _)
theorem cl_lt (xs : List Int) (m : Nat) : cl xs m < B ^ m := by
  have h := val_lt (b := B) (by decide) (dig_map (xs.take m))
  have h2 : ((xs.take m).map (· % B)).length ≤ m := by rw [List.length_map, List.length_take]; omega
  exact Int.lt_of_lt_of_le h (pow_mono (by decide) h2)
theorem clean_l0 (xs : List Int) (m : Nat) (hu : ∀ x ∈ xs, 0 ≤ x) (hl : xs.length < 17592186044416) : ∀ d i : Nat, min xs.length m - i = d → i ≤ min xs.length m →
    Ev (fun k => triviumref02_Clean.l0 k xs m ((xs.take i).map (· % B)) i) (strip ((xs.take m).map (· % B))) := by
  intro d
  induction d with
  | zero =>
    intro i hd hi
    have e : xs.take i = xs.take m := by
      rcases Nat.le_total xs.length m with h | h
      · rw [List.take_of_length_le (show xs.length ≤ i by omega), List.take_of_length_le h]
      · rw [show i = m by omega]
    have key : Ev (fun k => triviumref02_Clean.j1 k ((xs.take i).map (· % B))) (strip ((xs.take m).map (· % B))) := by
      refine ev_succ ?_
      simp only [triviumref02_Clean.j1]
      rw [e]
      exact clean_l1 _ _ rfl (by rw [List.length_map, List.length_take]; omega)
    refine ev_succ ?_
    simp only [triviumref02_Clean.l0]
    refine ev_ite (fun h1 => ?_) (fun h1 => key)
    exact ev_neg (by omega) key
  | succ d ih =>
    intro i hd hi
    refine ev_succ ?_
    simp only [triviumref02_Clean.l0]
    simp (disch := omega) only [w64]
    have hr : 0 ≤ rd xs i := by
      rw [rd_nat, List.getD, List.getElem?_eq_getElem (show i < xs.length by omega)]
      exact hu _ (List.getElem_mem _)
    refine ev_pos (by omega) (ev_pos (by omega) (ev_pos (by omega) (ev_pos (by rw [List.length_map, List.length_take]; omega) ?_)))
    have := ih (i + 1) (by omega) (by omega)
    rw [take_succ_rd xs i (by omega), List.map_append] at this
    rw [cast_succ, Int.tmod_eq_emod_of_nonneg hr]
    exact this
theorem clean_ev (xs : List Int) (m : Nat) (hu : ∀ x ∈ xs, 0 ≤ x) (hl : xs.length < 17592186044416) : Ev (fun k => triviumref02_Clean.f k xs m) (dg B (cl xs m)) := by
  have := clean_l0 xs m hu hl _ 0 rfl (by omega)
  rw [strip_dg (by decide) (dig_map _)] at this
  exact this

/-! ### Same -/
theorem same_l0 (xs ys : List Int) (hl : xs.length < 17592186044416) (he : xs.length = ys.length) : ∀ d i : Nat, xs.length - i = d → i ≤ xs.length → xs.take i = ys.take i →
    Ev (fun k => triviumref02_Same.l0 k xs ys i) (decide (xs = ys)) := by
  intro d
  induction d with
  | zero =>
    intro i hd hi hp
    refine ev_succ ?_
    simp only [triviumref02_Same.l0]
    refine ev_neg (by omega) (ev_now ?_)
    rw [List.take_of_length_le (by omega), List.take_of_length_le (by omega)] at hp
    simp [hp]
  | succ d ih =>
    intro i hd hi hp
    refine ev_succ ?_
    simp only [triviumref02_Same.l0]
    simp (disch := omega) only [w64]
    refine ev_pos (by omega) (ev_pos (by omega) (ev_pos (by omega) ?_))
    refine ev_ite (fun hr => ?_) (fun hr => ev_now ?_)
    · rw [cast_succ]
      exact ih (i + 1) (by omega) (by omega) (by rw [take_succ_rd xs i (by omega), take_succ_rd ys i (by omega), hp, hr])
    · have : xs ≠ ys := fun h => hr (by rw [h])
      simp [this]
theorem same_ev (xs ys : List Int) (hl : xs.length < 17592186044416) : Ev (fun k => triviumref02_Same.f k xs ys) (decide (xs = ys)) := by
  unfold triviumref02_Same.f
  refine ev_ite (fun h => ?_) (fun h => ev_now ?_)
  · exact same_l0 xs ys hl (by omega) _ 0 rfl (by omega) rfl
  · have : xs ≠ ys := fun e => h (by rw [e])
    simp [this]

/-! ### Cmp -/
def cmpI (x y : Int) : Int := if x < y then -1 else if y < x then 1 else 0
theorem val_lt_top {b : Int} (hb : 2 ≤ b) {p q s : List Int} {x y : Int} (hp : Dig b p) (hq : Dig b q) (hl : p.length = q.length) (hxy : x < y) :
    val b (p ++ x :: s) < val b (q ++ y :: s) := by
  rw [val_append, val_append, hl]
  have h1 := val_lt (b := b) (by omega) hp
  have h2 := val_nonneg (b := b) (by omega) hq
  have hpw : 0 < b ^ q.length := Int.pow_pos (by omega)
  have h3 : b ^ q.length * (val b (x :: s) + 1) ≤ b ^ q.length * val b (y :: s) := Int.mul_le_mul_of_nonneg_left (by simp only [val]; omega) (Int.le_of_lt hpw)
  rw [hl] at h1
  rw [Int.mul_add] at h3
  omega
theorem split_at (xs : List Int) (i : Nat) (h : i < xs.length) : xs = xs.take i ++ rd xs i :: xs.drop (i + 1) := by
  conv => lhs; rw [← List.take_append_drop (i + 1) xs, take_succ_rd xs i h]
  simp
theorem cmp_l0 {b : Int} (hb : 2 ≤ b) (f : Nat → List Int → List Int → Int → Option Int)
    (hf : ∀ k x0 x1 x5, f (k + 1) x0 x1 x5 = if x5 ≥ 0 then (if 0 ≤ x5 then (if x5 < (x0.length : Int) then (if x5 < (x1.length : Int) then (if (rd x0 x5) < (rd x1 x5) then (some (-1)) else (if (rd x0 x5) > (rd x1 x5) then (some 1) else (f k x0 x1 (wrap64 (x5 - 1))))) else (none)) else (none)) else (none)) else (some 0))
    (xs ys : List Int) (hx : Dig b xs) (hy : Dig b ys) (hl : xs.length < 17592186044416) (he : xs.length = ys.length) : ∀ i : Nat, i ≤ xs.length → xs.drop i = ys.drop i →
    Ev (fun k => f k xs ys ((i : Int) - 1)) (cmpI (val b xs) (val b ys)) := by
  intro i
  induction i with
  | zero =>
    intro hi hp
    refine ev_succ ?_
    simp only [hf]
    refine ev_neg (by omega) (ev_now ?_)
    simp only [List.drop_zero] at hp
    simp [cmpI, hp]
  | succ i ih =>
    intro hi hp
    refine ev_succ ?_
    simp only [hf, cast_pred]
    simp (disch := omega) only [w64]
    refine ev_pos (by omega) (ev_pos (by omega) (ev_pos (by omega) (ev_pos (by omega) ?_)))
    have ex := split_at xs i (by omega)
    have ey := split_at ys i (by omega)
    rw [← hp] at ey
    refine ev_ite (fun hr => ev_now ?_) (fun hr => ev_ite (fun hr' => ev_now ?_) (fun hr' => ?_))
    · have := val_lt_top hb (s := xs.drop (i + 1)) (hx.take i) (hy.take i) (by simp; omega) hr
      rw [← ex, ← ey] at this
      simp [cmpI, this]
    · have := val_lt_top hb (s := xs.drop (i + 1)) (hy.take i) (hx.take i) (by simp; omega) hr'
      rw [← ex, ← ey] at this
      simp [cmpI, this, Int.not_lt.2 (Int.le_of_lt this)]
    · refine ih (by omega) ?_
      have e : rd xs i = rd ys i := by omega
      have gx : xs.drop i = rd xs i :: xs.drop (i + 1) := by
        rw [List.drop_eq_getElem_cons (show i < xs.length by omega), rd_nat, List.getD, List.getElem?_eq_getElem (show i < xs.length by omega)]; rfl
      have gy : ys.drop i = rd ys i :: ys.drop (i + 1) := by
        rw [List.drop_eq_getElem_cons (show i < ys.length by omega), rd_nat, List.getD, List.getElem?_eq_getElem (show i < ys.length by omega)]; rfl
      rw [gx, gy, e, hp]
/-- Of fewer digits, the highest of them no nought: less. -/
theorem dg_lt_of_len {b x y : Int} (hb : 2 ≤ b) (hx : 0 ≤ x) (hy : 0 ≤ y) (h : (dg b x).length < (dg b y).length) : x < y := by
  apply Int.lt_of_not_ge
  intro hge
  have h1 := val_lt (b := b) (by omega) (dg_dig hb x hx)
  rw [val_dg hb x hx] at h1
  have := dg_len_le hb _ y hy (Int.lt_of_le_of_lt hge h1)
  omega
theorem cmp_ev {x y : Int} (hx : 0 ≤ x) (hy : 0 ≤ y) (hl : (dg B x).length < 17592186044416) : Ev (fun k => nat_Cmp.f k (dg B x) (dg B y)) (cmpI x y) := by
  have hb : (2 : Int) ≤ B := by decide
  unfold nat_Cmp.f
  refine ev_ite (fun h => ev_now ?_) (fun h => ev_ite (fun h' => ev_now ?_) (fun h' => ?_))
  · have := dg_lt_of_len hb hx hy (by omega)
    simp [cmpI, this]
  · have := dg_lt_of_len hb hy hx (by omega)
    simp [cmpI, this, Int.not_lt.2 (Int.le_of_lt this)]
  · simp (disch := omega) only [w64]
    have := cmp_l0 hb nat_Cmp.l0 (fun _ _ _ _ => rfl) (dg B x) (dg B y) (dg_dig hb x hx) (dg_dig hb y hy) hl (by omega) _ (Nat.le_refl _) (by rw [List.drop_length, List.drop_eq_nil_of_le (by omega)])
    rwa [val_dg hb x hx, val_dg hb y hy] at this
theorem rcmp_ev {x y : Int} (hx : 0 ≤ x) (hy : 0 ≤ y) (hl : (dg D x).length < 17592186044416) : Ev (fun k => triviumref02_Cmp.f k (dg D x) (dg D y)) (cmpI x y) := by
  have hb : (2 : Int) ≤ D := by decide
  unfold triviumref02_Cmp.f
  refine ev_ite (fun h => ?_) (fun h => ev_ite (fun h' => ev_now ?_) (fun h' => ev_now ?_))
  · simp (disch := omega) only [w64]
    have := cmp_l0 hb triviumref02_Cmp.l0 (fun _ _ _ _ => rfl) (dg D x) (dg D y) (dg_dig hb x hx) (dg_dig hb y hy) hl (by omega) _ (Nat.le_refl _) (by rw [List.drop_length, List.drop_eq_nil_of_le (by omega)])
    rwa [val_dg hb x hx, val_dg hb y hy] at this
  · have := dg_lt_of_len hb hx hy (by omega)
    simp [cmpI, this]
  · have := dg_lt_of_len hb hy hx (by omega)
    simp [cmpI, this, Int.not_lt.2 (Int.le_of_lt this)]
end Go.Proofs.Ytpjephicbiiamaa.B
