/- Sums, differences, small factors and small divisors of layer 2's reference, and the way from limbs to its digits and back, on numbers. -/
import Derived.Test.YtpjephicbiiamaaF0
import Derived.Test.YtpjephicbiiamaaF3
import Derived.Test.YtpjephicbiiamaaF4
import Derived.Test.YtpjephicbiiamaaB
namespace Go.Proofs.Ytpjephicbiiamaa.B
set_option linter.unusedVariables false
set_option linter.unusedSimpArgs false
open Go Go.RowKit Go.Proofs.YtpjephicbiiamaaW.PrintWords Go.Proofs.YtpjephicbiiamaaW.PrintLast Go.Proofs.YtpjephicbiiamaaW.PrintMore Go.Proofs.Ytpjephicbiiamaa.F Go.Proofs.Ytpjephicbiiamaa.A

theorem hD : (2 : Int) ≤ D := by decide
theorem hB : (2 : Int) ≤ B := by decide
theorem pow_base_mono {a b : Int} (ha : 0 ≤ a) (h : a ≤ b) : ∀ k : Nat, a ^ k ≤ b ^ k
  | 0 => by simp
  | k + 1 => by
    rw [Int.pow_succ, Int.pow_succ]
    have h1 : 0 ≤ a ^ k := Int.pow_nonneg ha
    exact Int.mul_le_mul (pow_base_mono ha h k) h ha (by have := pow_base_mono ha h k; omega)
theorem len_le {b x : Int} (hb : 2 ≤ b) {K : Nat} (h0 : 0 ≤ x) (h1 : x < 2 ^ K) : (dg b x).length ≤ K :=
  dg_len_le hb K x h0 (Int.lt_of_lt_of_le h1 (pow_base_mono (by decide) hb K))
theorem ediv_tdiv {a b : Int} (h : 0 ≤ a) : Int.tdiv a b = a / b := Int.tdiv_eq_ediv_of_nonneg h
theorem emod_tmod {a b : Int} (h : 0 ≤ a) : Int.tmod a b = a % b := Int.tmod_eq_emod_of_nonneg h
theorem drop_rd (xs : List Int) (i : Nat) (h : i < xs.length) : xs.drop i = rd xs i :: xs.drop (i + 1) := by
  rw [List.drop_eq_getElem_cons h, rd_nat, List.getD, List.getElem?_eq_getElem h]; rfl
theorem rd_nonneg_lt {b : Int} {xs : List Int} (h : Dig b xs) {i : Nat} (hi : i < xs.length) : 0 ≤ rd xs i ∧ rd xs i < b := h.rd (by omega) (by omega)

/-! ### MulAdd -/
theorem muladd_l1 : ∀ c : Int, 0 ≤ c → ∀ out : List Int, Dig D out → c ≤ 9223372036854775807 → out.length + (dg D c).length < 17592186044416 →
    Ev (fun k => triviumref02_MulAdd.l1 k c out) (dg D (val D out + D ^ out.length * c)) := by
  refine dg_ind hD ?_ ?_
  · intro out ho hc hl
    refine ev_succ ?_
    simp only [triviumref02_MulAdd.l1]
    refine ev_neg (by omega) (ev_bind (rtrim_ev out (by omega)) (ev_now ?_))
    rw [strip_dg hD ho, Int.mul_zero, Int.add_zero]
  · intro c hc ih out ho hc2 hl
    have e : (dg D c).length = (dg D (c / D)).length + 1 := by rw [dg_pos hD hc]; rfl
    simp only [D] at *
    refine ev_succ ?_
    simp only [triviumref02_MulAdd.l1]
    rw [ediv_tdiv (by omega), emod_tmod (by omega)]
    simp (disch := omega) only [w64]
    refine ev_pos hc (ev_pos (by omega) ?_)
    have := ih (out ++ [c % 10000]) (ho.append (Dig.nil.cons (by omega) (by omega))) (by omega) (by rw [List.length_append]; simp; omega)
    rw [val_append, List.length_append] at this
    have ev : val 10000 out + 10000 ^ out.length * val 10000 [c % 10000] + 10000 ^ (out.length + [c % 10000].length) * (c / 10000) = val 10000 out + 10000 ^ out.length * c := by
      have h2 : 10000 ^ (out.length + [c % 10000].length) * (c / 10000) = 10000 ^ out.length * (10000 * (c / 10000)) := by
        rw [Int.pow_add, List.length_singleton, Int.pow_one, Int.mul_assoc]
      rw [h2, Int.add_assoc, ← Int.mul_add]
      congr 2
      simp only [val]; omega
    rw [ev] at this
    exact this
theorem muladd_l0 (xs : List Int) (m : Int) (hx : Dig D xs) (hm0 : 0 ≤ m) (hm : m ≤ B) (hl : xs.length < 1099511627776) : ∀ d i : Nat, xs.length - i = d → i ≤ xs.length → ∀ (c : Int) (out : List Int), 0 ≤ c → c ≤ B → Dig D out → out.length = i →
    Ev (fun k => triviumref02_MulAdd.l0 k xs m c out i) (dg D (val D out + D ^ out.length * (c + m * val D (xs.drop i)))) := by
  intro d
  induction d with
  | zero =>
    intro i hd hi c out hc0 hc ho hlo
    refine ev_succ ?_
    simp only [triviumref02_MulAdd.l0]
    rw [List.drop_eq_nil_of_le (by omega), val, Int.mul_zero, Int.add_zero]
    have hcl : (dg D c).length ≤ 9 := dg_len_le hD 9 c hc0 (by simp only [D, B] at *; omega)
    exact ev_neg (by omega) (muladd_l1 c hc0 out ho (by simp only [B] at hc; omega) (by omega))
  | succ d ih =>
    intro i hd hi c out hc0 hc ho hlo
    have hr := rd_nonneg_lt hx (show i < xs.length by omega)
    have hp0 : 0 ≤ rd xs i * m := Int.mul_nonneg hr.1 hm0
    have hp1 : rd xs i * m ≤ 9999 * m := Int.mul_le_mul_of_nonneg_right (by simp only [D] at hr; omega) hm0
    refine ev_succ ?_
    simp only [triviumref02_MulAdd.l0]
    simp only [B, D] at *
    simp (disch := omega) only [w64, ediv_tdiv, emod_tmod]
    refine ev_pos (by omega) (ev_pos (by omega) (ev_pos (by omega) ?_))
    have hq0 : 0 ≤ c + rd xs i * m := by omega
    generalize hp : rd xs i * m = p at *
    have := ih (i + 1) (by omega) (by omega) ((c + p) / 10000) (out ++ [(c + p) % 10000]) (by omega) (by omega) (ho.append (Dig.nil.cons (by omega) (by omega))) (by rw [List.length_append, hlo]; rfl)
    rw [cast_succ]
    have ev : val 10000 (out ++ [(c + p) % 10000]) + 10000 ^ (out ++ [(c + p) % 10000]).length * ((c + p) / 10000 + m * val 10000 (xs.drop (i + 1))) = val 10000 out + 10000 ^ out.length * (c + m * val 10000 (xs.drop i)) := by
      rw [val_append, List.length_append, Int.pow_add, drop_rd xs i (by omega)]
      simp only [val, List.length_cons, List.length_nil, Int.mul_zero, Int.add_zero, Nat.zero_add, Int.pow_succ, Int.pow_zero, Int.one_mul]
      rw [Int.mul_assoc, Int.add_assoc, ← Int.mul_add]
      congr 2
      have : m * (rd xs ↑i + 10000 * val 10000 (xs.drop (i + 1))) = p + 10000 * (m * val 10000 (xs.drop (i + 1))) := by
        rw [Int.mul_add, Int.mul_comm m, hp, ← Int.mul_assoc, Int.mul_comm m 10000, Int.mul_assoc]
      rw [this]
      omega
    rw [ev] at this
    exact this
theorem muladd_ev {x m c : Int} (hx : 0 ≤ x) (hm0 : 0 ≤ m) (hm : m ≤ B) (hc0 : 0 ≤ c) (hc : c ≤ B) (hl : (dg D x).length < 1099511627776) :
    Ev (fun k => triviumref02_MulAdd.f k (dg D x) m c) (dg D (x * m + c)) := by
  have := muladd_l0 (dg D x) m (dg_dig hD x hx) hm0 hm hl _ 0 rfl (by omega) c [] hc0 hc Dig.nil rfl
  rw [List.drop_zero, val_dg hD x hx] at this
  have e : val D [] + D ^ ([] : List Int).length * (c + m * x) = x * m + c := by
    simp [val, Int.mul_comm m x]; omega
  rw [e] at this
  exact this

/-! ### DivSmall -/
theorem set_zeros (i : Nat) (q : List Int) (v : Int) : (List.replicate (i + 1) 0 ++ q).set i v = List.replicate i 0 ++ v :: q := by
  induction i with
  | zero => rfl
  | succ i ih => rw [List.replicate_succ, List.cons_append, List.set_cons_succ, ih]; rfl
theorem divsmall_l0 (xs : List Int) (d : Int) (hx : Dig D xs) (hd0 : 0 < d) (hd : d ≤ B) (hl : xs.length < 1099511627776) : ∀ i : Nat, i ≤ xs.length → ∀ (q : List Int) (r : Int), Dig D q → 0 ≤ r → r < d →
    d * val D q + r = val D (xs.drop i) → q.length + i = xs.length →
    Ev (fun k => triviumref02_DivSmall.l0 k xs d (List.replicate i 0 ++ q) r ((i : Int) - 1)) (dg D (val D xs / d), val D xs % d) := by
  intro i
  induction i with
  | zero =>
    intro hi q r hq hr0 hr he hlq
    refine ev_succ ?_
    simp only [triviumref02_DivSmall.l0]
    refine ev_neg (by omega) (ev_bind (rtrim_ev _ (by simp; omega)) (ev_now ?_))
    rw [List.drop_zero] at he
    have e1 : val D xs / d = val D q := by
      rw [← he, Int.mul_add_ediv_left _ _ (by omega), Int.ediv_eq_zero_of_lt hr0 hr]; omega
    have e2 : val D xs % d = r := by
      rw [← he, Int.mul_add_emod_self_left, Int.emod_eq_of_lt hr0 hr]
    rw [e1, e2]
    simp only [List.replicate_zero, List.nil_append]
    rw [strip_dg hD hq]
  | succ i ih =>
    intro hi q r hq hr0 hr he hlq
    have ha := rd_nonneg_lt hx (show i < xs.length by omega)
    simp only [B, D] at *
    refine ev_succ ?_
    simp only [triviumref02_DivSmall.l0, cast_pred]
    have ht0 : 0 ≤ 10000 * r + rd xs i := by omega
    simp (disch := omega) only [w64]
    rw [ediv_tdiv ht0, emod_tmod ht0]
    have hqd : (10000 * r + rd xs i) / d < 10000 := Int.ediv_lt_of_lt_mul hd0 (by omega)
    have hqd0 : 0 ≤ (10000 * r + rd xs i) / d := Int.ediv_nonneg ht0 (by omega)
    have hm0 : 0 ≤ (10000 * r + rd xs i) % d := Int.emod_nonneg _ (by omega)
    have hm1 : (10000 * r + rd xs i) % d < d := Int.emod_lt_of_pos _ hd0
    have hdm := Int.mul_ediv_add_emod (10000 * r + rd xs i) d
    simp (disch := omega) only [w64]
    refine ev_pos (by omega) (ev_pos (by omega) (ev_pos (by omega) (ev_neg (by omega) (ev_pos (by simp; omega) ?_))))
    rw [Int.toNat_natCast, set_zeros]
    refine ih (by omega) _ _ (hq.cons hqd0 hqd) hm0 hm1 ?_ (by simp; omega)
    rw [drop_rd xs i (by omega)]
    simp only [val]
    rw [← he]
    generalize (10000 * r + rd xs i) / d = s at *
    generalize (10000 * r + rd xs i) % d = u at *
    rw [Int.mul_add, Int.mul_left_comm d 10000]
    omega
theorem divsmall_ev {x d : Int} (hx : 0 ≤ x) (hd0 : 0 < d) (hd : d ≤ B) (hl : (dg D x).length < 1099511627776) :
    Ev (fun k => triviumref02_DivSmall.f k (dg D x) d) (dg D (x / d), x % d) := by
  have := divsmall_l0 (dg D x) d (dg_dig hD x hx) hd0 hd hl _ (Nat.le_refl _) [] 0 Dig.nil (by omega) hd0 (by rw [List.drop_length]; simp [val]) (by simp)
  rw [val_dg hD x hx, List.append_nil] at this
  unfold triviumref02_DivSmall.f
  simp (disch := omega) only [w64, Int.toNat_natCast]
  exact ev_pos (by omega) (ev_pos (by omega) this)

/-! ### Back, Of -/
theorem back_l0 : ∀ x : Int, 0 ≤ x → ∀ out : List Int, (dg D x).length < 1099511627776 → out.length + (dg B x).length < 17592186044416 → Ev (fun k => triviumref02_Back.l0 k (dg D x) out) (out ++ dg B x) := by
  refine dg_ind hB ?_ ?_
  · intro out hl ho
    refine ev_succ ?_
    simp only [triviumref02_Back.l0, dg_zero]
    exact ev_neg (by simp) (ev_now (by simp))
  · intro x hx ih out hl ho
    refine ev_succ ?_
    simp only [triviumref02_Back.l0]
    have hne : (dg D x).length ≠ 0 := by
      intro h
      have := (dg_nil_iff hD (Int.le_of_lt hx)).1 (List.length_eq_zero_iff.1 h)
      omega
    have e : (dg B x).length = (dg B (x / B)).length + 1 := by rw [dg_pos hB hx]; rfl
    refine ev_pos (by omega) (ev_bind (divsmall_ev (by omega) (by decide) (Int.le_refl _) hl) (ev_pos (by omega) ?_))
    have hm0 : 0 ≤ x % B := by simp only [B]; omega
    have hm1 : x % B < B := by simp only [B]; omega
    dsimp only
    rw [wu64 hm0 (by simp only [B] at hm1 ⊢; omega)]
    have hle : (dg D (x / B)).length ≤ (dg D x).length := by
      apply dg_len_le hD _ _ (by simp only [B]; omega)
      have h1 := val_lt (b := D) (by decide) (dg_dig hD x (by omega))
      rw [val_dg hD x (by omega)] at h1
      have : x / B ≤ x := by simp only [B]; omega
      omega
    have := ih (out ++ [x % B]) (by omega) (by simp; omega)
    rw [dg_pos hB hx]
    simpa using this
theorem back_ev {x : Int} (hx : 0 ≤ x) (hl : (dg D x).length < 1099511627776) : Ev (fun k => triviumref02_Back.f k (dg D x)) (dg B x) := by
  have hle : (dg B x).length ≤ (dg D x).length := by
    apply dg_len_le hB _ _ hx
    have h1 := val_lt (b := D) (by decide) (dg_dig hD x (by omega))
    rw [val_dg hD x (by omega)] at h1
    exact Int.lt_of_lt_of_le h1 (pow_base_mono (by decide) (by decide) _)
  have := back_l0 x hx [] hl (by simp; omega)
  rw [List.nil_append] at this
  exact this
theorem of_l0 (xs : List Int) (hx : Dig B xs) (hl : xs.length < 1000000000) : ∀ i : Nat, i ≤ xs.length → ∀ acc : Int, 0 ≤ acc → acc < B ^ (xs.length - i) →
    Ev (fun k => triviumref02_Of.l0 k xs (dg D acc) ((i : Int) - 1)) (dg D (acc * B ^ i + val B (xs.take i))) := by
  intro i
  induction i with
  | zero =>
    intro hi acc h0 h1
    refine ev_succ ?_
    simp only [triviumref02_Of.l0]
    refine ev_neg (by omega) (ev_now ?_)
    simp [val]
  | succ i ih =>
    intro hi acc h0 h1
    have ha := rd_nonneg_lt hx (show i < xs.length by omega)
    have hal : (dg D acc).length < 1099511627776 := by
      have : (dg D acc).length ≤ 32 * (xs.length - (i + 1)) := len_le hD h0 (by
        have e : (B : Int) = 2 ^ 32 := by decide
        rw [e, ← Int.pow_mul] at h1; exact h1)
      omega
    refine ev_succ ?_
    simp only [triviumref02_Of.l0, cast_pred]
    have e1 : wrap64 (Int.tmod (rd xs i) 4294967296) = rd xs i := by
      rw [emod_tmod ha.1, Int.emod_eq_of_lt ha.1 ha.2, w64 (by omega) (by have := ha.2; simp only [B] at this; omega)]
    rw [e1]
    simp (disch := omega) only [w64]
    refine ev_pos (by omega) (ev_pos (by omega) (ev_pos (by omega) (ev_bind (muladd_ev h0 (by decide) (Int.le_refl _) ha.1 (by omega) hal) ?_)))
    have h2 : acc * B + rd xs i < B ^ (xs.length - i) := by
      have e : xs.length - i = (xs.length - (i + 1)) + 1 := by omega
      rw [e, Int.pow_succ]
      have h3 : (acc + 1) * B ≤ B ^ (xs.length - (i + 1)) * B := Int.mul_le_mul_of_nonneg_right (by omega) (by decide)
      rw [Int.add_mul] at h3
      omega
    have := ih (by omega) (acc * B + rd xs i) (by have := Int.mul_nonneg h0 (show (0 : Int) ≤ B by decide); omega) h2
    have e3 : (acc * B + rd xs i) * B ^ i + val B (xs.take i) = acc * B ^ (i + 1) + val B (xs.take (i + 1)) := by
      rw [take_succ_rd xs i (by omega), val_append, List.length_take, Nat.min_eq_left (by omega), Int.pow_succ, Int.add_mul]
      simp only [val, Int.mul_zero, Int.add_zero]
      rw [Int.mul_comm (rd xs ↑i) (B ^ i), Int.mul_assoc acc, Int.mul_comm B]
      omega
    rw [e3] at this
    exact this
theorem of_dig (xs : List Int) (hx : Dig B xs) (hl : xs.length < 1000000000) : Ev (fun k => triviumref02_Of.f k xs) (dg D (val B xs)) := by
  have := of_l0 xs hx hl _ (Nat.le_refl _) 0 (Int.le_refl _) (by rw [Nat.sub_self]; decide)
  rw [dg_zero, List.take_length, Int.zero_mul, Int.zero_add] at this
  unfold triviumref02_Of.f
  simp (disch := omega) only [w64]
  exact this
theorem of_ev {x : Int} (hx : 0 ≤ x) (hl : (dg B x).length < 1000000000) : Ev (fun k => triviumref02_Of.f k (dg B x)) (dg D x) := by
  have := of_dig (dg B x) (dg_dig hB x hx) hl
  rwa [val_dg hB x hx] at this
end Go.Proofs.Ytpjephicbiiamaa.B
