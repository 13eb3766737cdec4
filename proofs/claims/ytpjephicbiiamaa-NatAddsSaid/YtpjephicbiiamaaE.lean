/- Sums and differences of layer 2, and of its reference, on numbers. -/
import Derived.Test.YtpjephicbiiamaaF0
import Derived.Test.YtpjephicbiiamaaF1
import Derived.Test.YtpjephicbiiamaaF2
import Derived.Test.YtpjephicbiiamaaF4
import Derived.Test.YtpjephicbiiamaaF5
import Derived.Test.YtpjephicbiiamaaC
namespace Go.Proofs.Ytpjephicbiiamaa.B
set_option linter.unusedVariables false
set_option linter.unusedSimpArgs false
open Go Go.RowKit Go.Proofs.YtpjephicbiiamaaW.PrintWords Go.Proofs.YtpjephicbiiamaaW.PrintLast Go.Proofs.YtpjephicbiiamaaW.PrintMore Go.Proofs.Ytpjephicbiiamaa.F Go.Proofs.Ytpjephicbiiamaa.A

theorem limb_add {a b c : Int} (ha0 : 0 ≤ a) (ha : a < B) (hb0 : 0 ≤ b) (hb : b < B) (hc0 : 0 ≤ c) (hc : c < B) : limb_Add.f a b c = some ((a + b + c) % B, (a + b + c) / B) := by
  simp only [B] at *
  unfold limb_Add.f
  rw [mask32 ha0 (by omega), mask32 hb0 (by omega), mask32 hc0 (by omega), Int.emod_eq_of_lt ha0 ha, Int.emod_eq_of_lt hb0 hb, Int.emod_eq_of_lt hc0 hc]
  simp (disch := omega) only [wu64]
  rw [mask32 (by omega) (by omega)]
theorem limb_sub {a b c : Int} (ha0 : 0 ≤ a) (ha : a < B) (hb0 : 0 ≤ b) (hb : b < B) (hc0 : 0 ≤ c) (hc : c ≤ 1) :
    limb_Sub.f a b c = some (if a < b + c then (a + B - (b + c), 1) else (a - (b + c), 0)) := by
  simp only [B] at *
  unfold limb_Sub.f
  rw [mask32 ha0 (by omega), mask32 hb0 (by omega), mask32 hc0 (by omega), Int.emod_eq_of_lt ha0 ha, Int.emod_eq_of_lt hb0 hb, Int.emod_eq_of_lt hc0 (show c < 4294967296 by omega)]
  by_cases h : a < b + c
  · rw [wu64 (x := b + c) (by omega) (by omega), if_pos h, if_pos h, wu64 (x := b + c - a) (by omega) (by omega), wu64 (x := b + c - a + 4294967295) (by omega) (by omega)]
    have e : (b + c - a + 4294967295) / 4294967296 = 1 := by omega
    rw [e, Int.one_mul, wu64 (x := (4294967296 : Int)) (by omega) (by omega), wu64 (x := a + 4294967296) (by omega) (by omega), wu64 (by omega) (by omega)]
  · rw [wu64 (x := b + c) (by omega) (by omega), if_neg h, if_neg h]
    simp (disch := omega) only [wu64, Int.zero_mul, Int.add_zero]
theorem rd_ge (xs : List Int) {i : Int} (h : (xs.length : Int) ≤ i) : rd xs i = 0 := by
  unfold rd
  rw [List.getD, List.getElem?_eq_none (by omega)]; rfl
theorem at_eq (xs : List Int) {i : Int} (h : 0 ≤ i) : nat_at.f xs i = some (rd xs i) := by
  unfold nat_at.f
  by_cases hi : i ≥ (xs.length : Int)
  · rw [if_pos hi, rd_ge xs hi]
  · rw [if_neg hi, if_pos h, if_pos (by omega)]
theorem val_drop (b : Int) (xs : List Int) (i : Nat) : val b (xs.drop i) = rd xs i + b * val b (xs.drop (i + 1)) := by
  by_cases h : i < xs.length
  · rw [drop_rd xs i h]; rfl
  · rw [List.drop_eq_nil_of_le (by omega), List.drop_eq_nil_of_le (by omega), rd_ge xs (by omega)]; simp [val]
theorem dig_rd0 {b : Int} (hb : 0 < b) {xs : List Int} (h : Dig b xs) (i : Nat) : 0 ≤ rd xs i ∧ rd xs i < b := by
  by_cases hi : i < xs.length
  · exact rd_nonneg_lt h hi
  · rw [rd_ge xs (by omega)]; omega
theorem set_pre (pre : List Int) (m : Nat) (v : Int) {i : Nat} (h : pre.length = i) : (pre ++ List.replicate (m + 1) 0).set i v = (pre ++ [v]) ++ List.replicate m 0 := by
  subst h
  rw [List.set_append_right _ _ (Nat.le_refl _), Nat.sub_self, List.replicate_succ, List.set_cons_zero]
  simp
theorem mx_nat (a b : Nat) : mx (a : Int) (b : Int) = ((max a b : Nat) : Int) := by unfold mx; split <;> omega

/-! ### nat.Add -/
theorem add_l0 (xs ys : List Int) (hx : Dig B xs) (hy : Dig B ys) (n : Nat) (hn : n = max xs.length ys.length) (hl : n < 1099511627776) : ∀ d i : Nat, n - i = d → i ≤ n → ∀ (pre : List Int) (c : Int), Dig B pre → pre.length = i → 0 ≤ c → c ≤ 1 →
    Ev (fun k => nat_Add.l0 k xs ys n (pre ++ List.replicate (n + 1 - i) 0) c n i) (dg B (val B pre + B ^ i * (c + val B (xs.drop i) + val B (ys.drop i)))) := by
  intro d
  induction d with
  | zero =>
    intro i hd hi pre c hp hpl hc0 hc
    have hin : i = n := by omega
    subst hin
    refine ev_succ ?_
    simp only [nat_Add.l0]
    rw [show i + 1 - i = 0 + 1 by omega, Int.toNat_natCast, set_pre pre 0 c hpl, List.drop_eq_nil_of_le (by omega), List.drop_eq_nil_of_le (by omega)]
    refine ev_neg (by omega) (ev_pos (by omega) (ev_pos (by simp; omega) (ev_bind (trim_ev _ (by simp; omega)) (ev_now ?_))))
    have hdg : Dig B (pre ++ [c] ++ List.replicate 0 0) := by
      simp only [List.replicate_zero, List.append_nil]
      exact hp.append (Dig.nil.cons hc0 (by simp only [B]; omega))
    rw [strip_dg hB hdg]
    simp only [List.replicate_zero, List.append_nil, val_append, val, hpl, Int.mul_zero, Int.add_zero]
  | succ d ih =>
    intro i hd hi pre c hp hpl hc0 hc
    have h1 := dig_rd0 (by decide) hx i
    have h2 := dig_rd0 (by decide) hy i
    refine ev_succ ?_
    simp only [nat_Add.l0]
    rw [show n + 1 - i = (n - i) + 1 by omega, Int.toNat_natCast]
    refine ev_pos (by omega) (ev_eq (at_eq xs (by omega)) (ev_eq (at_eq ys (by omega)) (ev_eq (limb_add h1.1 h1.2 h2.1 h2.2 hc0 (by simp only [B]; omega)) ?_)))
    simp only [B] at h1 h2
    dsimp only
    rw [set_pre pre (n - i) _ hpl]
    simp (disch := omega) only [w64]
    refine ev_pos (by omega) (ev_pos (by simp; omega) ?_)
    have := ih (i + 1) (by omega) (by omega) (pre ++ [(rd xs i + rd ys i + c) % B]) ((rd xs i + rd ys i + c) / B) (hp.append (Dig.nil.cons (by simp only [B]; omega) (by simp only [B]; omega))) (by simp [hpl]) (by simp only [B]; omega) (by simp only [B]; omega)
    rw [show n + 1 - (i + 1) = n - i by omega] at this
    have e : val B (pre ++ [(rd xs i + rd ys i + c) % B]) + B ^ (i + 1) * ((rd xs i + rd ys i + c) / B + val B (xs.drop (i + 1)) + val B (ys.drop (i + 1))) = val B pre + B ^ i * (c + val B (xs.drop i) + val B (ys.drop i)) := by
      rw [val_append, hpl, val_drop B xs i, val_drop B ys i, Int.pow_succ, Int.mul_assoc, Int.add_assoc, ← Int.mul_add]
      congr 2
      simp only [val, B, Int.mul_zero, Int.add_zero]
      omega
    rw [e] at this
    exact this
theorem add_dig (xs ys : List Int) (hx : Dig B xs) (hy : Dig B ys) (hl1 : xs.length < 1099511627776) (hl2 : ys.length < 1099511627776) : Ev (fun k => nat_Add.f k xs ys) (dg B (val B xs + val B ys)) := by
  have := add_l0 xs ys hx hy (max xs.length ys.length) rfl (by omega) _ 0 rfl (by omega) [] 0 Dig.nil rfl (Int.le_refl _) (by decide)
  unfold nat_Add.f
  rw [mx_nat]
  simp (disch := omega) only [w64]
  refine ev_pos (by omega) (ev_pos (by omega) ?_)
  rw [show (((max xs.length ys.length : Nat) : Int) + 1).toNat = max xs.length ys.length + 1 by omega]
  simpa [val] using this
theorem add_ev {x y : Int} (hx : 0 ≤ x) (hy : 0 ≤ y) (hl1 : (dg B x).length < 1099511627776) (hl2 : (dg B y).length < 1099511627776) : Ev (fun k => nat_Add.f k (dg B x) (dg B y)) (dg B (x + y)) := by
  have := add_dig _ _ (dg_dig hB x hx) (dg_dig hB y hy) hl1 hl2
  rwa [val_dg hB x hx, val_dg hB y hy] at this

/-! ### nat.Sub -/
theorem sub_l0 (xs ys : List Int) (hx : Dig B xs) (hy : Dig B ys) (hle : ys.length ≤ xs.length) (hv : val B ys ≤ val B xs) (hl : xs.length < 1099511627776) : ∀ d i : Nat, xs.length - i = d → i ≤ xs.length → ∀ (pre : List Int) (c : Int), Dig B pre → pre.length = i → 0 ≤ c → c ≤ 1 →
    val B pre + B ^ i * (val B (xs.drop i) - val B (ys.drop i) - c) = val B xs - val B ys →
    Ev (fun k => nat_Sub.l0 k xs ys (pre ++ List.replicate (xs.length - i) 0) c xs.length i) (dg B (val B xs - val B ys), 0) := by
  intro d
  induction d with
  | zero =>
    intro i hd hi pre c hp hpl hc0 hc he
    have hin : i = xs.length := by omega
    subst hin
    refine ev_succ ?_
    simp only [nat_Sub.l0]
    rw [Nat.sub_self, List.replicate_zero, List.append_nil]
    refine ev_neg (by omega) (ev_bind (trim_ev _ (by omega)) (ev_now ?_))
    rw [List.drop_eq_nil_of_le (by omega), List.drop_eq_nil_of_le (by omega)] at he
    simp only [val, Int.sub_self, Int.zero_sub] at he
    have h1 := val_lt (b := B) (by decide) hp
    rw [hpl] at h1
    have hc : c = 0 := by
      rcases (show c = 0 ∨ c = 1 by omega) with h | h
      · exact h
      · rw [h, Int.mul_neg, Int.mul_one] at he; omega
    rw [hc, Int.neg_zero, Int.mul_zero, Int.add_zero] at he
    rw [strip_dg hB hp, he]
  | succ d ih =>
    intro i hd hi pre c hp hpl hc0 hc he
    have h1 := dig_rd0 (by decide) hx i
    have h2 := dig_rd0 (by decide) hy i
    refine ev_succ ?_
    simp only [nat_Sub.l0]
    rw [show xs.length - i = (xs.length - (i + 1)) + 1 by omega, Int.toNat_natCast]
    refine ev_pos (by omega) (ev_pos (by omega) (ev_pos (by omega) (ev_eq (at_eq ys (by omega)) (ev_eq (limb_sub h1.1 h1.2 h2.1 h2.2 hc0 hc) ?_))))
    rw [set_pre pre _ _ hpl]
    simp (disch := omega) only [w64]
    refine ev_pos (by simp; omega) ?_
    rw [cast_succ]
    have step : ∀ v c' : Int, 0 ≤ v → v < B → v - B * c' = rd xs i - rd ys i - c → val B (pre ++ [v]) + B ^ (i + 1) * (val B (xs.drop (i + 1)) - val B (ys.drop (i + 1)) - c') = val B xs - val B ys := by
      intro v c' hv0 hv1 hvc
      rw [← he, val_append, hpl, val_drop B xs i, val_drop B ys i, Int.pow_succ, Int.mul_assoc, Int.add_assoc, ← Int.mul_add]
      congr 2
      simp only [val, B, Int.mul_zero, Int.add_zero] at *
      omega
    by_cases h : rd xs i < rd ys i + c
    · rw [if_pos h]
      simp only [B] at h1 h2
      exact ih (i + 1) (by omega) (by omega) (pre ++ [rd xs i + B - (rd ys i + c)]) 1 (hp.append (Dig.nil.cons (by simp only [B]; omega) (by simp only [B]; omega))) (by simp [hpl]) (by omega) (by omega) (step _ _ (by simp only [B]; omega) (by simp only [B]; omega) (by simp only [B]; omega))
    · rw [if_neg h]
      simp only [B] at h1 h2
      exact ih (i + 1) (by omega) (by omega) (pre ++ [rd xs i - (rd ys i + c)]) 0 (hp.append (Dig.nil.cons (by (try simp only [B]); omega) (by (try simp only [B]); omega))) (by simp [hpl]) (by omega) (by omega) (step _ _ (by (try simp only [B]); omega) (by (try simp only [B]); omega) (by (try simp only [B]); omega))
theorem dg_len_mono {b x y : Int} (hb : 2 ≤ b) (hx : 0 ≤ x) (h : x ≤ y) : (dg b x).length ≤ (dg b y).length := by
  apply dg_len_le hb _ _ hx
  have h1 := val_lt (b := b) (by omega) (dg_dig hb y (by omega))
  rw [val_dg hb y (by omega)] at h1
  omega
theorem sub_ev {x y : Int} (hy : 0 ≤ y) (hxy : y ≤ x) (hl1 : (dg B x).length < 1099511627776) : Ev (fun k => nat_Sub.f k (dg B x) (dg B y)) (dg B (x - y), 0) := by
  have hx : 0 ≤ x := by omega
  unfold nat_Sub.f
  refine ev_bind (cmp_ev hx hy (by omega)) (ev_neg ?_ (ev_pos (by omega) (ev_pos (by omega) ?_)))
  · unfold cmpI; split <;> (try split) <;> omega
  · simp only [Option.bind_some, List.length_replicate, Int.toNat_natCast]
    have hle := dg_len_mono hB hy hxy
    have := sub_l0 (dg B x) (dg B y) (dg_dig hB x hx) (dg_dig hB y hy) hle (by rw [val_dg hB x hx, val_dg hB y hy]; exact hxy) hl1 _ 0 rfl (by omega) [] 0 Dig.nil rfl (Int.le_refl _) (by decide) (by simp [val])
    rw [val_dg hB x hx, val_dg hB y hy] at this
    exact this
theorem sub_less {x y : Int} (hx : 0 ≤ x) (hxy : x < y) (hl1 : (dg B x).length < 1099511627776) : Ev (fun k => nat_Sub.f k (dg B x) (dg B y)) ([], 6) := by
  unfold nat_Sub.f
  exact ev_bind (cmp_ev hx (by omega) (by omega)) (ev_pos (by unfold cmpI; rw [if_pos hxy]; omega) (ev_now rfl))

/-! ### the reference's Add and Sub -/
theorem radd_l0 (xs ys : List Int) (hx : Dig D xs) (hy : Dig D ys) (hl1 : xs.length < 1099511627776) (hl2 : ys.length < 1099511627776) : ∀ d i : Nat, max xs.length ys.length - i = d → i ≤ max xs.length ys.length → ∀ (pre : List Int) (c : Int), Dig D pre → pre.length = i → 0 ≤ c → c ≤ 1 →
    Ev (fun k => triviumref02_Add.l0 k xs ys pre c i) (dg D (val D pre + D ^ i * (c + val D (xs.drop i) + val D (ys.drop i)))) := by
  intro d
  induction d with
  | zero =>
    intro i hd hi pre c hp hpl hc0 hc
    refine ev_succ ?_
    simp only [triviumref02_Add.l0, mx_nat]
    rw [List.drop_eq_nil_of_le (by omega), List.drop_eq_nil_of_le (by omega)]
    refine ev_neg (by omega) (ev_pos (by omega) (ev_bind (rtrim_ev _ (by simp; omega)) (ev_now ?_)))
    have hdg : Dig D (pre ++ [c]) := hp.append (Dig.nil.cons hc0 (by simp only [D]; omega))
    rw [strip_dg hD hdg]
    simp only [val_append, val, hpl, Int.mul_zero, Int.add_zero]
  | succ d ih =>
    intro i hd hi pre c hp hpl hc0 hc
    have h1 := dig_rd0 (by decide) hx i
    have h2 := dig_rd0 (by decide) hy i
    have key : ∀ s : Int, s = c + rd xs i + rd ys i → Ev (fun k => triviumref02_Add.l0 k xs ys (pre ++ [s % 10000]) (s / 10000) ((i : Int) + 1)) (dg D (val D pre + D ^ i * (c + val D (xs.drop i) + val D (ys.drop i)))) := by
      intro s hs
      simp only [D] at *
      have := ih (i + 1) (by omega) (by omega) (pre ++ [s % 10000]) (s / 10000) (hp.append (Dig.nil.cons (by omega) (by omega))) (by simp [hpl]) (by omega) (by omega)
      have e : val 10000 (pre ++ [s % 10000]) + 10000 ^ (i + 1) * (s / 10000 + val 10000 (xs.drop (i + 1)) + val 10000 (ys.drop (i + 1))) = val 10000 pre + 10000 ^ i * (c + val 10000 (xs.drop i) + val 10000 (ys.drop i)) := by
        rw [val_append, hpl, val_drop 10000 xs i, val_drop 10000 ys i, Int.pow_succ, Int.mul_assoc, Int.add_assoc, ← Int.mul_add]
        congr 2
        simp only [val, Int.mul_zero, Int.add_zero]
        omega
      rw [e] at this
      exact this
    refine ev_succ ?_
    simp only [triviumref02_Add.l0, mx_nat]
    simp only [D] at h1 h2
    simp (disch := omega) only [w64, ediv_tdiv, emod_tmod]
    refine ev_pos (by omega) (ev_ite (fun ha => ev_pos (by omega) (ev_ite (fun hb => ev_pos (by omega) (key _ (by omega))) (fun hb => ev_pos (by omega) (key _ ?_)))) (fun ha => ev_ite (fun hb => ev_pos (by omega) (ev_pos (by omega) (key _ ?_))) (fun hb => ?_)))
    · rw [rd_ge ys (by omega)]; omega
    · rw [rd_ge xs (by omega)]; omega
    · omega
theorem radd_ev {x y : Int} (hx : 0 ≤ x) (hy : 0 ≤ y) (hl1 : (dg D x).length < 1099511627776) (hl2 : (dg D y).length < 1099511627776) : Ev (fun k => triviumref02_Add.f k (dg D x) (dg D y)) (dg D (x + y)) := by
  have := radd_l0 (dg D x) (dg D y) (dg_dig hD x hx) (dg_dig hD y hy) hl1 hl2 _ 0 rfl (by omega) [] 0 Dig.nil rfl (Int.le_refl _) (by decide)
  unfold triviumref02_Add.f
  simpa [val, val_dg hD x hx, val_dg hD y hy] using this
theorem rsub_l0 (xs ys : List Int) (hx : Dig D xs) (hy : Dig D ys) (hle : ys.length ≤ xs.length) (hv : val D ys ≤ val D xs) (hl : xs.length < 1099511627776) : ∀ d i : Nat, xs.length - i = d → i ≤ xs.length → ∀ (pre : List Int) (c : Int), Dig D pre → pre.length = i → 0 ≤ c → c ≤ 1 →
    val D pre + D ^ i * (val D (xs.drop i) - val D (ys.drop i) - c) = val D xs - val D ys →
    Ev (fun k => triviumref02_Sub.l0 k xs ys pre c i) (dg D (val D xs - val D ys)) := by
  intro d
  induction d with
  | zero =>
    intro i hd hi pre c hp hpl hc0 hc he
    have hin : i = xs.length := by omega
    subst hin
    refine ev_succ ?_
    simp only [triviumref02_Sub.l0]
    refine ev_neg (by omega) (ev_bind (rtrim_ev _ (by omega)) (ev_now ?_))
    rw [List.drop_eq_nil_of_le (by omega), List.drop_eq_nil_of_le (by omega)] at he
    simp only [val, Int.sub_self, Int.zero_sub] at he
    have h1 := val_lt (b := D) (by decide) hp
    rw [hpl] at h1
    have hc : c = 0 := by
      rcases (show c = 0 ∨ c = 1 by omega) with h | h
      · exact h
      · rw [h, Int.mul_neg, Int.mul_one] at he; omega
    rw [hc, Int.neg_zero, Int.mul_zero, Int.add_zero] at he
    rw [strip_dg hD hp, he]
  | succ d ih =>
    intro i hd hi pre c hp hpl hc0 hc he
    have h1 := dig_rd0 (by decide) hx i
    have h2 := dig_rd0 (by decide) hy i
    have step : ∀ v c' : Int, 0 ≤ v → v < D → v - D * c' = rd xs i - rd ys i - c → 0 ≤ c' → c' ≤ 1 → Ev (fun k => triviumref02_Sub.l0 k xs ys (pre ++ [v]) c' ((i : Int) + 1)) (dg D (val D xs - val D ys)) := by
      intro v c' hv0 hv1 hvc hc0' hc'
      rw [cast_succ]
      refine ih (i + 1) (by omega) (by omega) (pre ++ [v]) c' (hp.append (Dig.nil.cons hv0 hv1)) (by simp [hpl]) hc0' hc' ?_
      rw [← he, val_append, hpl, val_drop D xs i, val_drop D ys i, Int.pow_succ, Int.mul_assoc, Int.add_assoc, ← Int.mul_add]
      congr 2
      simp only [val, D, Int.mul_zero, Int.add_zero] at *
      omega
    refine ev_succ ?_
    simp only [triviumref02_Sub.l0]
    simp only [D] at h1 h2 step
    simp (disch := omega) only [w64]
    refine ev_pos (by omega) (ev_pos (by omega) (ev_ite (fun ha => ev_ite (fun hb => ev_pos (by omega) (step _ _ ?_ ?_ ?_ ?_ ?_)) (fun hb => ev_pos (by omega) (step _ _ ?_ ?_ ?_ ?_ ?_))) (fun ha => ?_)))
    all_goals first
      | omega
      | (have hz := rd_ge ys (i := (i : Int)) (by omega)
         refine ev_ite (fun hb => ev_pos (by omega) (step _ _ ?_ ?_ ?_ ?_ ?_)) (fun hb => ev_pos (by omega) (step _ _ ?_ ?_ ?_ ?_ ?_)) <;> omega)
theorem rsub_ev {x y : Int} (hy : 0 ≤ y) (hxy : y ≤ x) (hl1 : (dg D x).length < 1099511627776) : Ev (fun k => triviumref02_Sub.f k (dg D x) (dg D y)) (dg D (x - y)) := by
  have hx : 0 ≤ x := by omega
  have := rsub_l0 (dg D x) (dg D y) (dg_dig hD x hx) (dg_dig hD y hy) (dg_len_mono hD hy hxy) (by rw [val_dg hD x hx, val_dg hD y hy]; exact hxy) hl1 _ 0 rfl (by omega) [] 0 Dig.nil rfl (Int.le_refl _) (by decide) (by simp [val])
  rw [val_dg hD x hx, val_dg hD y hy] at this
  exact this

/-! ### what 24 limbs make at the most (a bound that nothing reckons out) -/
def bnd (K : Nat) : Int := 2 ^ K
theorem bnd_len {b x : Int} {K : Nat} (hb : 2 ≤ b) (h0 : 0 ≤ x) (h1 : x < bnd K) : (dg b x).length ≤ K := len_le hb h0 h1
theorem bnd_succ (K : Nat) : bnd (K + 1) = 2 * bnd K := by unfold bnd; rw [Int.pow_succ, Int.mul_comm]
theorem bnd_pos (K : Nat) : 0 < bnd K := Int.pow_pos (by decide)
theorem bnd_mono {K L : Nat} (h : K ≤ L) : bnd K ≤ bnd L := pow_mono (by decide) h
theorem bnd_add (K L : Nat) : bnd (K + L) = bnd K * bnd L := by unfold bnd; rw [Int.pow_add]
theorem cl_bnd (xs : List Int) (m : Nat) : cl xs m < bnd (32 * m) := by
  have := cl_lt xs m
  have e : B = (2 : Int) ^ 32 := by decide
  rw [e, ← Int.pow_mul] at this
  exact this
end Go.Proofs.Ytpjephicbiiamaa.B
