/- A part of the proof of the law SolveSolved: an abstract machine for the functions' code with its soundness, words, lemmas (assembled by a program). -/
import Derived.Test.YtflnfnemhgjglaaGreatCSolveSolved1
set_option linter.unusedVariables false
set_option linter.unusedSimpArgs false
set_option linter.unusedSectionVars false
section
set_option linter.unusedVariables false
set_option linter.unusedSimpArgs false
set_option maxRecDepth 8000
namespace Go.K
open Go Go.RowKit
theorem or_join {x y : Int} (r : Nat) (hr : r ≤ 32) (hx0 : 0 ≤ x) (hx : x % 2 ^ r = 0) (hx1 : x < B) (hy0 : 0 ≤ y) (hy : y < 2 ^ r) : Go.bits .or .u64 y x = x + y := by
  have hp : (2 : Int) ^ r ≤ 2 ^ 32 := pow_mono (by decide) hr
  simp only [B] at hx1
  have := bits_join .u64 64 (by decide) (fun n a b => wu64 a (by omega)) r x y hx0 hx (by omega) hy0 hy (by omega)
  rw [← this]
  unfold Go.bits
  simp [BitVec.or_comm]
theorem set_mid (q : Nat) (pre : List Int) (c v u : Int) (m : Nat) {i : Nat} (h : pre.length = i) :
    ((List.replicate q 0 ++ pre ++ c :: List.replicate (m + 1) 0).set (i + q) v).set (i + q + 1) u = List.replicate q 0 ++ (pre ++ [v]) ++ u :: List.replicate m 0 := by
  subst h
  have e1 : (List.replicate q (0 : Int) ++ pre).length = pre.length + q := by simp; omega
  rw [List.set_append_right _ _ (by omega), e1, Nat.sub_self, List.set_cons_zero, List.set_append_right _ _ (by omega), e1,
    show pre.length + q + 1 - (pre.length + q) = 0 + 1 by omega, List.set_cons_succ, List.replicate_succ, List.set_cons_zero]
  simp
theorem rd_mid (q : Nat) (pre : List Int) (c : Int) (ys : List Int) {i : Nat} (h : pre.length = i) : rd (List.replicate q 0 ++ pre ++ c :: ys) ((i + q : Nat) : Int) = c := by
  have := rd_append_len (List.replicate q 0 ++ pre) c ys
  rwa [show (List.replicate q (0 : Int) ++ pre).length = i + q by simp; omega] at this
theorem shl_l0 (xs : List Int) (hx : Dig B xs) (hl : xs.length < 1099511627776) (n : Int) (hn0 : 0 ≤ n) (q r : Nat) (hq : n / 32 = q) (hr : n % 32 = r) (hn : n ≤ 100000) : ∀ d i : Nat, xs.length - i = d → i ≤ xs.length → ∀ (pre : List Int) (c : Int), Dig B pre → pre.length = i → 0 ≤ c → c < 2 ^ r →
    Ev (fun k => nat_Shl.l0 k n (List.replicate q 0 ++ pre ++ c :: List.replicate (xs.length - i) 0) xs xs.length i) (dg B (B ^ q * (val B pre + B ^ i * (c + 2 ^ r * val B (xs.drop i)))), 0) := by
  have hr32 : r < 32 := by omega
  have hP : (0 : Int) < 2 ^ r := Int.pow_pos (by decide)
  have hPB : (2 : Int) ^ r * 2 ^ (32 - r) = B := by rw [← Int.pow_add, show r + (32 - r) = 32 by omega]; rfl
  have hQ : (0 : Int) < 2 ^ (32 - r) := Int.pow_pos (by decide)
  have hP31 : (2 : Int) ^ r ≤ 2 ^ 31 := pow_mono (by decide) (by omega)
  intro d
  induction d with
  | zero =>
    intro i hd hi pre c hp hpl hc0 hc
    refine ev_succ ?_
    simp only [nat_Shl.l0]
    refine ev_neg (by omega) (ev_bind (trim_ev _ (by simp; omega)) (ev_now ?_))
    rw [show xs.length - i = 0 by omega, List.replicate_zero, List.drop_eq_nil_of_le (by omega)]
    have hdg : Dig B (List.replicate q 0 ++ pre ++ [c]) := ((Dig.zeros (by decide) q).append hp).append (Dig.nil.cons hc0 (by simp only [B]; omega))
    rw [strip_dg hB hdg, val_append, val_append, val_zeros, List.length_append, List.length_replicate, hpl]
    simp only [val, Int.mul_zero, Int.add_zero, Int.zero_add]
    rw [Int.pow_add, Int.mul_assoc, ← Int.mul_add]
  | succ d ih =>
    intro i hd hi pre c hp hpl hc0 hc
    have ha := rd_nonneg_lt hx (show i < xs.length by omega)
    refine ev_succ ?_
    simp only [nat_Shl.l0]
    rw [ediv_tdiv hn0, emod_tmod hn0, hq, hr]
    have hz0 : 0 ≤ rd xs i * 2 ^ r := Int.mul_nonneg ha.1 (Int.le_of_lt hP)
    have hz1 : rd xs i * 2 ^ r ≤ 4294967295 * 2 ^ r := Int.mul_le_mul_of_nonneg_right (by have := ha.2; simp only [B] at this; omega) (Int.le_of_lt hP)
    rw [shl_eq r (by omega) hz0 (by omega)]
    simp (disch := omega) only [w64, emod_tmod]
    have ei : ((i : Int) + (q : Int)) = ((i + q : Nat) : Int) := by omega
    have hlen : (List.replicate q (0 : Int) ++ pre ++ c :: List.replicate (xs.length - i) 0).length = q + xs.length + 1 := by simp; omega
    rw [hlen, ei, Int.toNat_natCast, show (((i + q : Nat) : Int) + 1).toNat = i + q + 1 by omega, rd_mid q pre c _ hpl]
    refine ev_pos (by omega) (ev_pos (by omega) (ev_pos (by omega) (ev_pos (by omega) (ev_pos (by omega) (ev_pos (by omega) (ev_pos (by omega) (ev_pos (by omega) ?_)))))))
    have hlow0 : 0 ≤ rd xs i * 2 ^ r % B := Int.emod_nonneg _ (by decide)
    have hlow1 : rd xs i * 2 ^ r % B < B := Int.emod_lt_of_pos _ (by decide)
    have hlowr : rd xs i * 2 ^ r % B % 2 ^ r = 0 := by
      rw [Int.emod_emod_of_dvd _ ⟨2 ^ (32 - r), hPB.symm⟩, Int.mul_emod_left]
    rw [or_join r (by omega) hlow0 hlowr hlow1 hc0 hc, show xs.length - i = (xs.length - (i + 1)) + 1 by omega, set_mid q pre c _ _ _ hpl]
    have hsum : rd xs i * 2 ^ r % B + c < B := by
      have h1 := Int.mul_ediv_add_emod (rd xs i * 2 ^ r % B) (2 ^ r)
      rw [hlowr, Int.add_zero] at h1
      have h2 : rd xs i * 2 ^ r % B / 2 ^ r < 2 ^ (32 - r) := Int.ediv_lt_of_lt_mul hP (by rw [Int.mul_comm (2 ^ (32 - r)) (2 ^ r), hPB]; exact hlow1)
      have h3 := Int.mul_le_mul_of_nonneg_left (show rd xs i * 2 ^ r % B / 2 ^ r + 1 ≤ 2 ^ (32 - r) by omega) (Int.le_of_lt hP)
      rw [Int.mul_add, h1, hPB] at h3
      omega
    have hu0 : 0 ≤ rd xs i * 2 ^ r / B := Int.ediv_nonneg hz0 (by decide)
    have hu1 : rd xs i * 2 ^ r / B < 2 ^ r := Int.ediv_lt_of_lt_mul (by decide) (by rw [Int.mul_comm]; exact Int.mul_lt_mul_of_pos_left ha.2 hP)
    have := ih (i + 1) (by omega) (by omega) (pre ++ [rd xs i * 2 ^ r % B + c]) (rd xs i * 2 ^ r / B) (hp.append (Dig.nil.cons (by omega) hsum)) (by simp [hpl]) hu0 hu1
    have e : val B (pre ++ [rd xs i * 2 ^ r % B + c]) + B ^ (i + 1) * (rd xs i * 2 ^ r / B + 2 ^ r * val B (xs.drop (i + 1))) = val B pre + B ^ i * (c + 2 ^ r * val B (xs.drop i)) := by
      rw [val_append, hpl, val_drop B xs i, Int.pow_succ]
      simp only [val, Int.mul_zero, Int.add_zero]
      have h1 := Int.mul_ediv_add_emod (rd xs i * 2 ^ r) B
      generalize rd xs i * 2 ^ r % B = u at *
      generalize rd xs i * 2 ^ r / B = v at *
      generalize val B (xs.drop (i + 1)) = w at *
      generalize rd xs (i : Int) = a at *
      generalize B ^ i = b at *
      generalize (2 : Int) ^ r = p at *
      generalize B = bb at *
      grind
    rw [e] at this
    rw [cast_succ]
    exact this
theorem shift_ok {n : Int} (h0 : 0 ≤ n) (h1 : n ≤ 100000) : nat_shift.f n = some 0 := by unfold nat_shift.f; rw [if_neg (by omega), if_neg (by omega)]
theorem shl_val (x : Int) {n : Int} (hn0 : 0 ≤ n) {q r : Nat} (hq : n / 32 = q) (hr : n % 32 = r) : B ^ q * (2 ^ r * x) = x * 2 ^ n.toNat := by
  have e : n.toNat = 32 * q + r := by omega
  have e2 : (B : Int) ^ q = 2 ^ (32 * q) := by rw [show (B : Int) = 2 ^ 32 by decide, ← Int.pow_mul]
  rw [e2, e, Int.pow_add]
  generalize (2 : Int) ^ (32 * q) = a
  generalize (2 : Int) ^ r = b
  grind
theorem shl_ev {x n : Int} (hx : 0 ≤ x) (hn0 : 0 ≤ n) (hn : n ≤ 100000) (hl : (dg B x).length < 1099511627776) : Ev (fun k => nat_Shl.f k (dg B x) n) (dg B (x * 2 ^ n.toNat), 0) := by
  unfold nat_Shl.f
  refine ev_eq (shift_ok hn0 hn) (ev_pos rfl (ev_succ ?_))
  simp only [nat_Shl.j0]
  by_cases hz : x = 0
  · subst hz
    refine ev_pos (by rw [dg_zero]; rfl) (ev_now ?_)
    rw [Int.zero_mul, dg_zero]
  · have hne : (dg B x).length ≠ 0 := fun h => hz ((dg_nil_iff hB hx).1 (List.length_eq_zero_iff.1 h))
    obtain ⟨q, hq⟩ : ∃ q : Nat, n / 32 = q := ⟨(n / 32).toNat, by omega⟩
    obtain ⟨r, hr⟩ : ∃ r : Nat, n % 32 = r := ⟨(n % 32).toNat, by omega⟩
    rw [ediv_tdiv hn0, hq]
    simp (disch := omega) only [w64]
    refine ev_neg (by simpa using hne) (ev_pos (by omega) (ev_pos (by omega) ?_))
    have := shl_l0 (dg B x) (dg_dig hB x hx) hl n hn0 q r hq hr hn _ 0 rfl (by omega) [] 0 Dig.nil rfl (Int.le_refl _) (Int.pow_pos (by decide))
    have el : (((dg B x).length : Int) + (q : Int) + 1).toNat = q + ((dg B x).length + 1) := by omega
    rw [el]
    have er : List.replicate (q + ((dg B x).length + 1)) (0 : Int) = List.replicate q 0 ++ [] ++ 0 :: List.replicate ((dg B x).length - 0) 0 := by
      rw [Nat.sub_zero, ← List.replicate_succ, List.append_nil, List.replicate_append_replicate]
    rw [er]
    rw [List.drop_zero, val_dg hB x hx, Int.pow_zero, Int.one_mul, Int.zero_add, val, Int.zero_add, shl_val x hn0 hq hr] at this
    exact this
theorem shr_digit (a b w : Int) (ha0 : 0 ≤ a) (ha : a < B) (hb0 : 0 ≤ b) (hb : b < B) (r : Nat) (hr : r < 32) :
    Int.tmod (shr .u64 (Go.bits .or .u64 a (IntKind.u64.wrap (b * 4294967296))) (r : Int)) 4294967296 = (a + B * (b + B * w)) / 2 ^ r % B := by
  have hP : (0 : Int) < 2 ^ r := Int.pow_pos (by decide)
  have hPB : (2 : Int) ^ r * 2 ^ (32 - r) = B := by rw [← Int.pow_add, show r + (32 - r) = 32 by omega]; rfl
  simp only [B] at *
  rw [wu64 (by omega) (by omega)]
  have hor : Go.bits .or .u64 a (b * 4294967296) = b * 4294967296 + a := by
    have := bits_join .u64 64 (by decide) (fun n a b => wu64 a (by omega)) 32 (b * 4294967296) a (by omega) (by omega) (by omega) ha0 (by omega) (by omega)
    rw [← this]
    unfold Go.bits
    simp [BitVec.or_comm]
  rw [hor, shr_eq r (by omega), emod_tmod (Int.ediv_nonneg (by omega) (by omega))]
  have e : a + 4294967296 * (b + 4294967296 * w) = (b * 4294967296 + a) + 2 ^ r * (4294967296 * (2 ^ (32 - r) * w)) := by
    generalize (2 : Int) ^ r = p at *
    generalize (2 : Int) ^ (32 - r) = q at *
    grind
  rw [e, Int.add_mul_ediv_left _ _ (by omega), Int.add_mul_emod_self_left]
theorem shr_l0 (xs : List Int) (hx : Dig B xs) (hl : xs.length < 1099511627776) (n : Int) (hn0 : 0 ≤ n) (q r : Nat) (hq : n / 32 = q) (hr : n % 32 = r) (hn : n ≤ 100000) (hql : q ≤ xs.length) : ∀ d i : Nat, xs.length - q - i = d → i ≤ xs.length - q → ∀ (pre : List Int), Dig B pre → pre.length = i →
    val B pre + B ^ i * (val B (xs.drop (q + i)) / 2 ^ r) = val B (xs.drop q) / 2 ^ r →
    Ev (fun k => nat_Shr.l0 k xs n (pre ++ List.replicate (xs.length - q - i) 0) ((xs.length - q : Nat) : Int) i) (dg B (val B (xs.drop q) / 2 ^ r), 0) := by
  have hP : (0 : Int) < 2 ^ r := Int.pow_pos (by decide)
  intro d
  induction d with
  | zero =>
    intro i hd hi pre hp hpl he
    refine ev_succ ?_
    simp only [nat_Shr.l0]
    refine ev_neg (by omega) (ev_bind (trim_ev _ (by simp; omega)) (ev_now ?_))
    rw [show xs.length - q - i = 0 by omega, List.replicate_zero, List.append_nil, strip_dg hB hp, ← he, List.drop_eq_nil_of_le (show xs.length ≤ q + i by omega), val, Int.zero_ediv, Int.mul_zero, Int.add_zero]
  | succ d ih =>
    intro i hd hi pre hp hpl he
    have ha := dig_rd0 (by decide) hx (q + i)
    have hb := dig_rd0 (by decide) hx (q + i + 1)
    refine ev_succ ?_
    simp only [nat_Shr.l0]
    rw [ediv_tdiv hn0, emod_tmod hn0, hq, hr]
    simp (disch := omega) only [w64]
    have ei : ((i : Int) + (q : Int)) = ((q + i : Nat) : Int) := by omega
    rw [ei, cast_succ, Int.toNat_natCast]
    refine ev_pos (by omega) (ev_pos (by omega) (ev_pos (by omega) (ev_eq (at_eq xs (by omega)) (ev_pos (by omega) (ev_pos (by omega) (ev_pos (by simp; omega) ?_))))))
    rw [shr_digit _ _ (val B (xs.drop (q + i + 1 + 1))) ha.1 ha.2 hb.1 hb.2 r (by omega), show xs.length - q - i = (xs.length - q - (i + 1)) + 1 by omega, set_pre pre _ _ hpl]
    rw [← val_drop B xs (q + i + 1), ← val_drop B xs (q + i)]
    have hd0 : (0 : Int) ≤ val B (xs.drop (q + i)) / 2 ^ r % B := Int.emod_nonneg _ (by decide)
    have hd1 : val B (xs.drop (q + i)) / 2 ^ r % B < B := Int.emod_lt_of_pos _ (by decide)
    rw [cast_succ]
    refine ih (i + 1) (by omega) (by omega) _ (hp.append (Dig.nil.cons hd0 hd1)) (by simp [hpl]) ?_
    rw [← he, val_append, hpl, Int.pow_succ]
    have e1 : val B (xs.drop (q + (i + 1))) / 2 ^ r = val B (xs.drop (q + i)) / 2 ^ r / B := by
      have h1 : val B (xs.drop (q + i)) / B = val B (xs.drop (q + (i + 1))) := by
        rw [val_drop B xs (q + i), Int.add_mul_ediv_left _ _ (by decide), Int.ediv_eq_zero_of_lt ha.1 ha.2]
        rw [Int.zero_add]; rfl
      rw [← h1, Int.ediv_ediv_of_nonneg (by decide), Int.ediv_ediv_of_nonneg (by omega), Int.mul_comm]
    rw [e1]
    have h2 := Int.mul_ediv_add_emod (val B (xs.drop (q + i)) / 2 ^ r) B
    simp only [val, Int.mul_zero, Int.add_zero]
    generalize val B (xs.drop (q + i)) / 2 ^ r % B = u at *
    generalize val B (xs.drop (q + i)) / 2 ^ r / B = v at *
    generalize val B (xs.drop (q + i)) / 2 ^ r = w at *
    generalize B ^ i = b at *
    generalize B = bb at *
    grind
theorem val_take_drop (b : Int) (xs : List Int) (q : Nat) (h : q ≤ xs.length) : val b xs = val b (xs.take q) + b ^ q * val b (xs.drop q) := by
  conv => lhs; rw [← List.take_append_drop q xs]
  rw [val_append, List.length_take, Nat.min_eq_left h]
theorem shr_ev {x n : Int} (hx : 0 ≤ x) (hn0 : 0 ≤ n) (hn : n ≤ 100000) (hl : (dg B x).length < 1099511627776) : Ev (fun k => nat_Shr.f k (dg B x) n) (dg B (x / 2 ^ n.toNat), 0) := by
  unfold nat_Shr.f
  refine ev_eq (shift_ok hn0 hn) (ev_pos rfl (ev_succ ?_))
  simp only [nat_Shr.j0]
  obtain ⟨q, hq⟩ : ∃ q : Nat, n / 32 = q := ⟨(n / 32).toNat, by omega⟩
  obtain ⟨r, hr⟩ : ∃ r : Nat, n % 32 = r := ⟨(n % 32).toNat, by omega⟩
  have en : n.toNat = 32 * q + r := by omega
  have e2 : (B : Int) ^ q = 2 ^ (32 * q) := by rw [show (B : Int) = 2 ^ 32 by decide, ← Int.pow_mul]
  rw [ediv_tdiv hn0, hq]
  simp (disch := omega) only [w64]
  by_cases hge : (q : Int) ≥ ((dg B x).length : Int)
  · refine ev_pos (by simpa using hge) (ev_now ?_)
    have h1 := val_lt (b := B) (by decide) (dg_dig hB x hx)
    rw [val_dg hB x hx] at h1
    have h2 : x < 2 ^ n.toNat := by
      refine Int.lt_of_lt_of_le h1 (Int.le_trans (pow_mono (by decide) (show (dg B x).length ≤ q by omega)) ?_)
      rw [e2]
      exact pow_mono (by decide) (by omega)
    rw [Int.ediv_eq_zero_of_lt hx h2, dg_zero]
  · refine ev_neg (by simpa using hge) (ev_pos (by omega) (ev_pos (by omega) ?_))
    simp only [Option.bind_some, List.length_replicate]
    rw [show (((dg B x).length : Int) - (q : Int)).toNat = (dg B x).length - q by omega]
    have := shr_l0 (dg B x) (dg_dig hB x hx) hl n hn0 q r hq hr hn (by omega) _ 0 rfl (by omega) [] Dig.nil rfl (by simp [val])
    have ev : val B ((dg B x).drop q) / 2 ^ r = x / 2 ^ n.toNat := by
      have h1 := val_take_drop B (dg B x) q (by omega)
      have h2 := val_nonneg (b := B) (by decide) ((dg_dig hB x hx).take q)
      have h3 := val_lt (b := B) (by decide) ((dg_dig hB x hx).take q)
      rw [List.length_take, Nat.min_eq_left (by omega)] at h3
      rw [val_dg hB x hx] at h1
      have hP : (0 : Int) < B ^ q := Int.pow_pos (by decide)
      have h4 : x / B ^ q = val B ((dg B x).drop q) := by
        conv => lhs; rw [h1]
        rw [Int.add_mul_ediv_left _ _ (by omega), Int.ediv_eq_zero_of_lt h2 h3, Int.zero_add]
      rw [← h4, Int.ediv_ediv_of_nonneg (by omega), e2, ← Int.pow_add, ← en]
    rw [ev] at this
    exact this
end Go.K

end
section
set_option linter.unusedVariables false
set_option linter.unusedSimpArgs false
set_option maxRecDepth 8000
namespace Go.K
open Go Go.RowKit
theorem lt_of_pmul {p a b : Int} (hp : 0 < p) (h : p * a < p * b) : a < b := Int.lt_of_mul_lt_mul_left h (Int.le_of_lt hp)
theorem guess_fin {q v1 v2 num u2 r : Int} (h1 : 0 < v1) (hv20 : 0 ≤ v2) (hv2 : v2 < 4294967296) (hu2 : 0 ≤ u2) (hq : 0 ≤ q) (he : q * v1 + r = num) (hr : 4294967296 ≤ r) (hnum : num < (v1 + 1) * 4294967296) :
    q < 4294967296 ∧ q * (v1 * 4294967296 + v2) ≤ num * 4294967296 + u2 := by
  have a1 : q < 4294967296 := by
    refine Int.lt_of_mul_lt_mul_right (a := v1) ?_ (Int.le_of_lt h1)
    rw [Int.add_mul] at hnum
    rw [Int.mul_comm 4294967296 v1]
    omega
  refine ⟨a1, ?_⟩
  have a2 : q * v2 ≤ 4294967295 * 4294967295 := Int.mul_le_mul (by omega) (by omega) hv20 (by decide)
  have a3 : q * (v1 * 4294967296 + v2) = (q * v1) * 4294967296 + q * v2 := by rw [Int.mul_add, ← Int.mul_assoc]
  rw [a3]
  generalize q * v1 = m at *
  generalize q * v2 = n at *
  omega
theorem guess_l0 (u v : List Int) (i n : Nat) (hu : Dig B u) (hv : Dig B v) (hn : v.length = n) (hn2 : 2 ≤ n) (hi : i + n < u.length) (hl : u.length < 1099511627776) {v1 v2 u2 num : Int} (e1 : rd v ((n - 1 : Nat) : Int) = v1) (e2 : rd v ((n - 2 : Nat) : Int) = v2) (e3 : rd u ((i + n - 2 : Nat) : Int) = u2) (h1 : 0 < v1) (hnum : num < (v1 + 1) * 4294967296) :
    ∀ m : Nat, ∀ q r : Int, (4294967296 - r).toNat = m → 0 ≤ q → q ≤ 18446744073709551615 → 0 ≤ r → r < 4294967296 → q * v1 + r = num →
    ∃ q', Ev (fun k => divide_guess.l0 k u i v n q r) q' ∧ 0 ≤ q' ∧ q' < 4294967296 ∧ q' * (v1 * 4294967296 + v2) ≤ num * 4294967296 + u2 ∧
      ∀ t, 0 ≤ t → t < 4294967296 → t * (v1 * 4294967296 + v2) ≤ num * 4294967296 + u2 → t ≤ q → t ≤ q' := by
  have hv1 := rd_nonneg_lt hv (show n - 1 < v.length by omega)
  have hv2 := rd_nonneg_lt hv (show n - 2 < v.length by omega)
  have hu2 := rd_nonneg_lt hu (show i + n - 2 < u.length by omega)
  rw [e1] at hv1
  rw [e2] at hv2
  rw [e3] at hu2
  simp only [B] at hv1 hv2 hu2
  have w1 : wrap64 ((n : Int) - 1) = ((n - 1 : Nat) : Int) := by rw [w64 (by omega) (by omega)]; omega
  have w2 : wrap64 ((n : Int) - 2) = ((n - 2 : Nat) : Int) := by rw [w64 (by omega) (by omega)]; omega
  have w3 : wrap64 (wrap64 ((i : Int) + n) - 2) = ((i + n - 2 : Nat) : Int) := by rw [w64 (x := (i : Int) + n) (by omega) (by omega), w64 (by omega) (by omega)]; omega
  intro m
  induction m using Nat.strongRecOn with
  | ind m ih =>
    intro q r hm hq0 hq hr0 hr he
    have J : 0 < q → (∀ t, 0 ≤ t → t < 4294967296 → t * (v1 * 4294967296 + v2) ≤ num * 4294967296 + u2 → t ≤ q → t ≤ q - 1) →
        ∃ q', Ev (fun k => divide_guess.j1 k u i v n q r true) q' ∧ 0 ≤ q' ∧ q' < 4294967296 ∧ q' * (v1 * 4294967296 + v2) ≤ num * 4294967296 + u2 ∧
          ∀ t, 0 ≤ t → t < 4294967296 → t * (v1 * 4294967296 + v2) ≤ num * 4294967296 + u2 → t ≤ q → t ≤ q' := by
      intro hqp hdown
      have he' : (q - 1) * v1 + (r + v1) = num := by rw [Int.sub_mul]; omega
      by_cases hb : r + v1 ≥ 4294967296
      · have hf := guess_fin (q := q - 1) (r := r + v1) h1 hv2.1 hv2.2 hu2.1 (by omega) he' hb hnum
        refine ⟨q - 1, ev_succ ?_, by omega, hf.1, hf.2, hdown⟩
        simp only [divide_guess.j1]
        rw [w1, e1, wu64 (x := r + v1) (by omega) (by omega), wu64 (x := q - 1) (by omega) (by omega)]
        exact ev_pos (by first | rfl | trivial) (ev_pos (by omega) (ev_pos (by omega) (ev_pos hb (ev_now rfl))))
      · obtain ⟨q', k1, k2, k3, k4, k5⟩ := ih (4294967296 - (r + v1)).toNat (by omega) (q - 1) (r + v1) rfl (by omega) (by omega) (by omega) (by omega) he'
        refine ⟨q', ev_succ ?_, k2, k3, k4, fun t t0 t1 t2 t3 => k5 t t0 t1 t2 (hdown t t0 t1 t2 t3)⟩
        simp only [divide_guess.j1]
        rw [w1, e1, wu64 (x := r + v1) (by omega) (by omega), wu64 (x := q - 1) (by omega) (by omega)]
        exact ev_pos (by first | rfl | trivial) (ev_pos (by omega) (ev_pos (by omega) (ev_neg hb k1)))
    by_cases hqB : q ≥ 4294967296
    · obtain ⟨q', k1, k2⟩ := J (by omega) (fun t t0 t1 t2 t3 => by omega)
      refine ⟨q', ev_succ ?_, k2⟩
      simp only [divide_guess.l0]
      exact ev_pos hqB k1
    · have hm0 : 0 ≤ q * v2 := Int.mul_nonneg hq0 hv2.1
      have hm1 : q * v2 ≤ 4294967295 * 4294967295 := Int.mul_le_mul (by omega) (by omega) hv2.1 (by decide)
      have hx : ∀ t, t * (v1 * 4294967296 + v2) = (t * v1) * 4294967296 + t * v2 := fun t => by rw [Int.mul_add, ← Int.mul_assoc]
      by_cases hc : q * v2 > r * 4294967296 + u2
      · have hqp : 0 < q := by
          rcases (show q = 0 ∨ 0 < q by omega) with h | h
          · rw [h, Int.zero_mul] at hc; omega
          · exact h
        obtain ⟨q', k1, k2⟩ := J hqp (fun t t0 t1 t2 t3 => by
          rcases (show t = q ∨ t ≤ q - 1 by omega) with h | h
          · exfalso
            rw [h, hx, ← he] at t2
            generalize q * v1 = m1 at *
            generalize q * v2 = m2 at *
            omega
          · exact h)
        refine ⟨q', ev_succ ?_, k2⟩
        simp only [divide_guess.l0]
        rw [w2, w3, e2, e3, wu64 (x := q * v2) hm0 (by omega), wu64 (x := r * 4294967296) (by omega) (by omega), or_hi hr0 hr hu2.1 hu2.2, decide_eq_true hc]
        exact ev_neg hqB (ev_pos (by omega) (ev_pos (by omega) (ev_pos (by omega) (ev_pos (by omega) k1))))
      · refine ⟨q, ev_succ ?_, hq0, by omega, ?_, fun t t0 t1 t2 t3 => t3⟩
        · simp only [divide_guess.l0]
          rw [w2, w3, e2, e3, wu64 (x := q * v2) hm0 (by omega), wu64 (x := r * 4294967296) (by omega) (by omega), or_hi hr0 hr hu2.1 hu2.2, decide_eq_false hc]
          refine ev_neg hqB (ev_pos (by omega) (ev_pos (by omega) (ev_pos (by omega) (ev_pos (by omega) (ev_succ ?_)))))
          simp only [divide_guess.j1]
          exact ev_neg (by simp) (ev_now rfl)
        · rw [hx, ← he]
          generalize q * v1 = m1 at *
          generalize q * v2 = m2 at *
          omega
theorem guess_bounds {p V U vl ul v1 v2 u2 num q : Int} (hp : 0 < p) (hV : V = vl + p * (v2 + 4294967296 * v1)) (hU : U = ul + p * (u2 + 4294967296 * num)) (hvl0 : 0 ≤ vl) (hvl : vl < p) (hul0 : 0 ≤ ul) (hul : ul < p)
    (h1 : 0 < v1) (hv20 : 0 ≤ v2) (hv2 : v2 < 4294967296) (hu20 : 0 ≤ u2) (hu2 : u2 < 4294967296) (hn0 : 0 ≤ num) (hUV : U < 4294967296 * V) :
    num < (v1 + 1) * 4294967296 ∧ 0 < V ∧ 0 ≤ U / V ∧ U / V < 4294967296 ∧ U / V * (v1 * 4294967296 + v2) ≤ num * 4294967296 + u2 ∧ U / V ≤ num / v1 ∧
    (0 ≤ q → q < 4294967296 → q * (v1 * 4294967296 + v2) ≤ num * 4294967296 + u2 → q ≤ U / V + 1) := by
  have hpV : p * 4294967296 ≤ V := by
    have := Int.mul_le_mul_of_nonneg_left (show 4294967296 ≤ v2 + 4294967296 * v1 by omega) (Int.le_of_lt hp)
    omega
  have hV0 : 0 < V := by omega
  have hU0 : 0 ≤ U := by
    have := Int.mul_nonneg (Int.le_of_lt hp) (show 0 ≤ u2 + 4294967296 * num by omega)
    omega
  have ht0 : 0 ≤ U / V := Int.ediv_nonneg hU0 (by omega)
  have ht1 : U / V < 4294967296 := Int.ediv_lt_of_lt_mul hV0 (by omega)
  have htm : U / V * V ≤ U := Int.ediv_mul_le _ (by omega)
  have hup : U < (U / V + 1) * V := Int.lt_ediv_add_one_mul_self _ hV0
  refine ⟨?_, hV0, ht0, ht1, ?_, ?_, ?_⟩
  · refine lt_of_pmul (p := p * 4294967296) (by omega) ?_
    have e1 : p * 4294967296 * ((v1 + 1) * 4294967296) = 4294967296 * (p * (4294967296 * v1) + p * 4294967296) := by grind
    have e2 : V ≤ p * (4294967296 * v1) + p * 4294967296 := by
      have := Int.mul_le_mul_of_nonneg_left (show v2 + 1 ≤ 4294967296 by omega) (Int.le_of_lt hp)
      rw [Int.mul_add] at this hV
      omega
    have e3 : p * 4294967296 * num ≤ U := by
      have h3 := Int.mul_nonneg (Int.le_of_lt hp) hu20
      rw [Int.mul_add] at hU
      rw [Int.mul_assoc]; omega
    rw [e1]; omega
  · generalize U / V = t at *
    have : t * (v1 * 4294967296 + v2) < num * 4294967296 + u2 + 1 := by
      refine lt_of_pmul hp ?_
      have e1 : p * (t * (v1 * 4294967296 + v2)) ≤ t * V := by
        have h3 := Int.mul_nonneg ht0 hvl0
        have e : t * V = t * vl + p * (t * (v1 * 4294967296 + v2)) := by rw [hV]; grind
        omega
      have e2 : p * (num * 4294967296 + u2 + 1) = p * (u2 + 4294967296 * num) + p := by grind
      omega
    omega
  · rw [Int.le_ediv_iff_mul_le h1]
    generalize U / V = t at *
    have : t * v1 < num + 1 := by
      refine lt_of_pmul (p := p * 4294967296) (by omega) ?_
      have e1 : p * 4294967296 * (t * v1) ≤ t * V := by
        have h3 := Int.mul_nonneg ht0 hvl0
        have h4 := Int.mul_nonneg (Int.le_of_lt hp) (Int.mul_nonneg ht0 hv20)
        have e : t * V = t * vl + p * (t * v2) + p * 4294967296 * (t * v1) := by rw [hV]; grind
        omega
      have e2 : p * 4294967296 * (num + 1) = p * (4294967296 * num) + p * 4294967296 := by grind
      have e3 := Int.mul_le_mul_of_nonneg_left (show u2 + 1 ≤ 4294967296 by omega) (Int.le_of_lt hp)
      rw [Int.mul_add] at e3 hU
      omega
    omega
  · intro hq0 hq hle
    generalize U / V = t at *
    have e1 : q * V ≤ q * p + p * (u2 + 4294967296 * num) := by
      have h3 := Int.mul_le_mul_of_nonneg_left (Int.le_of_lt hvl) hq0
      have h4 := Int.mul_le_mul_of_nonneg_left hle (Int.le_of_lt hp)
      have e : q * V = q * vl + p * (q * (v1 * 4294967296 + v2)) := by rw [hV]; grind
      have e' : p * (num * 4294967296 + u2) = p * (u2 + 4294967296 * num) := by grind
      omega
    have e2 : q * p ≤ p * 4294967296 - p := by
      have := Int.mul_le_mul_of_nonneg_right (show q + 1 ≤ 4294967296 by omega) (Int.le_of_lt hp)
      rw [Int.add_mul, Int.mul_comm 4294967296 p] at this
      omega
    have e3 : (q - 1) * V < (t + 1) * V := by
      rw [Int.sub_mul]
      omega
    have := Int.lt_of_mul_lt_mul_right e3 (Int.le_of_lt hV0)
    omega
theorem val_split2 (b : Int) (xs : List Int) (m : Nat) (h : m ≤ xs.length) : val b xs = val b (xs.take m) + b ^ m * (rd xs m + b * (rd xs ((m + 1 : Nat) : Int) + b * val b (xs.drop (m + 2)))) := by
  rw [val_take_drop' b xs m h, val_drop b xs m, val_drop b xs (m + 1)]
theorem rd_drop (xs : List Int) (i j : Nat) : rd (xs.drop i) (j : Int) = rd xs ((i + j : Nat) : Int) := by
  rw [rd_nat, rd_nat, List.getD, List.getD, List.getElem?_drop]
theorem dig_drop {b : Int} {xs : List Int} (h : Dig b xs) (i : Nat) : Dig b (xs.drop i) := fun y hy => h y (List.mem_of_mem_drop hy)
theorem guess_ev (u v : List Int) (i : Nat) (hu : Dig B u) (hv : Dig B v) (hn2 : 2 ≤ v.length) (hi : i + v.length < u.length) (hl : u.length < 1099511627776) (htop : 0 < rd v ((v.length - 1 : Nat) : Int)) (hUV : val B (u.drop i) < B * val B v) :
    0 < val B v ∧ ∃ q, Ev (fun k => divide_guess.f k u i v) q ∧ 0 ≤ q ∧ q < B ∧ val B (u.drop i) / val B v ≤ q ∧ q ≤ val B (u.drop i) / val B v + 1 := by
  obtain ⟨n, hn⟩ : ∃ n, v.length = n := ⟨_, rfl⟩
  rw [hn] at hn2 hi htop
  have c1 : ((i + n : Nat) : Int) < (u.length : Int) := by omega
  have c2 : ((i + n - 1 : Nat) : Int) < (u.length : Int) := by omega
  have c3 : ((n - 1 : Nat) : Int) < (n : Int) := by omega
  have w1 : wrap64 ((i : Int) + (v.length : Int)) = ((i + n : Nat) : Int) := by rw [w64 (by omega) (by omega)]; omega
  have w2 : wrap64 (((i + n : Nat) : Int) - 1) = ((i + n - 1 : Nat) : Int) := by rw [w64 (by omega) (by omega)]; omega
  have w3 : wrap64 ((v.length : Int) - 1) = ((n - 1 : Nat) : Int) := by rw [w64 (by omega) (by omega)]; omega
  have hud := dig_drop hu i
  have sv := val_split2 B v (n - 2) (by omega)
  rw [show n - 2 + 1 = n - 1 by omega, show n - 2 + 2 = n by omega, List.drop_eq_nil_of_le (show v.length ≤ n by omega)] at sv
  simp only [val, Int.mul_zero, Int.add_zero] at sv
  have su := val_split2 B (u.drop i) (n - 2) (by rw [List.length_drop]; omega)
  rw [rd_drop, rd_drop, List.drop_drop, show i + (n - 2 + 2) = i + n by omega, val_drop B u (i + n), show i + (n - 2) = i + n - 2 by omega, show i + (n - 2 + 1) = i + n - 1 by omega] at su
  have hvl0 := val_nonneg (b := B) (by decide) (hv.take (n - 2))
  have hvl := val_lt (b := B) (by decide) (hv.take (n - 2))
  have hul0 := val_nonneg (b := B) (by decide) (hud.take (n - 2))
  have hul := val_lt (b := B) (by decide) (hud.take (n - 2))
  rw [List.length_take, Nat.min_eq_left (by omega)] at hvl
  rw [List.length_take, List.length_drop, Nat.min_eq_left (by omega)] at hul
  have hp : (0 : Int) < B ^ (n - 2) := Int.pow_pos (by decide)
  have hv1 := rd_nonneg_lt hv (show n - 1 < v.length by omega)
  have hv2 := rd_nonneg_lt hv (show n - 2 < v.length by omega)
  have hu0 := rd_nonneg_lt hu (show i + n < u.length by omega)
  have hu1 := rd_nonneg_lt hu (show i + n - 1 < u.length by omega)
  have hu2 := rd_nonneg_lt hu (show i + n - 2 < u.length by omega)
  have hW0 := val_nonneg (b := B) (by decide) (dig_drop hu (i + n + 1))
  have h1 := val_lt (b := B) (by decide) hv
  rw [hn, show n = n - 2 + 1 + 1 by omega, Int.pow_succ, Int.pow_succ] at h1
  have hW : val B (u.drop (i + n + 1)) = 0 := by
    have s0 := hu2.1
    have s1 := hu1.1
    have s2 := hu0.1
    clear hvl hvl0 hud hi hl
    generalize val B (u.drop (i + n + 1)) = W at *
    generalize (B : Int) ^ (n - 2) = p at *
    generalize rd u ((i + n - 2 : Nat) : Int) = a at *
    generalize rd u ((i + n - 1 : Nat) : Int) = b at *
    generalize rd u ((i + n : Nat) : Int) = c at *
    generalize val B v = V at *
    generalize val B (u.drop i) = U at *
    generalize val B ((u.drop i).take (n - 2)) = ul at *
    clear hul hu0 hu1 hu2 hv1 hv2 sv
    simp only [B] at *
    have e2 : p * 4294967296 * 4294967296 * 4294967296 * W ≤ U - ul := by
      have h2 := Int.mul_nonneg (Int.le_of_lt hp) (show 0 ≤ a + 4294967296 * (b + 4294967296 * c) by omega)
      have e3 : p * (a + 4294967296 * (b + 4294967296 * (c + 4294967296 * W))) = p * (a + 4294967296 * (b + 4294967296 * c)) + p * 4294967296 * 4294967296 * 4294967296 * W := by grind
      omega
    have e4 : p * 4294967296 * 4294967296 * 4294967296 * W < p * 4294967296 * 4294967296 * 4294967296 * 1 := by omega
    have := lt_of_pmul (by omega) e4
    omega
  rw [hW, Int.mul_zero, Int.add_zero] at su
  clear h1
  generalize hpe : (B : Int) ^ (n - 2) = p at *
  clear hpe
  generalize hv1e : rd v ((n - 1 : Nat) : Int) = v1 at *
  generalize hv2e : rd v ((n - 2 : Nat) : Int) = v2 at *
  generalize hu0e : rd u ((i + n : Nat) : Int) = u0 at *
  generalize hu1e : rd u ((i + n - 1 : Nat) : Int) = u1 at *
  generalize hu2e : rd u ((i + n - 2 : Nat) : Int) = u2 at *
  generalize val B v = V at *
  generalize val B (u.drop i) = U at *
  simp only [B] at *
  have key := fun q => guess_bounds (q := q) (num := u0 * 4294967296 + u1) hp sv (by rw [su, show u1 + 4294967296 * u0 = u0 * 4294967296 + u1 by omega]) hvl0 hvl hul0 hul htop hv2.1 hv2.2 hu2.1 hu2.2 (by omega) hUV
  obtain ⟨k1, k2, k3, k4, k5, k6, -⟩ := key 0
  have hnm0 : 0 ≤ u0 * 4294967296 + u1 := by omega
  have hnm1 : u0 * 4294967296 + u1 ≤ 18446744073709551615 := by omega
  have hq0 : 0 ≤ (u0 * 4294967296 + u1) / v1 := Int.ediv_nonneg hnm0 (by omega)
  have hq1 : (u0 * 4294967296 + u1) / v1 ≤ u0 * 4294967296 + u1 := Int.ediv_le_self _ hnm0
  have hr0 : 0 ≤ (u0 * 4294967296 + u1) % v1 := Int.emod_nonneg _ (by omega)
  have hr1 : (u0 * 4294967296 + u1) % v1 < v1 := Int.emod_lt_of_pos _ htop
  have hdm := Int.mul_ediv_add_emod (u0 * 4294967296 + u1) v1
  rw [Int.mul_comm v1] at hdm
  obtain ⟨q, g1, g2, g3, g4, g5⟩ := guess_l0 u v i n hu hv hn hn2 hi hl hv1e hv2e hu2e htop k1 _ _ _ rfl hq0 (by omega) hr0 (by omega) hdm
  refine ⟨k2, q, ?_, g2, g3, g5 _ k3 k4 k5 k6, (key q).2.2.2.2.2.2 g2 g3 g4⟩
  unfold divide_guess.f
  rw [w1, w2, w3, hv1e, hu0e, hu1e, wu64 (x := u0 * 4294967296) (by omega) (by omega), or_hi hu0.1 hu0.2 hu1.1 hu1.2, ediv_tdiv hnm0, emod_tmod hnm0, wu64 hq0 (by omega), hn]
  exact ev_pos (Int.natCast_nonneg _) (ev_pos c1 (ev_pos (Int.natCast_nonneg _) (ev_pos c2 (ev_pos (Int.natCast_nonneg _) (ev_pos c3 (ev_neg (Int.ne_of_gt htop) g1))))))
end Go.K

end
section
set_option linter.unusedVariables false
set_option linter.unusedSimpArgs false
set_option maxRecDepth 8000
namespace Go.K
open Go Go.RowKit
theorem limb_mul {a b c d : Int} (ha0 : 0 ≤ a) (ha : a < B) (hb0 : 0 ≤ b) (hb : b < B) (hc0 : 0 ≤ c) (hc : c < B) (hd0 : 0 ≤ d) (hd : d < B) :
    limb_Mul.f a b c d = some ((a * b + c + d) % B, (a * b + c + d) / B) := by
  have hm0 : 0 ≤ a * b := Int.mul_nonneg ha0 hb0
  have hm1 : a * b ≤ 4294967295 * 4294967295 := Int.mul_le_mul (by simp only [B] at ha; omega) (by simp only [B] at hb; omega) hb0 (by decide)
  simp only [B] at *
  unfold limb_Mul.f
  rw [mask32 ha0 (by omega), mask32 hb0 (by omega), mask32 hc0 (by omega), mask32 hd0 (by omega), Int.emod_eq_of_lt ha0 ha, Int.emod_eq_of_lt hb0 hb, Int.emod_eq_of_lt hc0 hc, Int.emod_eq_of_lt hd0 hd]
  generalize a * b = m at *
  simp (disch := omega) only [wu64]
  rw [mask32 (by omega) (by omega)]
theorem limb_sub_ex {a b c : Int} (ha0 : 0 ≤ a) (ha : a < B) (hb0 : 0 ≤ b) (hb : b < B) (hc0 : 0 ≤ c) (hc : c ≤ 1) :
    ∃ w o, limb_Sub.f a b c = some (w, o) ∧ 0 ≤ w ∧ w < B ∧ 0 ≤ o ∧ o ≤ 1 ∧ w = a - b - c + B * o := by
  have h := limb_sub ha0 ha hb0 hb hc0 hc
  simp only [B] at *
  by_cases hlt : a < b + c
  · rw [if_pos hlt] at h
    exact ⟨_, _, h, by omega, by omega, by omega, by omega, by omega⟩
  · rw [if_neg hlt] at h
    exact ⟨_, _, h, by omega, by omega, by omega, by omega, by omega⟩
theorem dat_eq (xs : List Int) {i : Int} (h : 0 ≤ i) : divide_at.f xs i = some (rd xs i) := by
  unfold divide_at.f
  by_cases hi : i ≥ (xs.length : Int)
  · rw [if_pos hi, rd_ge xs hi]
  · rw [if_neg hi, if_pos h, if_pos (by omega)]
theorem val_take_next (b : Int) (xs : List Int) (j : Nat) : val b (xs.take (j + 1)) = val b (xs.take j) + b ^ j * rd xs j := by
  by_cases h : j < xs.length
  · exact val_take_succ b xs j h
  · rw [rd_ge xs (by omega), List.take_of_length_le (by omega), List.take_of_length_le (by omega)]; omega
section
variable (u v : List Int) (hv : Dig B v) (i n : Nat) (hn : v.length = n) (hi : i + n < u.length) (hl : u.length < 1099511627776)
include hv hn hi hl
theorem take_l0 (q : Int) (hq0 : 0 ≤ q) (hq : q < B) : ∀ d j : Nat, n + 1 - j = d → j ≤ n + 1 → ∀ (u' : List Int) (c o : Int), Dig B u' → u'.length = u.length → u'.take i = u.take i → u'.drop (i + n + 1) = u.drop (i + n + 1) → 0 ≤ c → c < B → 0 ≤ o → o ≤ 1 → (j = n + 1 → c = 0) →
    Aside0 (val B u' = val B u - B ^ i * (q * val B (v.take j)) + B ^ (i + j) * (c + o)) →
    ∃ (w : List Int) (o' : Int), Ev (fun k => divide_take.l0 k u' i v q c o ((n + 1 : Nat) : Int) j) (decide (o' > 0), w) ∧ Dig B w ∧ w.length = u.length ∧ w.take i = u.take i ∧ w.drop (i + n + 1) = u.drop (i + n + 1) ∧ 0 ≤ o' ∧ o' ≤ 1 ∧ val B w = val B u - B ^ i * (q * val B v) + B ^ (i + n + 1) * o' := by
  intro d
  induction d with
  | zero =>
    intro j hd hj u' c o hu hlu ht hdr hc0 hc ho0 ho hcz he
    have hjn : j = n + 1 := by omega
    subst hjn
    have hvt : v.take (n + 1) = v := List.take_of_length_le (by omega)
    have hng : ¬ (((n + 1 : Nat) : Int) < ((n + 1 : Nat) : Int)) := by omega
    have hz := hcz rfl
    refine ⟨u', o, ev_succ ?_, hu, hlu, ht, hdr, ho0, ho, ?_⟩
    · simp only [divide_take.l0]
      exact ev_neg hng (ev_now rfl)
    · have h := he.out
      rw [hz, Int.zero_add, hvt] at h
      exact h
  | succ d ih =>
    intro j hd hj u' c o hu hlu ht hdr hc0 hc ho0 ho hcz he
    have hij : i + j < u'.length := by omega
    have n1 : (j : Int) < ((n + 1 : Nat) : Int) := by omega
    have n2 : ((i + j : Nat) : Int) < (u'.length : Int) := by omega
    have n3 : n + 1 - (j + 1) = d := by omega
    have n4 : j + 1 ≤ n + 1 := by omega
    have n5 : i ≤ i + j := by omega
    have n6 : i + j < i + n + 1 := by omega
    have n7 : i + (j + 1) = i + j + 1 := by omega
    have w12 : Aside0 (wrap64 ((i : Int) + j) = ((i + j : Nat) : Int) ∧ wrap64 ((j : Int) + 1) = ((j + 1 : Nat) : Int)) := ⟨by rw [w64 (by omega) (by omega)]; omega, by rw [w64 (by omega) (by omega)]; omega⟩
    have hvj := dig_rd0 (by decide) hv j
    have hur := rd_nonneg_lt hu hij
    have hm0 : 0 ≤ q * rd v j := Int.mul_nonneg hq0 hvj.1
    have hm1 : q * rd v j ≤ 4294967295 * 4294967295 := Int.mul_le_mul (by simp only [B] at hq; omega) (by simp only [B] at hvj; omega) hvj.1 (by decide)
    obtain ⟨w, o', h1, h2, h3, h4, h5, h6⟩ := limb_sub_ex (a := rd u' ((i + j : Nat) : Int)) (b := (q * rd v j + c + 0) % B) (c := o) hur.1 hur.2 (Int.emod_nonneg _ (by decide)) (Int.emod_lt_of_pos _ (by decide)) ho0 ho
    have hdm := Int.mul_ediv_add_emod (q * rd v j + c + 0) B
    have hc'0 : 0 ≤ (q * rd v j + c + 0) / B := Int.ediv_nonneg (by omega) (by decide)
    have hc'1 : (q * rd v j + c + 0) / B < B := Int.ediv_lt_of_lt_mul (by decide) (by simp only [B] at hq hvj hc hc0 hvj hm0 hm1 ⊢; omega)
    have hz : j + 1 = n + 1 → (q * rd v j + c + 0) / B = 0 := by
      intro h
      rw [rd_ge v (by omega), Int.mul_zero]
      exact Int.ediv_eq_zero_of_lt (by omega) (by omega)
    obtain ⟨r, o2, k1, k2⟩ := ih (j + 1) n3 n4 (u'.set (i + j) w) ((q * rd v j + c + 0) / B) o' (Dig.set hu _ h2 h3) (by rw [List.length_set, hlu]) (by rw [List.take_set_of_le n5, ht]) (by rw [List.drop_set_of_lt n6, hdr]) hc'0 hc'1 h4 h5 hz (Aside0.mk (by
      rw [val_set _ _ _ _ hij, he.out, val_take_next, h6, n7, Int.pow_succ]
      have hpw : (B : Int) ^ (i + j) = B ^ i * B ^ j := Int.pow_add ..
      rw [hpw]
      clear he ih
      generalize (q * rd v j + c + 0) / B = c' at *
      generalize (q * rd v j + c + 0) % B = p' at *
      generalize val B (v.take j) = V at *
      generalize val B u = U at *
      generalize (B : Int) ^ i = x at *
      generalize (B : Int) ^ j = y at *
      generalize rd u' ((i + j : Nat) : Int) = z at *
      generalize rd v j = t at *
      generalize (B : Int) = b at *
      have e : q * t = b * c' + p' - c := by omega
      have e2 : q * (V + y * t) = q * V + y * (q * t) := by grind
      rw [e2, e]
      grind))
    refine ⟨r, o2, ev_succ ?_, k2⟩
    simp only [divide_take.l0]
    rw [w12.out.1, w12.out.2, Int.toNat_natCast]
    exact ev_pos n1 (ev_eq (dat_eq v (Int.natCast_nonneg _)) (ev_eq (limb_mul hq0 hq hvj.1 hvj.2 hc0 hc (by decide) (by decide)) (ev_pos (Int.natCast_nonneg _) (ev_pos n2 (ev_eq h1 k1)))))
theorem give_l0 : ∀ d j : Nat, n + 1 - j = d → j ≤ n + 1 → ∀ (u' : List Int) (c : Int), Dig B u' → u'.length = u.length → u'.take i = u.take i → u'.drop (i + n + 1) = u.drop (i + n + 1) → 0 ≤ c → c ≤ 1 →
    Aside0 (val B u' = val B u + B ^ i * val B (v.take j) - B ^ (i + j) * c) →
    ∃ (w : List Int) (c' : Int), Ev (fun k => divide_give.l0 k u' i v c ((n + 1 : Nat) : Int) j) w ∧ Dig B w ∧ w.length = u.length ∧ w.take i = u.take i ∧ w.drop (i + n + 1) = u.drop (i + n + 1) ∧ 0 ≤ c' ∧ c' ≤ 1 ∧ val B w = val B u + B ^ i * val B v - B ^ (i + n + 1) * c' := by
  intro d
  induction d with
  | zero =>
    intro j hd hj u' c hu hlu ht hdr hc0 hc he
    have hjn : j = n + 1 := by omega
    subst hjn
    have hvt : v.take (n + 1) = v := List.take_of_length_le (by omega)
    have hng : ¬ (((n + 1 : Nat) : Int) < ((n + 1 : Nat) : Int)) := by omega
    refine ⟨u', c, ev_succ ?_, hu, hlu, ht, hdr, hc0, hc, ?_⟩
    · simp only [divide_give.l0]
      exact ev_neg hng (ev_now rfl)
    · have h := he.out
      rw [hvt] at h
      exact h
  | succ d ih =>
    intro j hd hj u' c hu hlu ht hdr hc0 hc he
    have hij : i + j < u'.length := by omega
    have n1 : (j : Int) < ((n + 1 : Nat) : Int) := by omega
    have n2 : ((i + j : Nat) : Int) < (u'.length : Int) := by omega
    have n3 : n + 1 - (j + 1) = d := by omega
    have n4 : j + 1 ≤ n + 1 := by omega
    have n5 : i ≤ i + j := by omega
    have n6 : i + j < i + n + 1 := by omega
    have n7 : i + (j + 1) = i + j + 1 := by omega
    have w12 : Aside0 (wrap64 ((i : Int) + j) = ((i + j : Nat) : Int) ∧ wrap64 ((j : Int) + 1) = ((j + 1 : Nat) : Int)) := ⟨by rw [w64 (by omega) (by omega)]; omega, by rw [w64 (by omega) (by omega)]; omega⟩
    have hvj := dig_rd0 (by decide) hv j
    have hur := rd_nonneg_lt hu hij
    have hdm := Int.mul_ediv_add_emod (rd u' ((i + j : Nat) : Int) + rd v j + c) B
    have hm0 := Int.emod_nonneg (rd u' ((i + j : Nat) : Int) + rd v j + c) (show (B : Int) ≠ 0 by decide)
    have hm1 := Int.emod_lt_of_pos (rd u' ((i + j : Nat) : Int) + rd v j + c) (show (0 : Int) < B by decide)
    have hc'0 : 0 ≤ (rd u' ((i + j : Nat) : Int) + rd v j + c) / B := Int.ediv_nonneg (by omega) (by decide)
    have hc'1 : (rd u' ((i + j : Nat) : Int) + rd v j + c) / B ≤ 1 := by simp only [B] at hur hvj ⊢; omega
    obtain ⟨r, o2, k1, k2⟩ := ih (j + 1) n3 n4 (u'.set (i + j) ((rd u' ((i + j : Nat) : Int) + rd v j + c) % B)) ((rd u' ((i + j : Nat) : Int) + rd v j + c) / B) (Dig.set hu _ hm0 hm1) (by rw [List.length_set, hlu]) (by rw [List.take_set_of_le n5, ht]) (by rw [List.drop_set_of_lt n6, hdr]) hc'0 hc'1 (Aside0.mk (by
      rw [val_set _ _ _ _ hij, he.out, val_take_next, n7, Int.pow_succ]
      have hpw : (B : Int) ^ (i + j) = B ^ i * B ^ j := Int.pow_add ..
      rw [hpw]
      clear he ih
      generalize (rd u' ((i + j : Nat) : Int) + rd v j + c) / B = c' at *
      generalize (rd u' ((i + j : Nat) : Int) + rd v j + c) % B = p' at *
      generalize val B (v.take j) = V at *
      generalize val B u = U at *
      generalize (B : Int) ^ i = x at *
      generalize (B : Int) ^ j = y at *
      generalize rd u' ((i + j : Nat) : Int) = z at *
      generalize rd v j = t at *
      generalize (B : Int) = b at *
      have e : p' = z + t + c - b * c' := by omega
      rw [e]
      grind))
    refine ⟨r, o2, ev_succ ?_, k2⟩
    simp only [divide_give.l0]
    rw [w12.out.1, w12.out.2, Int.toNat_natCast]
    exact ev_pos n1 (ev_pos (Int.natCast_nonneg _) (ev_pos n2 (ev_eq (dat_eq v (Int.natCast_nonneg _)) (ev_eq (limb_add hur.1 hur.2 hvj.1 hvj.2 hc0 (Int.lt_of_le_of_lt hc (by decide))) k1))))
end
theorem take_ev (u v : List Int) (hu : Dig B u) (hv : Dig B v) (i : Nat) (hi : i + v.length < u.length) (hl : u.length < 1099511627776) {q : Int} (hq0 : 0 ≤ q) (hq : q < B) :
    ∃ (w : List Int) (o' : Int), Ev (fun k => divide_take.f k u i v q) (decide (o' > 0), w) ∧ Dig B w ∧ w.length = u.length ∧ w.take i = u.take i ∧ w.drop (i + v.length + 1) = u.drop (i + v.length + 1) ∧ 0 ≤ o' ∧ o' ≤ 1 ∧ val B w = val B u - B ^ i * (q * val B v) + B ^ (i + v.length + 1) * o' := by
  obtain ⟨w, o, k1, k2⟩ := take_l0 u v hv i v.length rfl hi hl q hq0 hq _ 0 rfl (by omega) u 0 0 hu rfl rfl rfl (by omega) (by decide) (by omega) (by omega) (fun _ => rfl) (Aside0.mk (by simp [val]))
  refine ⟨w, o, ?_, k2⟩
  unfold divide_take.f
  rw [w64 (by omega) (by omega)]
  exact k1
theorem give_ev (u v : List Int) (hu : Dig B u) (hv : Dig B v) (i : Nat) (hi : i + v.length < u.length) (hl : u.length < 1099511627776) :
    ∃ (w : List Int) (c' : Int), Ev (fun k => divide_give.f k u i v) w ∧ Dig B w ∧ w.length = u.length ∧ w.take i = u.take i ∧ w.drop (i + v.length + 1) = u.drop (i + v.length + 1) ∧ 0 ≤ c' ∧ c' ≤ 1 ∧ val B w = val B u + B ^ i * val B v - B ^ (i + v.length + 1) * c' := by
  obtain ⟨w, o, k1, k2⟩ := give_l0 u v hv i v.length rfl hi hl _ 0 rfl (by omega) u 0 hu rfl rfl rfl (by omega) (by omega) (Aside0.mk (by simp [val]))
  refine ⟨w, o, ?_, k2⟩
  unfold divide_give.f
  rw [w64 (by omega) (by omega)]
  exact k1
theorem val_window (w : List Int) (hw : Dig B w) (i m : Nat) (hi : i + m ≤ w.length) (h : val B (w.drop (i + m)) = 0) : 0 ≤ val B (w.drop i) ∧ val B (w.drop i) < B ^ m := by
  have hd := dig_drop hw i
  refine ⟨val_nonneg (by decide) hd, ?_⟩
  have e := val_take_drop' B (w.drop i) m (by rw [List.length_drop]; omega)
  rw [List.drop_drop, h, Int.mul_zero, Int.add_zero] at e
  have h2 := val_lt (b := B) (by decide) (hd.take m)
  rw [List.length_take, List.length_drop, Nat.min_eq_left (by omega)] at h2
  omega
theorem knuth_round (u v : List Int) (hu : Dig B u) (hv : Dig B v) (i : Nat) (hn2 : 2 ≤ v.length) (hi : i + v.length < u.length) (hl : u.length < 1099511627776) (htop : 0 < rd v ((v.length - 1 : Nat) : Int)) (hup : val B (u.drop (i + 1)) < val B v) :
    ∃ (q : Int) (w : List Int) (b : Bool), Ev (fun k => divide_guess.f k u i v) q ∧ 0 ≤ q ∧ q < B ∧ Ev (fun k => divide_take.f k u i v q) (b, w) ∧
      ((b = false ∧ Dig B w ∧ w.length = u.length ∧ val B (w.drop i) < val B v ∧ val B w = val B u - B ^ i * (q * val B v)) ∨
       (b = true ∧ 0 < q ∧ ∃ w' : List Int, Ev (fun k => divide_give.f k w i v) w' ∧ Dig B w' ∧ w'.length = u.length ∧ val B (w'.drop i) < val B v ∧ val B w' = val B u - B ^ i * ((q - 1) * val B v))) := by
  have hu0 := rd_nonneg_lt hu (show i < u.length by omega)
  have hUV : val B (u.drop i) < B * val B v := by
    rw [val_drop B u i]
    have := Int.mul_le_mul_of_nonneg_left (show val B (u.drop (i + 1)) + 1 ≤ val B v by omega) (show (0 : Int) ≤ B by decide)
    rw [Int.mul_add] at this
    omega
  obtain ⟨hV0, q, g1, g2, g3, g4, g5⟩ := guess_ev u v i hu hv hn2 hi hl htop hUV
  obtain ⟨w, o, t1, t2, t3, t4, t5, t6, t7, t8⟩ := take_ev u v hu hv i hi hl g2 g3
  have hVlt := val_lt (b := B) (by decide) hv
  have hp : (0 : Int) < B ^ i := Int.pow_pos (by decide)
  have hpn : (0 : Int) < B ^ v.length := Int.pow_pos (by decide)
  have hab : val B (u.drop (i + (v.length + 1))) = 0 := by
    have h0 := val_nonneg (b := B) (by decide) (dig_drop hu (i + (v.length + 1)))
    have e := val_take_drop' B (u.drop (i + 1)) v.length (by rw [List.length_drop]; omega)
    rw [List.drop_drop, show i + 1 + v.length = i + (v.length + 1) by omega] at e
    have h1 := val_nonneg (b := B) (by decide) ((dig_drop hu (i + 1)).take v.length)
    have h2 : B ^ v.length * val B (u.drop (i + (v.length + 1))) < B ^ v.length * 1 := by omega
    have := lt_of_pmul hpn h2
    omega
  have split : ∀ x : List Int, x.length = u.length → x.take i = u.take i → val B x = val B (u.take i) + B ^ i * val B (x.drop i) := fun x hx hxt => by
    rw [← hxt]; exact val_take_drop' B x i (by omega)
  have su := split u rfl rfl
  have sw := split w t3 t4
  have hup2 : val B (u.drop i) < (val B (u.drop i) / val B v + 1) * val B v := Int.lt_ediv_add_one_mul_self _ hV0
  have hdn : val B (u.drop i) / val B v * val B v ≤ val B (u.drop i) := Int.ediv_mul_le _ (by omega)
  have win := val_window w t2 i (v.length + 1) (by omega) (by rw [show i + (v.length + 1) = i + v.length + 1 by omega, t5]; exact hab)
  have hpow : (B : Int) ^ (i + v.length + 1) = B ^ i * B ^ (v.length + 1) := by rw [← Int.pow_add]; rfl
  rw [hpow] at t8
  have hw : val B (w.drop i) = val B (u.drop i) - q * val B v + B ^ (v.length + 1) * o := by
    have : B ^ i * val B (w.drop i) = B ^ i * (val B (u.drop i) - q * val B v + B ^ (v.length + 1) * o) := by
      rw [Int.mul_add, Int.mul_sub]
      rw [← Int.mul_assoc] at *
      rw [Int.mul_assoc (B ^ i) (B ^ (v.length + 1)) o] at *
      omega
    exact Int.eq_of_mul_eq_mul_left (by omega) this
  refine ⟨q, w, decide (o > 0), g1, g2, g3, t1, ?_⟩
  rcases (show o = 0 ∨ o = 1 by omega) with ho | ho
  · left
    rw [ho, Int.mul_zero, Int.add_zero] at hw
    rw [ho, Int.mul_zero, Int.add_zero] at t8
    refine ⟨by rw [ho]; rfl, t2, t3, ?_, t8⟩
    have hqle : q ≤ val B (u.drop i) / val B v := by
      rw [Int.le_ediv_iff_mul_le hV0]; omega
    have hqe : q = val B (u.drop i) / val B v := by omega
    rw [hqe] at hw
    rw [Int.add_mul] at hup2
    omega
  · right
    rw [ho, Int.mul_one] at hw
    have hqgt : val B (u.drop i) / val B v < q := by
      apply Int.lt_of_not_ge
      intro hle
      have := Int.mul_le_mul_of_nonneg_right hle (Int.le_of_lt hV0)
      omega
    have hqe : q = val B (u.drop i) / val B v + 1 := by omega
    have ht0 : 0 ≤ val B (u.drop i) / val B v := Int.ediv_nonneg (val_nonneg (by decide) (dig_drop hu i)) (Int.le_of_lt hV0)
    obtain ⟨w', c', s1, s2, s3, s4, s5, s6, s7, s8⟩ := give_ev w v t2 hv i (by omega) (by omega)
    have win' := val_window w' s2 i (v.length + 1) (by omega) (by rw [show i + (v.length + 1) = i + v.length + 1 by omega, s5, t5]; exact hab)
    have sw' := split w' (by omega) (by rw [s4, t4])
    rw [hpow] at s8
    have hw' : val B (w'.drop i) = val B (w.drop i) + val B v - B ^ (v.length + 1) * c' := by
      have : B ^ i * val B (w'.drop i) = B ^ i * (val B (w.drop i) + val B v - B ^ (v.length + 1) * c') := by
        rw [Int.mul_sub, Int.mul_add]
        rw [Int.mul_assoc (B ^ i) (B ^ (v.length + 1)) c'] at *
        omega
      exact Int.eq_of_mul_eq_mul_left (by omega) this
    have hq1 : (q - 1) * val B v ≤ val B (u.drop i) := by rw [hqe]; simpa using hdn
    have hq2 : val B (u.drop i) < (q - 1) * val B v + val B v := by
      rw [hqe, Int.add_sub_cancel]; rw [Int.add_mul] at hup2; omega
    have hqs : (q - 1) * val B v = q * val B v - val B v := by rw [Int.sub_mul]; omega
    have hc1 : c' = 1 := by
      rcases (show c' = 0 ∨ c' = 1 by omega) with h | h
      · rw [h, Int.mul_zero] at hw'; omega
      · exact h
    rw [hc1, Int.mul_one] at hw'
    rw [hc1, Int.mul_one] at s8
    rw [ho, Int.mul_one] at t8
    refine ⟨by rw [ho]; rfl, by omega, w', s1, s2, by omega, by omega, ?_⟩
    rw [s8, t8, hqs, Int.mul_sub]
    omega
end Go.K

end
section
set_option linter.unusedVariables false
set_option linter.unusedSimpArgs false
set_option maxRecDepth 8000
namespace Go.K
open Go Go.RowKit
theorem rd_zeros_mid (i : Nat) (y : Int) (zs : List Int) : rd (List.replicate i 0 ++ y :: zs) (i : Int) = y := by
  have := rd_append_len (List.replicate i 0) y zs
  rwa [List.length_replicate] at this
theorem set_zeros_mid (i : Nat) (y v : Int) (zs : List Int) : (List.replicate i 0 ++ y :: zs).set i v = List.replicate i 0 ++ v :: zs := by
  have := set_append_len (List.replicate i 0) y v zs
  rwa [List.length_replicate, Int.toNat_natCast] at this
theorem knuth_l0 (v : List Int) (hv : Dig B v) (s : Int) (hs0 : 0 ≤ s) (hs : s ≤ 100000) (hn2 : 2 ≤ v.length) (htop : 0 < rd v ((v.length - 1 : Nat) : Int)) (T : Int) (L : Nat) (hL : L < 1099511627776) :
    ∀ i : Nat, ∀ (u qs : List Int), Dig B u → u.length = L → Dig B qs → i + qs.length + v.length = L → val B (u.drop i) < val B v → val B u + B ^ i * (val B qs * val B v) = T →
    Ev (fun k => divide_knuth.l0 k s v u (List.replicate i 0 ++ qs) ((i : Int) - 1)) (dg B (T / val B v), dg B (T % val B v / 2 ^ s.toNat)) := by
  intro i
  induction i with
  | zero =>
    intro u qs hu hul hq hlen hup he
    rw [List.drop_zero] at hup
    rw [Int.pow_zero, Int.one_mul] at he
    have h0 := val_nonneg (b := B) (by decide) hu
    obtain ⟨e1, e2⟩ := div_uniq (a := T) (q := val B qs) (by omega) h0 hup (by rw [Int.mul_comm]; omega)
    have hle : (dg B (val B u)).length ≤ u.length := dg_len_le hB _ _ h0 (val_lt (by decide) hu)
    refine ev_succ ?_
    simp only [divide_knuth.l0, List.replicate_zero, List.nil_append]
    refine ev_neg (by omega) (ev_bind (make_dig qs hq (by omega)) (ev_bind (make_dig u hu (by omega)) (ev_bind (shr_ev h0 hs0 hs (by omega)) (ev_now ?_))))
    rw [e1, e2]
  | succ i ih =>
    intro u qs hu hul hq hlen hup he
    obtain ⟨q, w, b, g1, g2, g3, g4, g5⟩ := knuth_round u v hu hv i hn2 (by omega) (by omega) htop hup
    have w1 : Aside0 (wrap64 ((i : Int) - 1) = (i : Int) - 1) := ⟨w64 (by omega) (by omega)⟩
    refine ev_succ ?_
    simp only [divide_knuth.l0, cast_pred, Int.toNat_natCast, w1.out]
    refine ev_pos (by omega) (ev_bind g1 (ev_pos (by omega) (ev_pos (by simp; omega) ?_)))
    simp only [Option.bind_some]
    rw [set_zeros, rd_zeros_mid]
    refine ev_bind g4 ?_
    rcases g5 with ⟨hb, h1, h2, h3, h4⟩ | ⟨hb, hqp, w', k1, h1, h2, h3, h4⟩
    · refine ev_neg (by rw [hb]; simp) ?_
      refine ih w (q :: qs) h1 (by omega) (hq.cons g2 g3) (by rw [List.length_cons]; omega) h3 ?_
      rw [h4, ← he, Int.pow_succ]
      simp only [val]
      generalize val B v = V
      generalize val B qs = Q
      generalize val B u = U
      generalize (B : Int) ^ i = p
      grind
    · refine ev_pos hb (ev_bind k1 ?_)
      rw [set_zeros_mid, wu64 (x := q - 1) (by omega) (by simp only [B] at g3; omega)]
      refine ih w' ((q - 1) :: qs) h1 (by omega) (hq.cons (by omega) (by omega)) (by rw [List.length_cons]; omega) h3 ?_
      rw [h4, ← he, Int.pow_succ]
      simp only [val]
      generalize val B v = V
      generalize val B qs = Q
      generalize val B u = U
      generalize (B : Int) ^ i = p
      grind
theorem knuth_ev {x y : Int} (hy0 : 0 < y) (hxy : y ≤ x) (hl : (dg B x).length < 1000000000) (hn2 : 2 ≤ (dg B y).length) :
    Ev (fun k => divide_knuth.f k (dg B x) (dg B y)) (dg B (x / y), dg B (x % y)) := by
  have hx0 : 0 ≤ x := by omega
  obtain ⟨N, hN⟩ : ∃ N, (dg B x).length = N := ⟨_, rfl⟩
  obtain ⟨n, hn⟩ : ∃ n, (dg B y).length = n := ⟨_, rfl⟩
  have hnN : n ≤ N := by rw [← hN, ← hn]; exact dg_len_mono hB (by omega) hxy
  rw [hn] at hn2
  have hdx := dg_dig hB x hx0
  have hdy := dg_dig hB y (by omega)
  have hxlt := val_lt (b := B) (by decide) hdx
  rw [val_dg hB x hx0, hN] at hxlt
  obtain ⟨t, ht⟩ : ∃ t, rd (dg B y) ((n - 1 : Nat) : Int) = t := ⟨_, rfl⟩
  have ht1 := rd_nonneg_lt hdy (show n - 1 < (dg B y).length by omega)
  have ht2 := rd_last_ne (n := y) hB y (by omega) hy0
  rw [hn, show ((n : Int) - 1) = ((n - 1 : Nat) : Int) by omega, ht] at ht2
  rw [ht] at ht1
  have hb1 := limb_bits ht1.1 ht1.2
  obtain ⟨β, hβ⟩ : ∃ β, (dg 2 t).length = β := ⟨_, rfl⟩
  rw [hβ] at hb1
  have hβ32 : β ≤ 32 := by
    rw [← hβ]; exact (len2_lt_iff ht1.1 32).2 (by have := ht1.2; simp only [B] at this; omega)
  have hβ1 : 1 ≤ β := by
    rw [← hβ]
    apply Nat.lt_of_not_le
    intro h
    have := (len2_lt_iff ht1.1 0).1 h
    simp at this; omega
  have htlt : t < 2 ^ β := (len2_lt_iff ht1.1 β).1 (by omega)
  obtain ⟨s, hs⟩ : ∃ s : Nat, s = 32 - β := ⟨_, rfl⟩
  have h2s : (0 : Int) < 2 ^ s := Int.pow_pos (by decide)
  have hbs : (2 : Int) ^ β * 2 ^ s = B := by
    rw [← Int.pow_add, show β + s = 32 by omega]; decide
  have h2sB : (2 : Int) ^ s ≤ B := by
    have : (2 : Int) ^ s ≤ 2 ^ 32 := pow_mono (by decide) (by omega)
    exact Int.le_trans this (by decide)
  have hy1 : B ^ (n - 1) ≤ y := by
    apply Int.le_of_not_gt
    intro h
    have := dg_len_le hB (n - 1) y (by omega) h
    omega
  have hy2 : y < (t + 1) * B ^ (n - 1) := by
    have e := val_take_drop' B (dg B y) (n - 1) (by omega)
    rw [val_dg hB y (by omega), val_drop B (dg B y) (n - 1), ht, List.drop_eq_nil_of_le (show (dg B y).length ≤ n - 1 + 1 by omega)] at e
    have h1 := val_lt (b := B) (by decide) (hdy.take (n - 1))
    rw [List.length_take, Nat.min_eq_left (by omega)] at h1
    simp only [val, Int.mul_zero, Int.add_zero] at e
    rw [Int.add_mul, Int.one_mul, Int.mul_comm t]
    omega
  have hpn : (0 : Int) < B ^ (n - 1) := Int.pow_pos (by decide)
  have hV0 : 0 < y * 2 ^ s := Int.mul_pos hy0 h2s
  have hV1 : B ^ (n - 1) ≤ y * 2 ^ s := by
    have := Int.mul_le_mul_of_nonneg_left (show (1 : Int) ≤ 2 ^ s by omega) (show 0 ≤ y by omega)
    omega
  have hV2 : y * 2 ^ s < B ^ n := by
    have h1 : y < 2 ^ β * B ^ (n - 1) := by
      have := Int.mul_le_mul_of_nonneg_right (show t + 1 ≤ 2 ^ β by omega) (Int.le_of_lt hpn)
      omega
    have h2 : y * 2 ^ s < 2 ^ β * B ^ (n - 1) * 2 ^ s := Int.mul_lt_mul_of_pos_right h1 h2s
    have h3 : (2 : Int) ^ β * B ^ (n - 1) * 2 ^ s = B ^ n := by
      rw [Int.mul_right_comm, hbs, show n = n - 1 + 1 by omega, Int.pow_succ, Nat.add_sub_cancel, Int.mul_comm]
    omega
  have hvl : (dg B (y * 2 ^ s)).length = n := by
    have h1 := dg_len_le hB n _ (Int.le_of_lt hV0) hV2
    have h2 := dg_len_ge hB (n - 1) _ (Int.le_of_lt hV0) hV1
    omega
  have hX0 : 0 ≤ x * 2 ^ s := Int.mul_nonneg hx0 (Int.le_of_lt h2s)
  have hX1 : x * 2 ^ s < B ^ N * 2 ^ s := Int.mul_lt_mul_of_pos_right hxlt h2s
  have hX2 : x * 2 ^ s < B ^ (N + 1) := by
    rw [Int.pow_succ]
    exact Int.lt_of_lt_of_le hX1 (Int.mul_le_mul_of_nonneg_left h2sB (Int.pow_nonneg (by decide)))
  have hXl : (dg B (x * 2 ^ s)).length ≤ N + 1 := dg_len_le hB _ _ hX0 hX2
  obtain ⟨u, hu⟩ : ∃ u, u = dg B (x * 2 ^ s) ++ List.replicate (N + 1 - (dg B (x * 2 ^ s)).length) 0 := ⟨_, rfl⟩
  have hul : u.length = N + 1 := by rw [hu, List.length_append, List.length_replicate]; omega
  have hud : Dig B u := by rw [hu]; exact (dg_dig hB _ hX0).append (Dig.zeros (by decide) _)
  have huv : val B u = x * 2 ^ s := by rw [hu, val_append, val_zeros, val_dg hB _ hX0, Int.mul_zero, Int.add_zero]
  have hvd := dg_dig hB _ (Int.le_of_lt hV0)
  have hvv := val_dg hB _ (Int.le_of_lt hV0)
  have htop := rd_last_ne (n := y * 2 ^ s) hB _ (Int.le_of_lt hV0) hV0
  rw [hvl, show ((n : Int) - 1) = ((n - 1 : Nat) : Int) by omega] at htop
  have htop' := rd_nonneg_lt hvd (show n - 1 < (dg B (y * 2 ^ s)).length by omega)
  have hup : val B (u.drop (N - n + 1)) < val B (dg B (y * 2 ^ s)) := by
    rw [hvv]
    have e := val_take_drop' B u (N - n + 1) (by omega)
    have h1 := val_nonneg (b := B) (by decide) (hud.take (N - n + 1))
    have hp : (0 : Int) < B ^ (N - n + 1) := Int.pow_pos (by decide)
    refine lt_of_pmul hp ?_
    have e2 : (B : Int) ^ N = B ^ (N - n + 1) * B ^ (n - 1) := by rw [← Int.pow_add]; congr 1; omega
    have h2 : B ^ (n - 1) * 2 ^ s ≤ y * 2 ^ s := Int.mul_le_mul_of_nonneg_right hy1 (Int.le_of_lt h2s)
    have h3 := Int.mul_le_mul_of_nonneg_left h2 (Int.le_of_lt hp)
    rw [← Int.mul_assoc, ← e2] at h3
    omega
  have key := knuth_l0 (dg B (y * 2 ^ s)) hvd (s : Int) (by omega) (by omega) (by omega) (by rw [hvl]; omega) (x * 2 ^ s) (N + 1) (by omega) (N - n + 1) u [] hud hul Dig.nil (by simp; omega) hup (by rw [huv]; simp [val])
  rw [hvv, Int.toNat_natCast, List.append_nil] at key
  have hr1 : x * 2 ^ s / (y * 2 ^ s) = x / y := Int.mul_ediv_mul_of_pos_left _ _ h2s
  have hr2 : x * 2 ^ s % (y * 2 ^ s) / 2 ^ s = x % y := by
    rw [Int.mul_comm x, Int.mul_comm y, Int.mul_emod_mul_of_pos _ _ h2s]
    exact Int.mul_ediv_cancel_left _ (by omega)
  rw [hr1, hr2] at key
  unfold divide_knuth.f
  have w1 : Aside0 (wrap64 (((dg B y).length : Int) - 1) = ((n - 1 : Nat) : Int)) := ⟨by rw [w64 (by omega) (by omega)]; omega⟩
  have w2 : Aside0 (wrap64 (32 - (β : Int)) = (s : Int)) := ⟨by rw [w64 (by omega) (by omega)]; omega⟩
  have w3 : Aside0 (wrap64 (((dg B x).length : Int) + 1) = ((N + 1 : Nat) : Int)) := ⟨by rw [w64 (by omega) (by omega)]; omega⟩
  have w4 : Aside0 (wrap64 (((dg B x).length : Int) - ((dg B y).length : Int)) = ((N - n + 1 : Nat) : Int) - 1) := ⟨by rw [w64 (by omega) (by omega)]; omega⟩
  have w5 : Aside0 (wrap64 (((N - n + 1 : Nat) : Int) - 1 + 1) = ((N - n + 1 : Nat) : Int)) := ⟨by rw [w64 (by omega) (by omega)]; omega⟩
  have hsh1 := shl_ev (x := y) (n := (s : Int)) (by omega) (by omega) (by omega) (by omega)
  have hsh2 := shl_ev (x := x) (n := (s : Int)) hx0 (by omega) (by omega) (by omega)
  rw [Int.toNat_natCast] at hsh1 hsh2
  rw [w1.out, w3.out, w4.out, w5.out, ht]
  refine ev_pos (by omega) (ev_pos (by omega) (ev_bind hb1 ?_))
  simp only [w2.out]
  refine ev_bind hsh1 (ev_pos (by omega) (ev_pos (by simp; omega) ?_))
  simp only [Option.bind_some, Int.toNat_natCast, List.length_replicate]
  refine ev_bind hsh2 (ev_pos (by omega) (ev_pos (by omega) ?_))
  have eu : (List.replicate (N + 1) (0 : Int)).take 0 ++ ((dg B (x * 2 ^ s)).take (N + 1 - 0) ++ (List.replicate (N + 1) (0 : Int)).drop (0 + min (dg B (x * 2 ^ s)).length (N + 1 - 0))) = u := by
    rw [hu, List.take_zero, List.nil_append, List.take_of_length_le (by omega), List.drop_replicate]
    congr 2
    omega
  simp only []
  rw [eu]
  exact key
theorem div_ev {x y : Int} (hx : 0 ≤ x) (hy : 0 < y) (hl : (dg B x).length < 1000000000) (hl2 : (dg B y).length < 1000000000) : Ev (fun k => divide_Div.f k (dg B x) (dg B y)) (dg B (x / y), dg B (x % y), 0) := by
  have hne : (dg B y).length ≠ 0 := fun h => by
    have := (dg_nil_iff hB (by omega)).1 (List.length_eq_zero_iff.1 h); omega
  have m1 := may_ev (dg B x) (by omega)
  have m2 := may_ev (dg B y) (by omega)
  rw [may_dg hx] at m1
  rw [may_dg (by omega)] at m2
  unfold divide_Div.f
  refine ev_neg (by omega) (ev_bind m1 (ev_pos rfl (ev_bind m2 (ev_succ ?_))))
  simp only [divide_Div.j0]
  refine ev_neg (by simp) (ev_bind (cmp_ev hx (by omega) (by omega)) (ev_ite (fun h => ?_) (fun h => ev_ite (fun h1 => ?_) (fun h1 => ?_))))
  · have hlt : x < y := by
      unfold cmpI at h; split at h
      · assumption
      · split at h <;> omega
    refine ev_bind (make_ev hx (by omega)) (ev_now ?_)
    rw [Int.ediv_eq_zero_of_lt hx hlt, Int.emod_eq_of_lt hx hlt, dg_zero]
  · have hyB : y < B := by
      have := val_lt (b := B) (by decide) (dg_dig hB y (by omega))
      rw [val_dg hB y (by omega), show (dg B y).length = 1 by omega, Int.pow_one] at this
      exact this
    have e0 : rd (dg B y) 0 = y := by
      rw [dg_pos hB hy, rd_cons_zero, Int.emod_eq_of_lt (by omega) hyB]
    have em : y % 4294967296 = y := Int.emod_eq_of_lt (by omega) hyB
    simp only [B] at hyB
    have hd := dsmall_ev (d0 := y) hx (by omega) (by omega) (by omega) (by omega : (dg B x).length < 1099511627776)
    rw [em] at hd
    rw [e0]
    have hm0 : 0 ≤ x % y := Int.emod_nonneg _ (by omega)
    have hm1 : x % y < y := Int.emod_lt_of_pos _ hy
    exact ev_pos (by omega) (ev_bind hd (ev_bind (nat_of_ev (x := x % y) hm0 (by omega)) (ev_now rfl)))
  · have hge : y ≤ x := by
      unfold cmpI at h; split at h
      · omega
      · split at h <;> omega
    exact ev_bind (knuth_ev hy hge hl (by omega)) (ev_now rfl)
theorem div_zero {xs : List Int} : Ev (fun k => divide_Div.f k xs (dg B 0)) ([], [], 3) := by
  unfold divide_Div.f
  rw [dg_zero]
  exact ev_pos rfl (ev_now rfl)
theorem dg_len_pos {x : Int} (hx : 0 ≤ x) : ((dg B x).length : Int) > 0 ↔ x ≠ 0 := by
  constructor
  · intro h hz
    rw [hz, dg_zero] at h
    simp at h
  · intro h
    have : (dg B x).length ≠ 0 := fun h' => h ((dg_nil_iff hB hx).1 (List.length_eq_zero_iff.1 h'))
    omega
def exactR (x y : Int) : List Int × Int := if y = 0 then ([], 3) else if x % y = 0 then (dg B (x / y), 0) else ([], 4)
theorem exact_ev {x y : Int} (hx : 0 ≤ x) (hy : 0 ≤ y) (hl : (dg B x).length < 1000000000) (hl2 : (dg B y).length < 1000000000) : Ev (fun k => divide_Exact.f k (dg B x) (dg B y)) (exactR x y) := by
  unfold divide_Exact.f exactR
  by_cases hz : y = 0
  · rw [if_pos hz, hz]
    exact ev_bind div_zero (ev_neg (by simp) (ev_now rfl))
  · rw [if_neg hz]
    have hm0 : 0 ≤ x % y := Int.emod_nonneg _ hz
    refine ev_bind (div_ev hx (by omega) hl hl2) (ev_pos rfl (ev_ite (fun h => ?_) (fun h => ?_)))
    · exact ev_now (by rw [if_neg ((dg_len_pos hm0).1 h)])
    · exact ev_now (by rw [if_pos (by have := mt (dg_len_pos hm0).2 h; omega)])
def modR (x y : Int) : List Int × Int := if y = 0 then ([], 3) else (dg B (x % y), 0)
theorem mod_ev {x y : Int} (hx : 0 ≤ x) (hy : 0 ≤ y) (hl : (dg B x).length < 1000000000) (hl2 : (dg B y).length < 1000000000) : Ev (fun k => divide_Mod.f k (dg B x) (dg B y)) (modR x y) := by
  unfold divide_Mod.f modR
  by_cases hz : y = 0
  · rw [if_pos hz, hz]
    exact ev_bind div_zero (ev_now rfl)
  · rw [if_neg hz]
    exact ev_bind (div_ev hx (by omega) hl hl2) (ev_now rfl)
end Go.K

end
section
set_option linter.unusedVariables false
set_option linter.unusedSimpArgs false
set_option maxRecDepth 8000
namespace Go.K
open Go Go.RowKit
theorem mn_nat (a b : Nat) : mn (a : Int) (b : Int) = ((min a b : Nat) : Int) := by unfold mn; split <;> omega
theorem made_dig (xs : List Int) (hx : Dig B xs) (hl : xs.length < 17592186044416) : Ev (fun k => mul_made.f k xs) (dg B (val B xs)) := by
  unfold mul_made.f
  exact ev_bind (make_dig xs hx hl) (ev_now rfl)
theorem val_drop_zero {xs : List Int} (hx : Dig B xs) {m : Nat} (h : val B (xs.drop m) = 0) : rd xs m = 0 := by
  have h1 := val_drop B xs m
  have h2 := val_nonneg (b := B) (by decide) (dig_drop hx (m + 1))
  have h3 := dig_rd0 (by decide) hx m
  simp only [B] at *
  omega
section
variable (xs ys : List Int) (hx : Dig B xs) (hy : Dig B ys) (hl : xs.length + ys.length < 1099511627776)
include hx hy hl
theorem long_l1 (r : List Int) (i : Nat) (hi : i < xs.length)
    (K : ∀ o : List Int, Dig B o → o.length = xs.length + ys.length → Aside0 (val B o = val B (xs.take (i + 1)) * val B ys) → Ev (fun k => mul_Long.l0 k ys o xs xs.length ((i + 1 : Nat) : Int)) r) :
    ∀ (d j : Nat), ys.length - j = d → j ≤ ys.length → ∀ (o : List Int) (c : Int), Dig B o → o.length = xs.length + ys.length → 0 ≤ c → c < B → val B (o.drop (i + ys.length)) = 0 →
    Aside0 (val B o + B ^ (i + j) * c = val B (xs.take i) * val B ys + B ^ i * (rd xs i * val B (ys.take j))) → Ev (fun k => mul_Long.l1 k ys o i (rd xs i) c xs xs.length i ys ys.length j) r := by
  have ha := rd_nonneg_lt hx hi
  intro d
  induction d with
  | zero =>
    intro j hd hj o c ho hlo hc0 hc hz he
    have hj2 : j = ys.length := by omega
    subst hj2
    have n1 : ¬ ((ys.length : Int) < (ys.length : Int)) := by omega
    have n2 : i + ys.length < o.length := by omega
    have n3 : ((i + ys.length : Nat) : Int) < (o.length : Int) := by omega
    have hr := val_drop_zero ho hz
    have w12 : Aside0 (wrap64 ((i : Int) + (ys.length : Int)) = ((i + ys.length : Nat) : Int) ∧ wrap64 ((i : Int) + 1) = ((i + 1 : Nat) : Int)) := ⟨by rw [w64 (by omega) (by omega)]; omega, by rw [w64 (by omega) (by omega)]; omega⟩
    refine ev_succ ?_
    simp only [mul_Long.l1]
    rw [w12.out.1, w12.out.2, Int.toNat_natCast]
    refine ev_neg n1 (ev_pos (Int.natCast_nonneg _) (ev_pos n3 ?_))
    refine K _ (Dig.set ho _ hc0 hc) (by rw [List.length_set, hlo]) ⟨?_⟩
    rw [val_set _ _ _ _ n2, hr, Int.sub_zero, he.out, List.take_length, val_take_succ _ _ _ hi]
    grind
  | succ d ih =>
    intro j hd hj o c ho hlo hc0 hc hz he
    have n0 : j < ys.length := by omega
    have n1 : (j : Int) < (ys.length : Int) := by omega
    have n2 : i + j < o.length := by omega
    have n3 : ((i + j : Nat) : Int) < (o.length : Int) := by omega
    have n4 : ys.length - (j + 1) = d := by omega
    have n5 : j + 1 ≤ ys.length := by omega
    have n6 : i + j < i + ys.length := by omega
    have n7 : i + (j + 1) = i + j + 1 := by omega
    have w12 : Aside0 (wrap64 ((i : Int) + j) = ((i + j : Nat) : Int) ∧ wrap64 ((j : Int) + 1) = ((j + 1 : Nat) : Int)) := ⟨by rw [w64 (by omega) (by omega)]; omega, by rw [w64 (by omega) (by omega)]; omega⟩
    have hr := rd_nonneg_lt ho n2
    have hb := rd_nonneg_lt hy n0
    have hm0 : 0 ≤ rd xs i * rd ys j := Int.mul_nonneg ha.1 hb.1
    have hm1 : rd xs i * rd ys j ≤ 4294967295 * 4294967295 := Int.mul_le_mul (by have := ha.2; simp only [B] at this; omega) (by have := hb.2; simp only [B] at this; omega) hb.1 (by decide)
    have hs0 : 0 ≤ rd xs i * rd ys j + rd o ((i + j : Nat) : Int) + c := by have := hr.1; omega
    have hc'0 : 0 ≤ (rd xs i * rd ys j + rd o ((i + j : Nat) : Int) + c) / B := Int.ediv_nonneg hs0 (by decide)
    have hc'1 : (rd xs i * rd ys j + rd o ((i + j : Nat) : Int) + c) / B < B := Int.ediv_lt_of_lt_mul (by decide) (by have := hr.2; simp only [B] at this hc ⊢; omega)
    have hl0 := Int.emod_nonneg (rd xs i * rd ys j + rd o ((i + j : Nat) : Int) + c) (show (B : Int) ≠ 0 by decide)
    have hl1 := Int.emod_lt_of_pos (rd xs i * rd ys j + rd o ((i + j : Nat) : Int) + c) (show (0 : Int) < B by decide)
    have hdm := Int.mul_ediv_add_emod (rd xs i * rd ys j + rd o ((i + j : Nat) : Int) + c) B
    refine ev_succ ?_
    simp only [mul_Long.l1]
    rw [w12.out.1, w12.out.2, Int.toNat_natCast]
    refine ev_pos n1 (ev_pos (Int.natCast_nonneg _) (ev_pos n1 (ev_pos (Int.natCast_nonneg _) (ev_pos n3 (ev_eq (limb_mul ha.1 ha.2 hb.1 hb.2 hr.1 hr.2 hc0 hc) ?_)))))
    refine ih (j + 1) n4 n5 _ _ (Dig.set ho _ hl0 hl1) (by rw [List.length_set, hlo]) hc'0 hc'1 (by rw [List.drop_set_of_lt n6]; exact hz) ⟨?_⟩
    have h := he.out
    have hpw : (B : Int) ^ (i + j) = B ^ i * B ^ j := Int.pow_add ..
    rw [val_set _ _ _ _ n2, val_take_succ _ _ _ n0, n7, Int.pow_succ]
    rw [hpw] at h ⊢
    clear he ih K
    generalize (rd xs i * rd ys j + rd o ((i + j : Nat) : Int) + c) / B = u at *
    generalize (rd xs i * rd ys j + rd o ((i + j : Nat) : Int) + c) % B = w at *
    generalize val B (xs.take i) = p at *
    generalize val B ys = q at *
    generalize val B (ys.take j) = s at *
    generalize val B o = t at *
    generalize (B : Int) ^ i = e at *
    generalize (B : Int) ^ j = f at *
    grind
theorem long_l0 : ∀ (d i : Nat), xs.length - i = d → i ≤ xs.length → ∀ (o : List Int), Dig B o → o.length = xs.length + ys.length → Aside0 (val B o = val B (xs.take i) * val B ys) → Ev (fun k => mul_Long.l0 k ys o xs xs.length (i : Int)) (dg B (val B xs * val B ys)) := by
  intro d
  induction d with
  | zero =>
    intro i hd hi o ho hlo he
    refine ev_succ ?_
    simp only [mul_Long.l0]
    refine ev_neg (by omega) (ev_bind (made_dig o ho (by omega)) (ev_now ?_))
    rw [he.out, List.take_of_length_le (by omega)]
  | succ d ih =>
    intro i hd hi o ho hlo he
    have hix : i < xs.length := by omega
    refine ev_succ ?_
    simp only [mul_Long.l0]
    refine ev_pos (by omega) (ev_pos (by omega) (ev_pos (by omega) ?_))
    refine long_l1 xs ys hx hy hl _ i hix (fun o' h1 h2 h3 => ih (i + 1) (by omega) (by omega) o' h1 h2 h3) _ 0 rfl (by omega) o 0 ho hlo (by omega) (by decide) ?_ ⟨by rw [he.out]; simp [val]⟩
    have h0 := val_nonneg (b := B) (by decide) (dig_drop ho (i + ys.length))
    have e := val_take_drop' B o (i + ys.length) (by omega)
    have h1 := val_nonneg (b := B) (by decide) (ho.take (i + ys.length))
    have hxt := val_nonneg (b := B) (by decide) (hx.take i)
    have hxt1 := val_lt (b := B) (by decide) (hx.take i)
    rw [List.length_take, Nat.min_eq_left (by omega)] at hxt1
    have hlt := mul_lt_pow (b := B) (by decide) hxt hxt1 (val_nonneg (by decide) hy) (val_lt (by decide) hy)
    rw [← he.out] at hlt
    have h2 : B ^ (i + ys.length) * val B (o.drop (i + ys.length)) < B ^ (i + ys.length) * 1 := by
      clear ih he
      generalize (B : Int) ^ (i + ys.length) = p at *
      generalize val B (o.drop (i + ys.length)) = w at *
      generalize p * w = pw at *
      omega
    have := lt_of_pmul (Int.pow_pos (by decide)) h2
    omega
end
theorem long_ev {x y : Int} (hx : 0 ≤ x) (hy : 0 ≤ y) (hl : (dg B x).length + (dg B y).length < 1099511627776) : Ev (fun k => mul_Long.f k (dg B x) (dg B y)) (dg B (x * y)) := by
  have := long_l0 (dg B x) (dg B y) (dg_dig hB x hx) (dg_dig hB y hy) hl _ 0 rfl (by omega) (List.replicate ((dg B x).length + (dg B y).length) 0) (Dig.zeros (by decide) _) (by simp) ⟨by rw [val_zeros]; simp [val]⟩
  rw [val_dg hB x hx, val_dg hB y hy] at this
  unfold mul_Long.f
  have w : Aside0 (wrap64 (((dg B x).length : Int) + ((dg B y).length : Int)) = (((dg B x).length + (dg B y).length : Nat) : Int)) := ⟨by rw [w64 (by omega) (by omega)]; omega⟩
  rw [w.out, Int.toNat_natCast]
  exact ev_pos (by omega) (ev_pos (by omega) this)
theorem cut_val {x : Int} (hx : 0 ≤ x) (h : Nat) : val B ((dg B x).take h) = x % B ^ h ∧ val B ((dg B x).drop h) = x / B ^ h := by
  have hd := dg_dig hB x hx
  have hp : (0 : Int) < B ^ h := Int.pow_pos (by decide)
  by_cases hh : h ≤ (dg B x).length
  · have e := val_take_drop' B (dg B x) h hh
    have h1 := val_lt (b := B) (by decide) (hd.take h)
    rw [List.length_take, Nat.min_eq_left hh] at h1
    rw [val_dg hB x hx] at e
    obtain ⟨e1, e2⟩ := div_uniq (a := x) (q := val B ((dg B x).drop h)) hp (val_nonneg (by decide) (hd.take h)) h1 (by omega)
    exact ⟨e2.symm, e1.symm⟩
  · have hlt : x < B ^ h := by
      have h1 := val_lt (b := B) (by decide) hd
      rw [val_dg hB x hx] at h1
      exact Int.lt_of_lt_of_le h1 (pow_mono (by decide) (by omega))
    rw [List.take_of_length_le (by omega), List.drop_eq_nil_of_le (by omega), val_dg hB x hx, Int.emod_eq_of_lt hx hlt, Int.ediv_eq_zero_of_lt hx hlt]
    exact ⟨rfl, rfl⟩
theorem cut_ev {x : Int} (hx : 0 ≤ x) (h : Nat) (hl : (dg B x).length < 17592186044416) : Ev (fun k => mul_cut.f k (dg B x) (h : Int)) (dg B (x % B ^ h), dg B (x / B ^ h)) := by
  have hd := dg_dig hB x hx
  obtain ⟨e1, e2⟩ := cut_val hx h
  have m1 := made_dig _ (hd.take h) (by rw [List.length_take]; omega)
  have m2 := made_dig _ (dig_drop hd h) (by rw [List.length_drop]; omega)
  rw [e1] at m1
  rw [e2] at m2
  have t1 : (dg B x).take (min h (dg B x).length) = (dg B x).take h := by rw [List.take_eq_take_iff]; omega
  have t2 : (dg B x).drop (min h (dg B x).length) = (dg B x).drop h := by
    by_cases hh : h ≤ (dg B x).length
    · rw [Nat.min_eq_left hh]
    · rw [Nat.min_eq_right (by omega), List.drop_eq_nil_of_le (by omega), List.drop_eq_nil_of_le (by omega)]
  unfold mul_cut.f
  rw [mn_nat, Int.toNat_natCast, t1, t2]
  exact ev_pos (by omega) (ev_pos (by omega) (ev_bind m1 (ev_bind m2 (ev_now rfl))))
theorem up_ev {x : Int} (hx : 0 ≤ x) (n : Nat) (hl : n + (dg B x).length < 17592186044416) : Ev (fun k => mul_up.f k (dg B x) (n : Int)) (dg B (x * B ^ n)) := by
  have hd := dg_dig hB x hx
  have w : Aside0 (wrap64 ((n : Int) + ((dg B x).length : Int)) = ((n + (dg B x).length : Nat) : Int)) := ⟨by rw [w64 (by omega) (by omega)]; omega⟩
  have e : (List.replicate (n + (dg B x).length) (0 : Int)).take n ++ ((dg B x).take (n + (dg B x).length - n) ++ (List.replicate (n + (dg B x).length) (0 : Int)).drop (n + min (dg B x).length (n + (dg B x).length - n))) = List.replicate n 0 ++ dg B x := by
    rw [List.take_replicate, List.take_of_length_le (by omega), List.drop_replicate, show min n (n + (dg B x).length) = n by omega, show n + (dg B x).length - (n + min (dg B x).length (n + (dg B x).length - n)) = 0 by omega]
    simp
  have m := made_dig (List.replicate n 0 ++ dg B x) ((Dig.zeros (by decide) n).append hd) (by rw [List.length_append, List.length_replicate]; omega)
  rw [val_append, val_zeros, val_dg hB x hx, List.length_replicate, Int.zero_add, Int.mul_comm] at m
  unfold mul_up.f
  rw [w.out, Int.toNat_natCast]
  refine ev_pos (by omega) (ev_pos (by omega) ?_)
  simp only [Option.bind_some, Int.toNat_natCast, List.length_replicate]
  rw [e]
  exact ev_pos (by omega) (ev_pos (by omega) (ev_bind m (ev_now rfl)))
theorem dlen_add {x y : Int} (hx : 0 ≤ x) (hy : 0 ≤ y) {n : Nat} (h1 : (dg B x).length ≤ n) (h2 : (dg B y).length ≤ n) : (dg B (x + y)).length ≤ n + 1 := by
  refine dg_len_le hB _ _ (by omega) ?_
  have a1 := val_lt (b := B) (by decide) (dg_dig hB x hx)
  have a2 := val_lt (b := B) (by decide) (dg_dig hB y hy)
  rw [val_dg hB x hx] at a1
  rw [val_dg hB y hy] at a2
  have b1 : (B : Int) ^ (dg B x).length ≤ B ^ n := pow_mono (by decide) h1
  have b2 : (B : Int) ^ (dg B y).length ≤ B ^ n := pow_mono (by decide) h2
  rw [Int.pow_succ]
  have hp : (0 : Int) < B ^ n := Int.pow_pos (by decide)
  have h3 : (B : Int) ^ n * 2 ≤ B ^ n * B := Int.mul_le_mul_of_nonneg_left (by decide) (Int.le_of_lt hp)
  generalize (B : Int) ^ n = p at *
  generalize (B : Int) ^ (dg B x).length = p1 at *
  generalize (B : Int) ^ (dg B y).length = p2 at *
  generalize p * B = p3 at *
  omega
theorem dlen_mul {x y : Int} (hx : 0 ≤ x) (hy : 0 ≤ y) : (dg B (x * y)).length ≤ (dg B x).length + (dg B y).length := by
  refine dg_len_le hB _ _ (Int.mul_nonneg hx hy) ?_
  have a1 := val_lt (b := B) (by decide) (dg_dig hB x hx)
  have a2 := val_lt (b := B) (by decide) (dg_dig hB y hy)
  rw [val_dg hB x hx] at a1
  rw [val_dg hB y hy] at a2
  exact mul_lt_pow (by decide) hx a1 hy a2
theorem sum3_ev {x y z : Int} (hx : 0 ≤ x) (hy : 0 ≤ y) (hz : 0 ≤ z) {n : Nat} (hn : n < 2000000000) (h1 : (dg B x).length ≤ n) (h2 : (dg B y).length ≤ n) (h3 : (dg B z).length ≤ n) : Ev (fun k => nat_Sum.f k [dg B x, dg B y, dg B z]) (dg B (x + y + z)) := by
  have h4 := dlen_add hx hy h1 h2
  have s1 := add_ev (x := 0) (y := x) (by omega) hx (by rw [dg_zero]; simp) (by omega)
  have s2 := add_ev (x := x) (y := y) hx hy (by omega) (by omega)
  have s3 := add_ev (x := x + y) (y := z) (by omega) hz (by omega) (by omega)
  rw [dg_zero, Int.zero_add] at s1
  have ww : wrap64 (0 + 1) = 1 ∧ wrap64 (1 + 1) = 2 ∧ wrap64 (2 + 1) = 3 := ⟨(w64 (by decide) (by decide)).trans (by decide), (w64 (by decide) (by decide)).trans (by decide), (w64 (by decide) (by decide)).trans (by decide)⟩
  unfold nat_Sum.f
  refine ev_succ ?_
  simp only [nat_Sum.l0, List.length_cons, List.length_nil, ww.1, ww.2.1, ww.2.2]
  refine ev_pos (by decide) (ev_pos (by decide) (ev_pos (by decide) (ev_bind s1 (ev_succ ?_))))
  simp only [nat_Sum.l0, List.length_cons, List.length_nil, ww.1, ww.2.1, ww.2.2]
  refine ev_pos (by decide) (ev_pos (by decide) (ev_pos (by decide) (ev_bind s2 (ev_succ ?_))))
  simp only [nat_Sum.l0, List.length_cons, List.length_nil, ww.1, ww.2.1, ww.2.2]
  refine ev_pos (by decide) (ev_pos (by decide) (ev_pos (by decide) (ev_bind s3 (ev_succ ?_))))
  simp only [nat_Sum.l0, List.length_cons, List.length_nil, ww.1, ww.2.1, ww.2.2]
  exact ev_neg (by decide) (ev_now rfl)
theorem dlen_lt {x : Int} {k : Nat} (h0 : 0 ≤ x) (h : x < B ^ k) : (dg B x).length ≤ k := dg_len_le hB k x h0 h
theorem short_ev : ∀ m : Nat, m < 500000000 → ∀ x y : Int, 0 ≤ x → 0 ≤ y → max (dg B x).length (dg B y).length = m → Ev (fun k => mul_Short.f k (dg B x) (dg B y)) (dg B (x * y)) := by
  intro m
  induction m using Nat.strongRecOn with
  | ind m ih =>
    intro hm x y hx hy hmx
    refine ev_succ ?_
    simp only [mul_Short.f]
    refine ev_ite (fun h => ?_) (fun h => ?_)
    · exact ev_bind (long_ev hx hy (by omega)) (ev_now rfl)
    · rw [mn_nat] at h
      obtain ⟨s, hs⟩ : ∃ s : Nat, s = (m + 1) / 2 := ⟨_, rfl⟩
      have w : Aside0 (wrap64 (Int.tdiv (wrap64 (mx ((dg B x).length : Int) ((dg B y).length : Int) + 1)) 2) = (s : Int) ∧ wrap64 (2 * (s : Int)) = ((2 * s : Nat) : Int)) := by
        rw [mx_nat, hmx, w64 (x := (m : Int) + 1) (by omega) (by omega), ediv_tdiv (by omega)]
        exact ⟨by rw [w64 (by omega) (by omega)]; omega, by rw [w64 (by omega) (by omega)]; omega⟩
      simp only [w.out.1, w.out.2]
      clear w
      have hp : (0 : Int) < B ^ s := Int.pow_pos (by decide)
      have ax := Int.mul_ediv_add_emod x (B ^ s)
      have ay := Int.mul_ediv_add_emod y (B ^ s)
      have x00 : 0 ≤ x % B ^ s := Int.emod_nonneg _ (by omega)
      have y00 : 0 ≤ y % B ^ s := Int.emod_nonneg _ (by omega)
      have x01 : x % B ^ s < B ^ s := Int.emod_lt_of_pos _ hp
      have y01 : y % B ^ s < B ^ s := Int.emod_lt_of_pos _ hp
      have x10 : 0 ≤ x / B ^ s := Int.ediv_nonneg hx (by omega)
      have y10 : 0 ≤ y / B ^ s := Int.ediv_nonneg hy (by omega)
      have hi : ∀ z : Int, 0 ≤ z → (dg B z).length ≤ m → (dg B (z / B ^ s)).length ≤ s := by
        intro z hz hzl
        refine dlen_lt (Int.ediv_nonneg hz (by omega)) (Int.ediv_lt_of_lt_mul hp ?_)
        rw [← Int.pow_add]
        have h1 := val_lt (b := B) (by decide) (dg_dig hB z hz)
        rw [val_dg hB z hz] at h1
        exact Int.lt_of_lt_of_le h1 (pow_mono (by decide) (by omega))
      have lx0 := dlen_lt x00 x01
      have ly0 := dlen_lt y00 y01
      have lx1 := hi x hx (by omega)
      have ly1 := hi y hy (by omega)
      clear hi
      have c1 := cut_ev hx s (by omega)
      have c2 := cut_ev hy s (by omega)
      generalize x % B ^ s = x0 at *
      generalize x / B ^ s = x1 at *
      generalize y % B ^ s = y0 at *
      generalize y / B ^ s = y1 at *
      have lsx := dlen_add x00 x10 lx0 lx1
      have lsy := dlen_add y00 y10 ly0 ly1
      have hs1 : s + 1 < m := by omega
      have p0 := ih (max (dg B x0).length (dg B y0).length) (by omega) (by omega) x0 y0 x00 y00 rfl
      have p2 := ih (max (dg B x1).length (dg B y1).length) (by omega) (by omega) x1 y1 x10 y10 rfl
      have pm := ih (max (dg B (x0 + x1)).length (dg B (y0 + y1)).length) (by omega) (by omega) (x0 + x1) (y0 + y1) (by omega) (by omega) rfl
      clear ih
      have a1 := add_ev x00 x10 (by omega) (by omega)
      have a2 := add_ev y00 y10 (by omega) (by omega)
      have m00 := Int.mul_nonneg x00 y00
      have m11 := Int.mul_nonneg x10 y10
      have m01 := Int.mul_nonneg x00 y10
      have m10 := Int.mul_nonneg x10 y00
      have epm : (x0 + x1) * (y0 + y1) = x0 * y0 + x0 * y1 + x1 * y0 + x1 * y1 := by grind
      have lpm := dlen_mul (x := x0 + x1) (y := y0 + y1) (by omega) (by omega)
      have lp0 := dlen_mul x00 y00
      have lp2 := dlen_mul x10 y10
      have sb1 := sub_ev (x := (x0 + x1) * (y0 + y1)) (y := x0 * y0) m00 (by omega) (by omega)
      have lm1 := dg_len_mono hB (x := (x0 + x1) * (y0 + y1) - x0 * y0) (y := (x0 + x1) * (y0 + y1)) (by omega) (by omega)
      have sb2 := sub_ev (x := (x0 + x1) * (y0 + y1) - x0 * y0) (y := x1 * y1) m11 (by omega) (by omega)
      have emid : (x0 + x1) * (y0 + y1) - x0 * y0 - x1 * y1 = x0 * y1 + x1 * y0 := by omega
      rw [emid] at sb2
      have lmid := dg_len_mono hB (x := x0 * y1 + x1 * y0) (y := (x0 + x1) * (y0 + y1)) (by omega) (by omega)
      have u1 := up_ev (x := x0 * y1 + x1 * y0) (by omega) s (by omega)
      have u2 := up_ev (x := x1 * y1) m11 (2 * s) (by omega)
      have lu : ∀ (z : Int) (n L : Nat), 0 ≤ z → (dg B z).length ≤ L → (dg B (z * B ^ n)).length ≤ L + n := by
        intro z n L hz hL
        refine dlen_lt (Int.mul_nonneg hz (Int.pow_nonneg (by decide))) ?_
        rw [Int.pow_add]
        have h1 := val_lt (b := B) (by decide) (dg_dig hB z hz)
        rw [val_dg hB z hz] at h1
        exact Int.mul_lt_mul_of_pos_right (Int.lt_of_lt_of_le h1 (pow_mono (by decide) hL)) (Int.pow_pos (by decide))
      have lu1 := lu (x0 * y1 + x1 * y0) s (2 * (s + 1)) (by omega) (by omega)
      have lu2 := lu (x1 * y1) (2 * s) (2 * s) m11 (by omega)
      clear lu
      have t1 : 0 ≤ (x0 * y1 + x1 * y0) * B ^ s := Int.mul_nonneg (by omega) (Int.le_of_lt hp)
      have t2 : 0 ≤ x1 * y1 * B ^ (2 * s) := Int.mul_nonneg m11 (Int.pow_nonneg (by decide))
      have sm := sum3_ev (n := 4 * s + 2) m00 t1 t2 (by omega) (by omega) (by omega) (by omega)
      have eall : x0 * y0 + (x0 * y1 + x1 * y0) * B ^ s + x1 * y1 * B ^ (2 * s) = x * y := by
        rw [← ax, ← ay, show 2 * s = s + s by omega, Int.pow_add]
        generalize (B : Int) ^ s = p
        grind
      rw [eall] at sm
      exact ev_bind c1 (ev_bind c2 (ev_bind p0 (ev_bind p2 (ev_bind a1 (ev_bind a2 (ev_bind pm (ev_bind sb1 (ev_bind sb2 (ev_bind u1 (ev_bind u2 (ev_bind sm (ev_now rfl))))))))))))
theorem mul_ev {x y : Int} (hx : 0 ≤ x) (hy : 0 ≤ y) (hl : (dg B x).length < 500000000) (hl2 : (dg B y).length < 500000000) : Ev (fun k => mul_Mul.f k (dg B x) (dg B y)) (dg B (x * y)) := by
  unfold mul_Mul.f
  exact ev_bind (short_ev _ (by omega) x y hx hy rfl) (ev_now rfl)
end Go.K

end
section
set_option linter.unusedVariables false
set_option linter.unusedSimpArgs false
set_option maxRecDepth 8000
namespace Go.K
open Go Go.RowKit
theorem gcd_step {m n : Nat} (h : n ≠ 0) : Nat.gcd n (m % n) = Nat.gcd m n := by
  rw [Nat.gcd_comm n (m % n), ← Nat.gcd_rec, Nat.gcd_comm]
theorem emod_nat (m n : Nat) : (m : Int) % (n : Int) = ((m % n : Nat) : Int) := by rw [Int.natCast_emod]
theorem euclid_l0 : ∀ n m : Nat, (dg B (m : Int)).length < 1000000000 → (dg B (n : Int)).length < 1000000000 → Ev (fun k => gcd_Euclid.l0 k (dg B (m : Int)) (dg B (n : Int))) (dg B ((Nat.gcd m n : Nat) : Int)) := by
  intro n
  induction n using Nat.strongRecOn with
  | ind n ih =>
    intro m h1 h2
    refine ev_succ ?_
    simp only [gcd_Euclid.l0]
    by_cases hn : n = 0
    · subst hn
      rw [Nat.gcd_zero_right]
      refine ev_neg ?_ (ev_now rfl)
      show ¬ ((dg B ((0 : Nat) : Int)).length : Int) > 0
      rw [show ((0 : Nat) : Int) = 0 from rfl, dg_zero]
      simp
    · have hp : 0 < (n : Int) := by omega
      have m1 := mod_ev (x := (m : Int)) (y := (n : Int)) (by omega) (by omega) h1 h2
      unfold modR at m1
      rw [if_neg (by omega), emod_nat] at m1
      have hlt : m % n < n := Nat.mod_lt _ (by omega)
      have hle := dg_len_mono hB (x := ((m % n : Nat) : Int)) (y := (n : Int)) (by omega) (by omega)
      have key := ih (m % n) hlt n h2 (by omega)
      rw [gcd_step hn] at key
      exact ev_pos ((dg_len_pos (by omega)).2 (by omega)) (ev_bind m1 key)
theorem euclid_ev {m n : Nat} (h1 : (dg B (m : Int)).length < 1000000000) (h2 : (dg B (n : Int)).length < 1000000000) : Ev (fun k => gcd_Euclid.f k (dg B (m : Int)) (dg B (n : Int))) (dg B ((Nat.gcd m n : Nat) : Int)) := by
  unfold gcd_Euclid.f
  exact ev_bind (make_ev (by omega) (by omega)) (ev_bind (make_ev (by omega) (by omega)) (euclid_l0 n m h1 h2))
theorem rgcd_l0 : ∀ n m : Nat, (dg D (m : Int)).length < 549755813887 → (dg D (n : Int)).length < 549755813887 → Ev (fun k => triviumref02_Gcd.l0 k (dg D (m : Int)) (dg D (n : Int))) (dg D ((Nat.gcd m n : Nat) : Int)) := by
  intro n
  induction n using Nat.strongRecOn with
  | ind n ih =>
    intro m h1 h2
    refine ev_succ ?_
    simp only [triviumref02_Gcd.l0]
    by_cases hn : n = 0
    · subst hn
      rw [Nat.gcd_zero_right]
      refine ev_neg ?_ (ev_now rfl)
      show ¬ ((dg D ((0 : Nat) : Int)).length : Int) > 0
      rw [show ((0 : Nat) : Int) = 0 from rfl, dg_zero]
      simp
    · have hp : 0 < (n : Int) := by omega
      have m1 := rdiv_ev (x := (m : Int)) (y := (n : Int)) (by omega) hp h1 h2
      rw [emod_nat] at m1
      have hlt : m % n < n := Nat.mod_lt _ (by omega)
      have hle := dg_len_mono hD (x := ((m % n : Nat) : Int)) (y := (n : Int)) (by omega) (by omega)
      have key := ih (m % n) hlt n h2 (by omega)
      rw [gcd_step hn] at key
      have hne : (dg D (n : Int)).length ≠ 0 := fun h => by
        have := (dg_nil_iff hD (by omega)).1 (List.length_eq_zero_iff.1 h); omega
      exact ev_pos (by omega) (ev_bind m1 key)
end Go.K

end
section
set_option linter.unusedVariables false
set_option linter.unusedSimpArgs false
set_option maxRecDepth 8000
namespace Go.K
open Go Go.RowKit
def ab (z : Int) : Int := ((z.natAbs : Nat) : Int)
theorem ab_nonneg (z : Int) : 0 ≤ ab z := Int.natCast_nonneg _
theorem ab_of_nonneg {z : Int} (h : 0 ≤ z) : ab z = z := by unfold ab; omega
theorem ab_of_neg {z : Int} (h : z < 0) : ab z = -z := by unfold ab; omega
def wz (z : Int) : Bool × List Int := (decide (z < 0), dg B (ab z))
def sg (b : Bool) (n : Int) : Int := if b = true then -n else n
theorem sg_wz (z : Int) : sg (decide (z < 0)) (ab z) = z := by
  unfold sg ab
  by_cases h : z < 0
  · rw [decide_eq_true h, if_pos rfl]; omega
  · rw [decide_eq_false h, if_neg (by simp)]; omega
theorem made_wz (b : Bool) {n : Int} (hn : 0 ≤ n) (hl : (dg B n).length < 17592186044416) : Ev (fun k => whole_Made.f k b (dg B n)) (wz (sg b n)) := by
  unfold whole_Made.f
  refine ev_bind (make_ev hn hl) ?_
  cases b with
  | true =>
    refine ev_pos rfl (ev_now ?_)
    have hp := dg_len_pos hn
    show (decide (((dg B n).length : Int) > 0), dg B n) = wz (-n)
    unfold wz
    have e : ab (-n) = n := by unfold ab; omega
    rw [e]
    congr 1
    rw [decide_eq_decide, hp]
    omega
  | false =>
    refine ev_neg (by simp) (ev_now ?_)
    show (false, dg B n) = wz n
    unfold wz
    rw [ab_of_nonneg hn, decide_eq_false (by omega)]
theorem wneg_ev {z : Int} (hl : (dg B (ab z)).length < 17592186044416) : Ev (fun k => whole_Neg.f k (wz z).1 (wz z).2) (wz (-z)) := by
  unfold whole_Neg.f
  have m := made_wz (!(wz z).1) (ab_nonneg z) hl
  have e : sg (!(wz z).1) (ab z) = -z := by
    unfold wz sg ab
    by_cases h : z < 0
    · rw [decide_eq_true h]; simp; omega
    · rw [decide_eq_false h]; simp; omega
  rw [e] at m
  exact ev_bind m (ev_now rfl)
theorem wadd_ev {x y : Int} (hl : (dg B (ab x)).length < 1000000000) (hl2 : (dg B (ab y)).length < 1000000000) : Ev (fun k => whole_Add.f k (wz x).1 (wz x).2 (wz y).1 (wz y).2) (wz (x + y)) := by
  have hx := ab_nonneg x
  have hy := ab_nonneg y
  unfold whole_Add.f
  by_cases hs : decide (x < 0) = decide (y < 0)
  · have hs' : x < 0 ↔ y < 0 := by simpa using hs
    have l := dlen_add (n := max (dg B (ab x)).length (dg B (ab y)).length) hx hy (by omega) (by omega)
    have m := made_wz (decide (x < 0)) (n := ab x + ab y) (by omega) (by omega)
    have e : sg (decide (x < 0)) (ab x + ab y) = x + y := by
      unfold sg ab
      by_cases h : x < 0
      · rw [decide_eq_true h, if_pos rfl]; omega
      · rw [decide_eq_false h, if_neg (by simp)]; omega
    rw [e] at m
    exact ev_pos (by unfold wz; rw [hs]; simp) (ev_bind (add_ev hx hy (by omega) (by omega)) (ev_bind m (ev_now rfl)))
  · have hs' : ¬ (x < 0 ↔ y < 0) := by simpa using hs
    refine ev_neg (by unfold wz; simpa using hs) ?_
    by_cases hle : ab y ≤ ab x
    · have l := dg_len_mono hB (x := ab x - ab y) (y := ab x) (by omega) (by omega)
      have m := made_wz (decide (x < 0)) (n := ab x - ab y) (by omega) (by omega)
      have e : sg (decide (x < 0)) (ab x - ab y) = x + y := by
        unfold sg
        unfold ab at hle ⊢
        by_cases h : x < 0
        · rw [decide_eq_true h, if_pos rfl]; omega
        · rw [decide_eq_false h, if_neg (by simp)]; omega
      rw [e] at m
      exact ev_bind (sub_ev hy hle (by omega)) (ev_pos rfl (ev_bind m (ev_now rfl)))
    · have l := dg_len_mono hB (x := ab y - ab x) (y := ab y) (by omega) (by omega)
      have m := made_wz (decide (y < 0)) (n := ab y - ab x) (by omega) (by omega)
      have e : sg (decide (y < 0)) (ab y - ab x) = x + y := by
        unfold sg
        unfold ab at hle ⊢
        by_cases h : y < 0
        · rw [decide_eq_true h, if_pos rfl]; omega
        · rw [decide_eq_false h, if_neg (by simp)]; omega
      rw [e] at m
      exact ev_bind (sub_less hx (by omega) (by omega)) (ev_neg (by decide) (ev_bind (sub_ev hx (by omega) (by omega)) (ev_bind m (ev_now rfl))))
theorem ab_neg (z : Int) : ab (-z) = ab z := by unfold ab; omega
theorem ab_mul (x y : Int) : ab (x * y) = ab x * ab y := by unfold ab; rw [Int.natAbs_mul]; simp
theorem wmul_ev {x y : Int} (hl : (dg B (ab x)).length < 500000000) (hl2 : (dg B (ab y)).length < 500000000) : Ev (fun k => whole_Mul.f k (wz x).1 (wz x).2 (wz y).1 (wz y).2) (wz (x * y)) := by
  have hx := ab_nonneg x
  have hy := ab_nonneg y
  have l := dlen_mul hx hy
  have m := made_wz ((wz x).1 != (wz y).1) (n := ab x * ab y) (Int.mul_nonneg hx hy) (by omega)
  have e : sg ((wz x).1 != (wz y).1) (ab x * ab y) = x * y := by
    have ex : x = sg (decide (x < 0)) (ab x) := (sg_wz x).symm
    have ey : y = sg (decide (y < 0)) (ab y) := (sg_wz y).symm
    show sg (decide (x < 0) != decide (y < 0)) (ab x * ab y) = x * y
    conv => rhs; rw [ex, ey]
    unfold sg
    by_cases h1 : x < 0 <;> by_cases h2 : y < 0 <;> simp [h1, h2, Int.neg_mul, Int.mul_neg]
  rw [e] at m
  unfold whole_Mul.f
  exact ev_bind (mul_ev hx hy hl hl2) (ev_bind m (ev_now rfl))
theorem wof_ev {a : Int} (h0 : -9223372036854775808 ≤ a) (h1 : a ≤ 9223372036854775807) : Ev (fun k => whole_Of.f k a) (wz a) := by
  unfold whole_Of.f
  have l64 : ∀ n : Int, 0 ≤ n → n ≤ 18446744073709551615 → (dg B n).length ≤ 2 := fun n hn hn1 => dg_len_le hB 2 n hn (by simp only [B]; omega)
  by_cases h : a < 0
  · have w : Aside0 (IntKind.u64.wrap (wrap64 (-(wrap64 (a + 1)))) = -(a + 1)) := ⟨by rw [w64 (x := a + 1) (by omega) (by omega), w64 (by omega) (by omega), wu64 (by omega) (by omega)]⟩
    have l1 := l64 (-(a + 1)) (by omega) (by omega)
    have l2 := l64 1 (by omega) (by omega)
    have l3 := dlen_add (x := -(a + 1)) (y := 1) (n := 2) (by omega) (by omega) l1 l2
    have ad := add_ev (x := -(a + 1)) (y := 1) (by omega) (by omega) (by omega) (by omega)
    have m := made_wz true (n := -(a + 1) + 1) (by omega) (by omega)
    have e : sg true (-(a + 1) + 1) = a := by unfold sg; simp; omega
    rw [e] at m
    rw [w.out]
    clear w
    exact ev_pos h (ev_bind (nat_of_ev (by omega) (by omega)) (ev_bind (nat_of_ev (x := 1) (by omega) (by omega)) (ev_bind ad (ev_bind m (ev_now rfl)))))
  · have l1 := l64 a (by omega) (by omega)
    have m := made_wz false (n := a) (by omega) (by omega)
    have e : sg false a = a := by unfold sg; simp
    rw [e] at m
    have w : Aside0 (IntKind.u64.wrap a = a) := ⟨wu64 (by omega) (by omega)⟩
    refine ev_neg h ?_
    rw [w.out]
    exact (ev_bind (nat_of_ev (by omega) (by omega)) (ev_bind m (ev_now rfl)))
theorem wsign_eq (z : Int) : whole_Sign.f (wz z).1 (wz z).2 = some (if z = 0 then 0 else if z < 0 then -1 else 1) := by
  have hp := dg_len_pos (ab_nonneg z)
  have hz : ab z ≠ 0 ↔ z ≠ 0 := by unfold ab; omega
  rw [hz] at hp
  unfold whole_Sign.f wz
  by_cases h : z = 0
  · rw [if_pos h, if_pos]
    have := mt hp.1 (by omega : ¬ z ≠ 0)
    show ((dg B (ab z)).length : Int) = 0
    omega
  · have := hp.2 h
    rw [if_neg h, if_neg (by show ¬ ((dg B (ab z)).length : Int) = 0; omega)]
    by_cases h2 : z < 0
    · rw [if_pos h2, if_pos (by simpa using h2)]
    · rw [if_neg h2, if_neg (by simpa using h2)]
end Go.K

end
section
set_option linter.unusedVariables false
set_option linter.unusedSimpArgs false
set_option maxRecDepth 8000
namespace Go.K
open Go Go.RowKit
def gg (p d : Int) : Int := ((Nat.gcd p.natAbs d.natAbs : Nat) : Int)
theorem gg_pos {p d : Int} (hd : d ≠ 0) : 0 < gg p d := by
  have : 0 < Nat.gcd p.natAbs d.natAbs := Nat.gcd_pos_of_pos_right _ (by omega)
  unfold gg; omega
theorem gg_dvd_left (p d : Int) : gg p d ∣ p := by
  have h : ((Nat.gcd p.natAbs d.natAbs : Nat) : Int) ∣ ((p.natAbs : Nat) : Int) := Int.natCast_dvd_natCast.2 (Nat.gcd_dvd_left _ _)
  exact Int.dvd_natAbs.1 h
theorem gg_dvd_right (p d : Int) : gg p d ∣ d := by
  have h : ((Nat.gcd p.natAbs d.natAbs : Nat) : Int) ∣ ((d.natAbs : Nat) : Int) := Int.natCast_dvd_natCast.2 (Nat.gcd_dvd_right _ _)
  exact Int.dvd_natAbs.1 h
def nq (p d : Int) : Bool × List Int × List Int := ((wz (p / gg p d)).1, (wz (p / gg p d)).2, dg B (d / gg p d))
theorem ab_div {p g : Int} (hg : 0 < g) (h : g ∣ p) : ab (p / g) = ab p / g := by
  obtain ⟨c, rfl⟩ := h
  rw [Int.mul_ediv_cancel_left _ (by omega)]
  have e : ab (g * c) = g * ab c := by rw [ab_mul, ab_of_nonneg (Int.le_of_lt hg)]
  rw [e, Int.mul_ediv_cancel_left _ (by omega)]
theorem ab_emod {p g : Int} (hg : 0 < g) (h : g ∣ p) : ab p % g = 0 := by
  obtain ⟨c, rfl⟩ := h
  have e : ab (g * c) = g * ab c := by rw [ab_mul, ab_of_nonneg (Int.le_of_lt hg)]
  rw [e, Int.mul_emod_right]
theorem sg_div {p g : Int} (hg : 0 < g) (h : g ∣ p) : sg (decide (p < 0)) (ab p / g) = p / g := by
  rw [← ab_div hg h]
  have hs : decide (p < 0) = decide (p / g < 0) := by
    obtain ⟨c, rfl⟩ := h
    rw [Int.mul_ediv_cancel_left _ (by omega), decide_eq_decide]
    constructor
    · intro h1
      apply Int.lt_of_not_ge
      intro h2
      have := Int.mul_nonneg (Int.le_of_lt hg) h2
      omega
    · intro h1
      exact Int.mul_neg_of_pos_of_neg hg h1
  rw [hs, sg_wz]
theorem low_ev {p d : Int} (hd : 0 < d) (h1 : (dg B (ab p)).length < 1000000000) (h2 : (dg B d).length < 1000000000) : Ev (fun k => rat_low.f k (wz p).1 (wz p).2 (dg B d)) (nq p d) := by
  have hg := gg_pos (p := p) (d := d) (by omega)
  have e := euclid_ev (m := p.natAbs) (n := d.natAbs) (by exact h1) (by rw [show ((d.natAbs : Nat) : Int) = d by omega]; exact h2)
  rw [show ((d.natAbs : Nat) : Int) = d by omega] at e
  have hap := ab_nonneg p
  have lg : (dg B (gg p d)).length ≤ (dg B d).length := dg_len_mono hB (Int.le_of_lt hg) (Int.le_of_dvd hd (gg_dvd_right p d))
  have x1 := exact_ev (x := ab p) (y := gg p d) hap (Int.le_of_lt hg) h1 (by omega)
  have x2 := exact_ev (x := d) (y := gg p d) (Int.le_of_lt hd) (Int.le_of_lt hg) h2 (by omega)
  unfold exactR at x1 x2
  rw [if_neg (by omega), if_pos (ab_emod hg (gg_dvd_left p d))] at x1
  rw [if_neg (by omega), if_pos (Int.emod_eq_zero_of_dvd (gg_dvd_right p d))] at x2
  have q0 : 0 ≤ ab p / gg p d := Int.ediv_nonneg hap (Int.le_of_lt hg)
  have lq := dg_len_mono hB q0 (Int.ediv_le_self (gg p d) hap)
  have m := made_wz (decide (p < 0)) q0 (by omega)
  rw [sg_div hg (gg_dvd_left p d)] at m
  unfold rat_low.f
  exact ev_bind e (ev_bind x1 (ev_bind x2 (ev_bind m (ev_now rfl))))
def sn (p d : Int) : Int := if d < 0 then -p else p
theorem make_ev' {p d : Int} (hd : d ≠ 0) (h1 : (dg B (ab p)).length < 1000000000) (h2 : (dg B (ab d)).length < 1000000000) : Ev (fun k => rat_Make.f k (wz p).1 (wz p).2 (wz d).1 (wz d).2) ((nq (sn p d) (ab d)).1, (nq (sn p d) (ab d)).2.1, (nq (sn p d) (ab d)).2.2, 0) := by
  have hsn : sg ((wz p).1 != (wz d).1) (ab p) = sn p d := by
    show sg (decide (p < 0) != decide (d < 0)) (ab p) = sn p d
    unfold sg sn ab
    by_cases a1 : p < 0 <;> by_cases a2 : d < 0 <;> simp [a1, a2] <;> omega
  have m := made_wz ((wz p).1 != (wz d).1) (ab_nonneg p) (by omega)
  rw [hsn] at m
  have hab : ab (sn p d) = ab p := by unfold sn ab; split <;> omega
  have l := low_ev (p := sn p d) (d := ab d) (by unfold ab; omega) (by rw [hab]; exact h1) h2
  unfold rat_Make.f
  refine ev_eq (wsign_eq d) (ev_neg ?_ (ev_bind m (ev_bind l (ev_now rfl))))
  rw [if_neg hd]
  split <;> decide
theorem nq_eq {p d p' d' : Int} (hd : 0 < d) (hd' : 0 < d') (h : p * d' = p' * d) : nq p d = nq p' d' := by
  have g0 := gg_pos (p := p) (d := d) (by omega)
  have g0' := gg_pos (p := p') (d := d') (by omega)
  obtain ⟨a, ha⟩ := gg_dvd_left p d
  obtain ⟨b, hb⟩ := gg_dvd_right p d
  obtain ⟨a', ha'⟩ := gg_dvd_left p' d'
  obtain ⟨b', hb'⟩ := gg_dvd_right p' d'
  have hc : Nat.gcd a.natAbs b.natAbs = 1 := by
    have e : Nat.gcd p.natAbs d.natAbs = (gg p d).natAbs * Nat.gcd a.natAbs b.natAbs := by
      have e0 := Nat.gcd_mul_left (gg p d).natAbs a.natAbs b.natAbs
      rw [← Int.natAbs_mul, ← Int.natAbs_mul, ← ha, ← hb] at e0
      exact e0
    have e2 : (gg p d).natAbs = Nat.gcd p.natAbs d.natAbs := by unfold gg; omega
    rw [e2] at e
    have hp : 0 < Nat.gcd p.natAbs d.natAbs := Nat.gcd_pos_of_pos_right _ (by omega)
    exact Nat.eq_of_mul_eq_mul_left hp (by omega)
  have hc' : Nat.gcd a'.natAbs b'.natAbs = 1 := by
    have e : Nat.gcd p'.natAbs d'.natAbs = (gg p' d').natAbs * Nat.gcd a'.natAbs b'.natAbs := by
      have e0 := Nat.gcd_mul_left (gg p' d').natAbs a'.natAbs b'.natAbs
      rw [← Int.natAbs_mul, ← Int.natAbs_mul, ← ha', ← hb'] at e0
      exact e0
    have e2 : (gg p' d').natAbs = Nat.gcd p'.natAbs d'.natAbs := by unfold gg; omega
    rw [e2] at e
    have hp : 0 < Nat.gcd p'.natAbs d'.natAbs := Nat.gcd_pos_of_pos_right _ (by omega)
    exact Nat.eq_of_mul_eq_mul_left hp (by omega)
  have e1 : p / gg p d = a := by rw [show p / gg p d = gg p d * a / gg p d by rw [← ha]]; exact Int.mul_ediv_cancel_left _ (by omega)
  have e2 : d / gg p d = b := by rw [show d / gg p d = gg p d * b / gg p d by rw [← hb]]; exact Int.mul_ediv_cancel_left _ (by omega)
  have e1' : p' / gg p' d' = a' := by rw [show p' / gg p' d' = gg p' d' * a' / gg p' d' by rw [← ha']]; exact Int.mul_ediv_cancel_left _ (by omega)
  have e2' : d' / gg p' d' = b' := by rw [show d' / gg p' d' = gg p' d' * b' / gg p' d' by rw [← hb']]; exact Int.mul_ediv_cancel_left _ (by omega)
  have hbp : 0 < b := by
    apply Int.lt_of_not_ge; intro hle
    have := Int.mul_nonneg (Int.le_of_lt g0) (show 0 ≤ -b by omega)
    rw [Int.mul_neg] at this
    omega
  have hbp' : 0 < b' := by
    apply Int.lt_of_not_ge; intro hle
    have := Int.mul_nonneg (Int.le_of_lt g0') (show 0 ≤ -b' by omega)
    rw [Int.mul_neg] at this
    omega
  have hx : a * b' = a' * b := by
    have h3 : (gg p d * gg p' d') * (a * b') = (gg p d * gg p' d') * (a' * b) := by
      have h4 : p * d' = (gg p d * a) * (gg p' d' * b') := by rw [← ha, ← hb']
      have h5 : p' * d = (gg p' d' * a') * (gg p d * b) := by rw [← ha', ← hb]
      rw [h4, h5] at h
      generalize gg p d = x at *
      generalize gg p' d' = y at *
      grind
    exact Int.eq_of_mul_eq_mul_left (by have := Int.mul_pos g0 g0'; omega) h3
  have hn : a.natAbs * b'.natAbs = a'.natAbs * b.natAbs := by rw [← Int.natAbs_mul, ← Int.natAbs_mul, hx]
  have d1 : b.natAbs ∣ b'.natAbs := by
    have : b.natAbs ∣ a.natAbs * b'.natAbs := ⟨a'.natAbs, by rw [hn, Nat.mul_comm]⟩
    exact Nat.Coprime.dvd_of_dvd_mul_left (Nat.Coprime.symm hc) this
  have d2 : b'.natAbs ∣ b.natAbs := by
    have : b'.natAbs ∣ a'.natAbs * b.natAbs := ⟨a.natAbs, by rw [← hn, Nat.mul_comm]⟩
    exact Nat.Coprime.dvd_of_dvd_mul_left (Nat.Coprime.symm hc') this
  have hbb : b = b' := by have := Nat.dvd_antisymm d1 d2; omega
  subst hbb
  have haa : a = a' := Int.eq_of_mul_eq_mul_right (by omega) hx
  subst haa
  unfold nq
  rw [e1, e1', e2, e2']
end Go.K

end
section
set_option linter.unusedVariables false
set_option linter.unusedSimpArgs false
namespace Go.S
open Go Go.AM Go.RowKit Go.K
section
variable {C : CR} {ρ : Opd → AV} {h : Heap}
def pickK (h : Heap) (c a b : AV) : Option (AV × Heap) := match c with | .bool t => some (if t then a else b, h) | _ => none
def convK (h : Heap) (k : IntKind) (x : AV) : Option (AV × Heap) := match x with | .int _ n => some (.int k (k.wrap n), h) | _ => none
def faddrK (h : Heap) (off s : Nat) (ag : Bool) (x : AV) : Option (AV × Heap) := match x with
  | .ptr id v i j => some (.ptr id v i (j + off), h)
  | .fad y => (partA s ag (cells y) off).map fun z => (.fad z, h)
  | _ => none
def fldK (h : Heap) (off s : Nat) (ag : Bool) (x : AV) : Option (AV × Heap) := match x with | .agg cs => (Go.AM.part s ag cs off).map (·, h) | _ => none
def fadO (s : Nat) (h : Heap) (o : Option AV) : Option (AV × Heap) := match o with | some e => if (cells e).length = s then some (.fad e, h) else none | none => none
def iadrK (h : Heap) (s : Nat) (x i : AV) : Option (AV × Heap) := match x, i with
  | .ref id v s' off len, .int _ n => if s' = s ∧ 0 ≤ n ∧ n < len then some (.ptr id v (off + n.toNat) 0, h) else none
  | .lst xs, .int _ n => if 0 ≤ n then fadO s h (xs[n.toNat]?) else none
  | _, _ => none
def extK (h : Heap) (i : Nat) (x : AV) : Option (AV × Heap) := match x with | .tup xs => (xs[i]?).map (·, h) | _ => none
def nilcK (h : Heap) (x : AV) : Option (AV × Heap) := match x with | .ptr id v i j => some (.ptr id v i j, h) | .fad y => some (.fad y, h) | _ => none
def callvK (C : CR) (h : Heap) (raw : Bool) (x : AV) (xs : List AV) : Option (AV × Heap) := match x with | .fn f fs cs => callA C raw f (fs ++ xs ++ cs) h | _ => none
def appzK (h : Heap) (s lim : Nat) (z x n : AV) : Option (AV × Heap) := match n with
  | .int .i64 m => if 0 ≤ m ∧ m ≤ lim ∧ (cells z).length = s then appA h s lim x (.lst (List.replicate m.toNat z)) else none
  | _ => none
theorem o_mv {x} : opA C ρ h (.mv x) = some (ρ x, h) := rfl
theorem o_pick {c a b} : opA C ρ h (.pick c a b) = pickK h (ρ c) (ρ a) (ρ b) := rfl
theorem o_bin {op x y} : opA C ρ h (.bin op x y) = (binA op (ρ x) (ρ y)).map (·, h) := rfl
theorem o_un {op x} : opA C ρ h (.un op x) = (unA op (ρ x)).map (·, h) := rfl
theorem o_conv {k x} : opA C ρ h (.conv k x) = convK h k (ρ x) := rfl
theorem o_alloc {z} : opA C ρ h (.alloc z) = some (.ptr h.length 0 0 0, h ++ [some ⟨0, (cells z).length, [z]⟩]) := rfl
theorem o_box {x} : opA C ρ h (.box x) = if (cells (ρ x)).all okCell then some (.ptr h.length 0 0 0, h ++ [some ⟨0, (cells (ρ x)).length, [ρ x]⟩]) else none := rfl
theorem o_build {z parts} : opA C ρ h (.build z parts) = (fillA z (parts.map fun p => (p.1, p.2.1, ρ p.2.2))).map fun cs => (.agg cs, h) := rfl
theorem o_bslice {n s z parts} : opA C ρ h (.bslice n s z parts) = if (cells z).length = s then (fillS s (List.replicate n z) (parts.map fun p => (p.1, ρ p.2))).map fun xs => (.ref h.length 0 s 0 n, h ++ [some ⟨0, s, xs⟩]) else none := rfl
theorem o_load {s ag a} : opA C ρ h (.load s ag a) = (loadA h s ag (ρ a)).map (·, h) := rfl
theorem o_store {s a x} : opA C ρ h (.store s a x) = (storeA h s (ρ a) (ρ x)).map fun h' => (.undef, h') := rfl
theorem o_faddr {off s ag x} : opA C ρ h (.faddr off s ag x) = faddrK h off s ag (ρ x) := rfl
theorem o_fld {off s ag x} : opA C ρ h (.fld off s ag x) = fldK h off s ag (ρ x) := rfl
theorem o_iadr {s x i} : opA C ρ h (.iadr s x i) = iadrK h s (ρ x) (ρ i) := by
  simp only [opA, iadrK, fadO]
  cases ρ x <;> cases ρ i <;> rfl
theorem o_slice {s x lo hi mx} : opA C ρ h (.slice s x lo hi mx) = (sliceA s (ρ x) (lo.map ρ) (hi.map ρ) (mx.map ρ)).map (·, h) := rfl
theorem o_len {st x} : opA C ρ h (.len st x) = (lenA st (ρ x)).map (·, h) := rfl
theorem o_cap {x} : opA C ρ h (.cap x) = (capA (ρ x)).map (·, h) := rfl
theorem o_app {s lim x y} : opA C ρ h (.app s lim x y) = appA h s lim (ρ x) (ρ y) := rfl
theorem o_appz {s lim z x n} : opA C ρ h (.appz s lim z x n) = appzK h s lim z (ρ x) (ρ n) := rfl
theorem o_copy {s x y} : opA C ρ h (.copy s x y) = copyA h s (ρ x) (ρ y) := rfl
theorem o_mm {mx x xs} : opA C ρ h (.mm mx x xs) = (mmAll mx (ρ x) (xs.map ρ)).map (·, h) := rfl
theorem o_mk {s lim z l c} : opA C ρ h (.mk s lim z l c) = mkA h s lim z (ρ l) (ρ c) := rfl
theorem o_call {raw f xs} : opA C ρ h (.call raw f xs) = callA C raw f (xs.map ρ) h := rfl
theorem o_callp {f xs} : opA C ρ h (.callp f xs) = (callV C f (xs.map ρ)).map (·, h) := rfl
theorem o_callv {raw x xs} : opA C ρ h (.callv raw x xs) = callvK C h raw (ρ x) (xs.map ρ) := rfl
theorem o_ext {i x} : opA C ρ h (.ext i x) = extK h i (ρ x) := rfl
theorem o_emp0 : opA C ρ h .emp0 = some (.emp true, h) := rfl
theorem o_clone {f x} : opA C ρ h (.clone f x) = cloneA C f (ρ x) h := rfl
theorem o_clonev {f x} : opA C ρ h (.clonev f x) = cloneV C f (ρ x) h := rfl
def bslK (n s : Nat) (z : AV) (h : Heap) (is ids : List Nat) (o : Option (List AV)) : Option (AV × Heap) := match o with
  | some ys => if (cells z).length = s then (fillS s (List.replicate n z) (is.zip ys)).map fun r => (.ref h.length 0 s 0 n, kill h ids ++ [some ⟨0, s, r⟩]) else none
  | none => none
theorem o_bslicef {n s z parts} : opA C ρ h (.bslicef n s z parts) = bslK n s z h (parts.map fun p => p.1) (uses h (parts.map fun p => ρ p.2)) (fzs h (parts.map fun p => ρ p.2)) := by
  show bslF h n s z _ _ = _
  unfold bslF bslK uses fzs
  cases (parts.map fun p => ρ p.2).mapM (frz h deep) with
  | none => simp
  | some ys => rfl
def bslvK (n s : Nat) (z : AV) (is : List Nat) (o : Option (List AV)) : Option AV := match o with
  | some ys => if (cells z).length = s then (fillS s (List.replicate n z) (is.zip ys)).bind fun r => fz [some ⟨0, s, r⟩] (.ref 0 0 s 0 n) else none
  | none => none
theorem o_bslicev {n s z parts} : opA C ρ h (.bslicev n s z parts) = (bslvK n s z (parts.map fun p => p.1) (fzs [] (parts.map fun p => ρ p.2))).map (·, h) := by
  show (bslV n s z _ _).map _ = _
  unfold bslV bslvK fzs fz
  cases (parts.map fun p => ρ p.2).mapM (frz [] deep) with
  | none => simp
  | some ys => rfl
theorem k_bslv {n s z is ys} : bslvK n s z is (some ys) = if (cells z).length = s then (fillS s (List.replicate n z) (is.zip ys)).bind fun r => fz [some ⟨0, s, r⟩] (.ref 0 0 s 0 n) else none := rfl
theorem k_bslf {n s z h is ids ys} : bslK n s z h is ids (some ys) = if (cells z).length = s then (fillS s (List.replicate n z) (is.zip ys)).map fun r => (.ref h.length 0 s 0 n, kill h ids ++ [some ⟨0, s, r⟩]) else none := rfl
theorem o_mkfn {f fs cs} : opA C ρ h (.mkfn f fs cs) = some (.fn f (fs.map ρ) (cs.map ρ), h) := rfl
theorem o_nilc {x} : opA C ρ h (.nilc x) = nilcK h (ρ x) := rfl
theorem o_eqs {ty neg x y} : opA C ρ h (.eqs ty neg x y) = (eqA ty (ρ x) (ρ y)).map fun b => (.bool (if neg then !b else b), h) := rfl
theorem k_pick_t {a b : AV} : pickK h (.bool true) a b = some (a, h) := rfl
theorem k_pick_f {a b : AV} : pickK h (.bool false) a b = some (b, h) := rfl
theorem k_conv {k k' n} : convK h k (.int k' n) = some (.int k (k.wrap n), h) := rfl
theorem k_faddr_p {off s ag id v i j} : faddrK h off s ag (.ptr id v i j) = some (.ptr id v i (j + off), h) := rfl
theorem k_faddr_f {off s ag y} : faddrK h off s ag (.fad y) = (partA s ag (cells y) off).map fun z => (.fad z, h) := rfl
theorem k_fld {off s ag cs} : fldK h off s ag (.agg cs) = (Go.AM.part s ag cs off).map (·, h) := rfl
theorem k_fadO {s e} : fadO s h (some e) = if (cells e).length = s then some (.fad e, h) else none := rfl
theorem k_iadr_r {s id v s' off len k n} : iadrK h s (.ref id v s' off len) (.int k n) = if s' = s ∧ 0 ≤ n ∧ n < len then some (.ptr id v (off + n.toNat) 0, h) else none := rfl
theorem k_iadr_l {s xs k n} : iadrK h s (.lst xs) (.int k n) = if 0 ≤ n then fadO s h (xs[n.toNat]?) else none := rfl
theorem k_ext {i xs} : extK h i (.tup xs) = (xs[i]?).map (·, h) := rfl
theorem k_nilc_p {id v i j} : nilcK h (.ptr id v i j) = some (.ptr id v i j, h) := rfl
theorem k_nilc_f {y} : nilcK h (.fad y) = some (.fad y, h) := rfl
theorem k_callv {raw f fs cs xs} : callvK C h raw (.fn f fs cs) xs = callA C raw f (fs ++ xs ++ cs) h := rfl
theorem k_appz {s lim z x m} : appzK h s lim z x (.int .i64 m) = if 0 ≤ m ∧ m ≤ lim ∧ (cells z).length = s then appA h s lim x (.lst (List.replicate m.toNat z)) else none := rfl
end
theorem fz_zero {h} : fz h .zero = some (.lst []) := rfl
theorem fy_zero {h} : fy h .zero = some (.lst []) := rfl
theorem fv_zero {h} : fv h .zero = some (.lst []) := rfl
theorem us_zero {h} : used h deep .zero = [] := rfl
theorem uy_zero {h} : used h 6 .zero = [] := rfl
theorem uv_zero {h} : used h 5 .zero = [] := rfl
theorem fz_fn0 {h f} : fz h (.fn f [] []) = some (.fn f [] []) := rfl
theorem us_fn0 {h f} : used h deep (.fn f [] []) = [] := rfl
theorem fv_str {h b} : fv h (.str b) = some (.str b) := rfl
theorem uy_str {h b} : used h 6 (.str b) = [] := rfl
theorem uv_str {h b} : used h 5 (.str b) = [] := rfl
def em {α : Type} (f : α → AV) (l : List α) : List AV := l.map f
structure Enc {α : Type} (f : α → AV) (s : Nat) : Prop where
  ok : ∀ x, okE s (f x) = true
  pl : ∀ x, plain1 (f x) = true
def nth {α : Type} [Inhabited α] (l : List α) (i : Int) : α := l.getD i.toNat default
section
variable {α : Type} {f : α → AV} {s : Nat}
theorem em_len (l : List α) : (em f l).length = l.length := by simp [em]
theorem em_app (l r : List α) : em f l ++ em f r = em f (l ++ r) := by simp [em]
theorem em_snoc (l : List α) (x : α) : em f l ++ [f x] = em f (l ++ [x]) := by simp [em]
theorem em_set (l : List α) (i : Nat) (x : α) : (em f l).set i (f x) = em f (l.set i x) := by simp [em]
theorem em_sub (l : List α) (o n : Nat) : sub (em f l) o n = em f ((l.drop o).take n) := by simp [em, sub]
theorem em_take (l : List α) (n : Nat) : List.take n (em f l) = em f (List.take n l) := by simp [em]
theorem em_drop (l : List α) (n : Nat) : List.drop n (em f l) = em f (List.drop n l) := by simp [em]
theorem em_get [Inhabited α] (l : List α) (i : Int) (h0 : 0 ≤ i) (h1 : i < (l.length : Int)) : (em f l)[i.toNat]? = some (f (nth l i)) := by
  have : i.toNat < l.length := by omega
  simp [em, nth, List.getElem?_eq_getElem this, List.getD]
theorem em_get0 [Inhabited α] (l : List α) (h1 : (0 : Int) < (l.length : Int)) : (em f l)[0]? = some (f (nth l 0)) := em_get l 0 (Int.le_refl _) h1
theorem em_okS (E : Enc f s) (l : List α) : okS s (em f l) = true := okS_map E.ok
theorem em_plain (E : Enc f s) (l : List α) : (em f l).all plain1 = true := all_map_plain E.pl
theorem em_fz6 (E : Enc f s) {h : Heap} {v s' off len : Nat} (l : List α) : fzR (frz h 6) (some (some ⟨v, s', em f l⟩)) v off len = some (.lst (sub (em f l) off len)) := fzR_p (n := 4) (em_plain E l)
theorem em_fz5 (E : Enc f s) {h : Heap} {v s' off len : Nat} (l : List α) : fzR (frz h 5) (some (some ⟨v, s', em f l⟩)) v off len = some (.lst (sub (em f l) off len)) := fzR_p (n := 3) (em_plain E l)
theorem em_fz4 (E : Enc f s) {h : Heap} {v s' off len : Nat} (l : List α) : fzR (frz h 4) (some (some ⟨v, s', em f l⟩)) v off len = some (.lst (sub (em f l) off len)) := fzR_p (n := 2) (em_plain E l)
theorem em_us6 (E : Enc f s) {h : Heap} {id v s' off len : Nat} (l : List α) : usR (used h 6) (some (some ⟨v, s', em f l⟩)) id v off len = [id] := usR_p (n := 4) (em_plain E l)
theorem em_us5 (E : Enc f s) {h : Heap} {id v s' off len : Nat} (l : List α) : usR (used h 5) (some (some ⟨v, s', em f l⟩)) id v off len = [id] := usR_p (n := 3) (em_plain E l)
theorem em_us4 (E : Enc f s) {h : Heap} {id v s' off len : Nat} (l : List α) : usR (used h 4) (some (some ⟨v, s', em f l⟩)) id v off len = [id] := usR_p (n := 2) (em_plain E l)
end
theorem okS_cons {s : Nat} {x : AV} {xs : List AV} : okS s (x :: xs) = (okE s x && okS s xs) := rfl
theorem okS_nil {s : Nat} : okS s [] = true := rfl
theorem get_app {α : Type} (g l : List α) (n : Nat) : (g ++ l)[g.length + n]? = l[n]? := by rw [List.getElem?_append_right (by omega)]; congr 1; omega
theorem get_app0 {α : Type} (g l : List α) : (g ++ l)[g.length]? = l[0]? := get_app g l 0
theorem set_app {α : Type} (g l : List α) (n : Nat) (x : α) : (g ++ l).set (g.length + n) x = g ++ l.set n x := by rw [List.set_append_right _ _ (by omega)]; congr 2; omega
theorem set_app0 {α : Type} (g l : List α) (x : α) : (g ++ l).set g.length x = g ++ l.set 0 x := set_app g l 0 x
theorem take_len_g {α : Type} (l : List α) {n : Nat} (h : n = l.length) : List.take n l = l := List.take_of_length_le (by omega)
theorem take_len_s {α : Type} (l : List α) (y : α) : List.take (l.length + 1) (l ++ [y]) = l ++ [y] := List.take_of_length_le (by simp)
theorem take_set_g {α : Type} (l : List α) (i : Nat) (y : α) : List.take l.length (l.set i y) = l.set i y := List.take_of_length_le (by simp)
theorem i64_nat {n : Nat} (h : n < 9223372036854775807) : wrap64 ((n : Int) + 1) = ((n + 1 : Nat) : Int) := by rw [w64 (by omega) (by omega)]; rfl
theorem nat_cast_nonneg (n : Nat) : (0 ≤ (n : Int)) = True := eq_true (Int.natCast_nonneg n)
abbrev eN (n : Int) : AV := .lst (u (dg B n))
abbrev rN (n : Int) : AV := .lst (ui (dg D n))
def eZ (z : Int) : AV := .agg [.bool (decide (z < 0)), eN (ab z)]
def rZ (z : Int) : AV := .agg [.bool (decide (z < 0)), rN (ab z)]
def eQ (q : Rat) : AV := .agg [.bool (decide (q.num < 0)), eN (ab q.num), eN (q.den : Int)]
def rQ (q : Rat) : AV := .agg [.bool (decide (q.num < 0)), rN (ab q.num), rN (q.den : Int)]
theorem cells_eZ {z : Int} : cells (eZ z) = [.bool (decide (z < 0)), eN (ab z)] := rfl
theorem agg_eZ {z : Int} : AV.agg [.bool (decide (z < 0)), eN (ab z)] = eZ z := rfl
theorem shut_eZ {z : Int} {cs} : shut (eZ z) cs = some (.agg cs) := rfl
theorem fld_eZ {z : Int} {h off s ag} : fldK h off s ag (eZ z) = (Go.AM.part s ag (cells (eZ z)) off).map (·, h) := rfl
theorem fz_eZ {z : Int} {h} : fz h (eZ z) = some (eZ z) := fz_plain1 rfl
theorem us_eZ {z : Int} {h} : used h deep (eZ z) = [] := us_plain1 rfl
theorem fy_eZ {z : Int} {h} : fy h (eZ z) = some (eZ z) := (frz_plain1 (n := 4) rfl).1
theorem uy_eZ {z : Int} {h} : used h 6 (eZ z) = [] := (frz_plain1 (n := 4) rfl).2
theorem fv_eZ {z : Int} {h} : fv h (eZ z) = some (eZ z) := (frz_plain1 (n := 3) rfl).1
theorem uv_eZ {z : Int} {h} : used h 5 (eZ z) = [] := (frz_plain1 (n := 3) rfl).2
theorem E_eZ : Enc eZ 2 := ⟨fun _ => rfl, fun _ => rfl⟩
theorem cells_rZ {z : Int} : cells (rZ z) = [.bool (decide (z < 0)), rN (ab z)] := rfl
theorem agg_rZ {z : Int} : AV.agg [.bool (decide (z < 0)), rN (ab z)] = rZ z := rfl
theorem shut_rZ {z : Int} {cs} : shut (rZ z) cs = some (.agg cs) := rfl
theorem fld_rZ {z : Int} {h off s ag} : fldK h off s ag (rZ z) = (Go.AM.part s ag (cells (rZ z)) off).map (·, h) := rfl
theorem fz_rZ {z : Int} {h} : fz h (rZ z) = some (rZ z) := fz_plain1 rfl
theorem us_rZ {z : Int} {h} : used h deep (rZ z) = [] := us_plain1 rfl
theorem fy_rZ {z : Int} {h} : fy h (rZ z) = some (rZ z) := (frz_plain1 (n := 4) rfl).1
theorem uy_rZ {z : Int} {h} : used h 6 (rZ z) = [] := (frz_plain1 (n := 4) rfl).2
theorem fv_rZ {z : Int} {h} : fv h (rZ z) = some (rZ z) := (frz_plain1 (n := 3) rfl).1
theorem uv_rZ {z : Int} {h} : used h 5 (rZ z) = [] := (frz_plain1 (n := 3) rfl).2
theorem E_rZ : Enc rZ 2 := ⟨fun _ => rfl, fun _ => rfl⟩
theorem cells_eQ {q : Rat} : cells (eQ q) = [.bool (decide (q.num < 0)), eN (ab q.num), eN (q.den : Int)] := rfl
theorem agg_eQ {q : Rat} : AV.agg [.bool (decide (q.num < 0)), eN (ab q.num), eN (q.den : Int)] = eQ q := rfl
theorem shut_eQ {q : Rat} {cs} : shut (eQ q) cs = some (.agg cs) := rfl
theorem fld_eQ {q : Rat} {h off s ag} : fldK h off s ag (eQ q) = (Go.AM.part s ag (cells (eQ q)) off).map (·, h) := rfl
theorem fz_eQ {q : Rat} {h} : fz h (eQ q) = some (eQ q) := fz_plain1 rfl
theorem us_eQ {q : Rat} {h} : used h deep (eQ q) = [] := us_plain1 rfl
theorem fy_eQ {q : Rat} {h} : fy h (eQ q) = some (eQ q) := (frz_plain1 (n := 4) rfl).1
theorem uy_eQ {q : Rat} {h} : used h 6 (eQ q) = [] := (frz_plain1 (n := 4) rfl).2
theorem fv_eQ {q : Rat} {h} : fv h (eQ q) = some (eQ q) := (frz_plain1 (n := 3) rfl).1
theorem uv_eQ {q : Rat} {h} : used h 5 (eQ q) = [] := (frz_plain1 (n := 3) rfl).2
theorem E_eQ : Enc eQ 3 := ⟨fun _ => rfl, fun _ => rfl⟩
theorem cells_rQ {q : Rat} : cells (rQ q) = [.bool (decide (q.num < 0)), rN (ab q.num), rN (q.den : Int)] := rfl
theorem agg_rQ {q : Rat} : AV.agg [.bool (decide (q.num < 0)), rN (ab q.num), rN (q.den : Int)] = rQ q := rfl
theorem shut_rQ {q : Rat} {cs} : shut (rQ q) cs = some (.agg cs) := rfl
theorem fld_rQ {q : Rat} {h off s ag} : fldK h off s ag (rQ q) = (Go.AM.part s ag (cells (rQ q)) off).map (·, h) := rfl
theorem fz_rQ {q : Rat} {h} : fz h (rQ q) = some (rQ q) := fz_plain1 rfl
theorem us_rQ {q : Rat} {h} : used h deep (rQ q) = [] := us_plain1 rfl
theorem fy_rQ {q : Rat} {h} : fy h (rQ q) = some (rQ q) := (frz_plain1 (n := 4) rfl).1
theorem uy_rQ {q : Rat} {h} : used h 6 (rQ q) = [] := (frz_plain1 (n := 4) rfl).2
theorem fv_rQ {q : Rat} {h} : fv h (rQ q) = some (rQ q) := (frz_plain1 (n := 3) rfl).1
theorem uv_rQ {q : Rat} {h} : used h 5 (rQ q) = [] := (frz_plain1 (n := 3) rfl).2
theorem E_rQ : Enc rQ 3 := ⟨fun _ => rfl, fun _ => rfl⟩
theorem cells_agg {xs} : cells (.agg xs) = xs := rfl
theorem shut_agg {xs cs} : shut (.agg xs) cs = some (.agg cs) := rfl
theorem cells_int {k n} : cells (.int k n) = [.int k n] := rfl
theorem shut_int {k n} {y} : shut (.int k n) [y] = if okCell y then some y else none := rfl
theorem cells_bool {b} : cells (.bool b) = [.bool b] := rfl
theorem shut_bool {b} {y} : shut (.bool b) [y] = if okCell y then some y else none := rfl
theorem cells_str {b} : cells (.str b) = [.str b] := rfl
theorem shut_str {b} {y} : shut (.str b) [y] = if okCell y then some y else none := rfl
theorem cells_nil  : cells (.nil) = [.nil] := rfl
theorem shut_nil  {y} : shut (.nil) [y] = if okCell y then some y else none := rfl
theorem cells_emp {c} : cells (.emp c) = [.emp c] := rfl
theorem shut_emp {c} {y} : shut (.emp c) [y] = if okCell y then some y else none := rfl
theorem cells_zero  : cells (.zero) = [.zero] := rfl
theorem shut_zero  {y} : shut (.zero) [y] = if okCell y then some y else none := rfl
theorem cells_lst {xs} : cells (.lst xs) = [.lst xs] := rfl
theorem shut_lst {xs} {y} : shut (.lst xs) [y] = if okCell y then some y else none := rfl
theorem cells_ref {a b c d e} : cells (.ref a b c d e) = [.ref a b c d e] := rfl
theorem shut_ref {a b c d e} {y} : shut (.ref a b c d e) [y] = if okCell y then some y else none := rfl
theorem cells_nilp  : cells (.nilp) = [.nilp] := rfl
theorem shut_nilp  {y} : shut (.nilp) [y] = if okCell y then some y else none := rfl
theorem cells_ptr {a b c d} : cells (.ptr a b c d) = [.ptr a b c d] := rfl
theorem shut_ptr {a b c d} {y} : shut (.ptr a b c d) [y] = if okCell y then some y else none := rfl
theorem cells_fad {x} : cells (.fad x) = [.fad x] := rfl
theorem shut_fad {x} {y} : shut (.fad x) [y] = if okCell y then some y else none := rfl
theorem cells_nilf  : cells (.nilf) = [.nilf] := rfl
theorem shut_nilf  {y} : shut (.nilf) [y] = if okCell y then some y else none := rfl
theorem cells_fn {a b c} : cells (.fn a b c) = [.fn a b c] := rfl
theorem shut_fn {a b c} {y} : shut (.fn a b c) [y] = if okCell y then some y else none := rfl
theorem cells_undef  : cells (.undef) = [.undef] := rfl
theorem shut_undef  {y} : shut (.undef) [y] = if okCell y then some y else none := rfl
theorem q_bool {a b} : eqA 1 (.bool a) (.bool b) = some (a == b) := rfl
theorem q_nilp : eqA 2 .nilp .nilp = some true := rfl
theorem q_ptr {a b c d} : eqA 2 (.ptr a b c d) .nilp = some false := rfl
theorem q_fad {x} : eqA 2 (.fad x) .nilp = some false := rfl
theorem q_nil : eqA 3 .nil .nil = some true := rfl
theorem q_emp {c} : eqA 3 (.emp c) .nil = some false := rfl
theorem q_lst {x xs} : eqA 3 (.lst (x :: xs)) .nil = some false := rfl
theorem q_ref {a b c d e} : eqA 3 (.ref a b c d e) .nil = some false := rfl
theorem q_nilf : eqA 4 .nilf .nilf = some true := rfl
theorem q_fn {a b c} : eqA 4 (.fn a b c) .nilf = some false := rfl
theorem E_eN : Enc eN 1 := ⟨fun _ => rfl, fun _ => rfl⟩
theorem E_rN : Enc rN 1 := ⟨fun _ => rfl, fun _ => rfl⟩
abbrev eL {α : Type} (f : α → AV) (l : List α) : AV := .lst (em f l)
theorem E_eL {α : Type} {f : α → AV} : Enc (eL f) 1 := ⟨fun _ => rfl, fun _ => rfl⟩
abbrev eI (n : Int) : AV := .int .i64 n
abbrev eU (n : Int) : AV := .int .u64 n
theorem E_eI : Enc eI 1 := ⟨fun _ => rfl, fun _ => rfl⟩
theorem E_eU : Enc eU 1 := ⟨fun _ => rfl, fun _ => rfl⟩
theorem clone_nil {F : Nat → Option AFunc} {f : Nat} {h : Heap} (h1 : CL F f [.nil] h = some (.nil, h)) (h2 : CL F f [.emp false] h = some (.emp true, h)) : cloneA (CL F) f (.lst []) h = some (.zero, h) := by
  rw [cloneA_nil, h1, h2]
  simp [isNilR, isEmpR, heapBeq_self]
theorem sub_full {α : Type} {f : α → AV} (l : List α) : sub (em f l) 0 l.length = em f l := by rw [em_sub]; simp
theorem go3 {p q : Prop} (h : q) (e : p = q := by
    simp (config := { maxSteps := 1000000 }) only [o_mv, o_pick, o_bin, o_un, o_conv, o_alloc, o_box, o_build, o_bslice, o_load, o_store, o_faddr, o_fld, o_iadr, o_slice, o_len, o_cap, o_app, o_appz, o_copy, o_mm, o_mk, o_call, o_callp, o_callv, o_ext, o_emp0, o_clone, o_clonev, o_bslicef, o_bslicev, k_bslv, k_bslf, o_mkfn, o_nilc, o_eqs, k_pick_t, k_pick_f, k_conv, k_faddr_p, k_faddr_f, k_fld, k_fadO, k_iadr_r, k_iadr_l, k_ext, k_nilc_p, k_nilc_f, k_callv, k_appz, cells_eZ, agg_eZ, shut_eZ, fld_eZ, fz_eZ, us_eZ, fy_eZ, uy_eZ, fv_eZ, uv_eZ, cells_rZ, agg_rZ, shut_rZ, fld_rZ, fz_rZ, us_rZ, fy_rZ, uy_rZ, fv_rZ, uv_rZ, cells_eQ, agg_eQ, shut_eQ, fld_eQ, fz_eQ, us_eQ, fy_eQ, uy_eQ, fv_eQ, uv_eQ, cells_rQ, agg_rQ, shut_rQ, fld_rQ, fz_rQ, us_rQ, fy_rQ, uy_rQ, fv_rQ, uv_rQ, cells_agg, shut_agg, q_bool, q_nilp, q_ptr, q_fad, q_nil, q_emp, q_lst, q_ref, q_nilf, q_fn, List.isEmpty_nil, List.isEmpty_cons, cells_int, shut_int, cells_bool, shut_bool, cells_str, shut_str, cells_nil, shut_nil, cells_emp, shut_emp, cells_zero, shut_zero, cells_lst, shut_lst, cells_ref, shut_ref, cells_nilp, shut_nilp, cells_ptr, shut_ptr, cells_fad, shut_fad, cells_nilf, shut_nilf, cells_fn, shut_fn, cells_undef, shut_undef, fz_zero, fy_zero, fv_zero, us_zero, uy_zero, uv_zero, fz_fn0, us_fn0, fy_str, fv_str, uy_str, uv_str, em_len, em_app, em_snoc, em_set, em_sub, em_take, em_drop, em_get, em_get0, em_okS E_eZ, em_okS E_rZ, em_okS E_eQ, em_okS E_rQ, em_okS E_eL, em_okS E_eN, em_okS E_rN, em_okS E_eI, em_okS E_eU, em_fz6 E_eZ, em_fz6 E_rZ, em_fz6 E_eQ, em_fz6 E_rQ, em_fz6 E_eL, em_fz6 E_eN, em_fz6 E_rN, em_fz6 E_eI, em_fz6 E_eU, em_fz5 E_eZ, em_fz5 E_rZ, em_fz5 E_eQ, em_fz5 E_rQ, em_fz5 E_eL, em_fz5 E_eN, em_fz5 E_rN, em_fz5 E_eI, em_fz5 E_eU, em_fz4 E_eZ, em_fz4 E_rZ, em_fz4 E_eQ, em_fz4 E_rQ, em_fz4 E_eL, em_fz4 E_eN, em_fz4 E_rN, em_fz4 E_eI, em_fz4 E_eU, em_us6 E_eZ, em_us6 E_rZ, em_us6 E_eQ, em_us6 E_rQ, em_us6 E_eL, em_us6 E_eN, em_us6 E_rN, em_us6 E_eI, em_us6 E_eU, em_us5 E_eZ, em_us5 E_rZ, em_us5 E_eQ, em_us5 E_rQ, em_us5 E_eL, em_us5 E_eN, em_us5 E_rN, em_us5 E_eI, em_us5 E_eU, em_us4 E_eZ, em_us4 E_rZ, em_us4 E_eQ, em_us4 E_rQ, em_us4 E_eL, em_us4 E_eN, em_us4 E_rN, em_us4 E_eI, em_us4 E_eU, okS_cons, okS_nil, get_app, get_app0, set_app, set_app0, take_len_s, take_set_g, nat_cast_nonneg, Int.toNat_natCast, List.take_length, Int.cast_ofNat_Int, List.zip_cons_cons, List.zip_nil_left, X_skip, X_exit, X_ret, X_reg, X_regd, Zd_some, stableA_eq, stK_some, stB_some, hpK_some, heapsA_nil, heapsA_cons, AV.beq_self, X_seq, X_cond, X_block, X_frz, Y_done, Y_seq, Y_seq_exit, Y_seq_ret, Y_blk, Y_blk_exit, Y_blk_ret, Z_some, V_some, B_true, B_false, Fin_normal, Fin_ret, FinB_some, FinR_normal, FinR_ret,
      regA_nil, regA_cons, regK_some, operA_none, operA_some, gd_tt, gd_ff, gd_tf, gd_ft, gd_sk, put_some, put_none, keep_nil, keep_cons,
      ev_t, ev_c, ev_f, get_cons, get_nil, bind_some', map_some',  binA, unA,  mm2, mmAll, lenA, capA, loadA, storeA, blk, elems,  okE, okCell, mkv, Go.AM.part, Go.AM.partA, sub_s, sub_z, sub_0, sub_n, callV_eq, cvA_some, nb_eq, le_lt, set_concat, frzSt_eq, fsK_some, take_min', take_cpy, List.append_assoc, fzR_nil, usR_nil, u_take, u_drop, ui_take, ui_drop, lt0, take_drop_all, u_nil, ui_nil,  sliceA, bndA, bndO, appA, copyA, mkA, fillA, fillS, res1, resA, args0_nil, args0_cons,
      callA_pure, callA_raw, cpA_some, cpB_some, fzK_some, fzs_nil, fzs_cons, uses_nil, uses_cons, kill_nil, kill_cons, fz_int, fz_bool, fz_str, fz_lst, fz_nil, fz_emp, fz_undef, fz_nilp, us_int, us_bool, us_str, us_lst, us_nil, us_emp, us_undef, us_nilp, fz_tup, fz_agg, tupK_some, aggK_some, fys_nil, fys_cons, fy_int, fy_bool, fy_str, fy_lst, fy_nil, fy_emp, fy_undef, fy_nilp, fy_agg, fvs_nil, fvs_cons, fv_int, fv_bool, fv_lst, fv_nil, fv_emp, us_agg, us_tup, uys_nil, uys_cons, uy_int, uy_bool, uy_lst, uy_nil, uy_emp, uy_undef, uy_agg, uvs_nil, uvs_cons, uv_int, uv_bool, uv_lst, uv_nil, uv_emp, u_len, u_set, u_rep, u_okS, u_get, ui_get, u_sub, u_app, u_snoc, ui_app, ui_snoc, okS_one, okSi_one, sub_one, i64_w, bits_and, bits_or, fd32', p32, shr_eq', shl_eq', u_get0, u_get1, ui_get0, mx_i, mn_i, ui_len, ui_set, ui_rep, ui_okS, ui_sub, fzR_ui6, fzR_ui5, fzR_ui4, usR_ui6, usR_ui5, usR_ui4, take_set, take_snoc, take_one_cons, Int.zero_sub, List.length_set, fz_ref', fy_ref', fv_ref', fzR_u6, fzR_u5, fzR_u4, us_ref', uy_ref', uv_ref', usR_u6, usR_u5, usR_u4,
      List.nil_append, List.append_nil, List.cons_append, List.map_cons, List.map_nil, List.mapM_cons, List.mapM_nil, Option.pure_def, Option.map_none, Option.map_some, Option.bind_some, Option.bind_none, Nat.sub_zero, Nat.add_one_le_iff, List.reduceReplicate, List.getElem?_concat_length, List.take_length, List.length_append, Option.bind_eq_bind, List.all_cons, List.all_nil, List.set_cons_zero, List.set_cons_succ, List.take_zero, List.drop_zero, List.take_succ_cons, List.drop_succ_cons, List.take_nil, List.drop_nil,
      decide_eq_true_eq, decide_eq_false_iff_not, decide_true, decide_false, if_true, if_false, true_and, and_true, and_self, or_true, true_or, false_or, or_false, not_true_eq_false, not_false_eq_true, Bool.false_eq_true, Bool.true_eq_false, Bool.and_true, Bool.true_and, Bool.not_true, Bool.not_false, beq_self_eq_true, reduceCtorEq, reduceIte,
      Nat.reduceEqDiff, Nat.reduceAdd, Nat.reduceSub, Nat.reduceMul, Nat.reducePow, Nat.reduceLT, Nat.reduceLeDiff, Nat.reduceBEq, Int.reduceToNat, Int.reduceLT, Int.reduceLE, Int.reduceEq, Nat.add_zero, Nat.zero_add, Nat.le_refl, Int.le_refl, List.length_cons, List.length_nil, List.getElem?_cons_zero, List.getElem?_cons_succ, ge_iff_le, gt_iff_lt, *]
    try rfl) : p := e ▸ h
end Go.S

end
section
set_option linter.unusedVariables false
set_option linter.unusedSimpArgs false
namespace Go.K
open Go Go.RowKit
def L (x : Int) : Nat := (dg B (ab x)).length
theorem L_def (x : Int) : (dg B (ab x)).length = L x := rfl
theorem L_nat {x : Int} (h : 0 ≤ x) : (dg B x).length = L x := by unfold L; rw [ab_of_nonneg h]
theorem L_mono {x y : Int} (h : ab x ≤ ab y) : L x ≤ L y := dg_len_mono hB (ab_nonneg x) h
theorem L_neg (x : Int) : L (-x) = L x := by unfold L; rw [ab_neg]
theorem ab_add (x y : Int) : ab (x + y) ≤ ab x + ab y := by unfold ab; omega
theorem L_add (x y : Int) : L (x + y) ≤ max (L x) (L y) + 1 := by
  have h1 : L (x + y) ≤ L (ab x + ab y) := L_mono (by rw [ab_of_nonneg (z := ab x + ab y) (by have := ab_nonneg x; have := ab_nonneg y; omega)]; exact ab_add x y)
  have h2 := dlen_add (ab_nonneg x) (ab_nonneg y) (n := max (L x) (L y)) (Nat.le_max_left _ _) (Nat.le_max_right _ _)
  rw [L_nat (by have := ab_nonneg x; have := ab_nonneg y; omega)] at h2
  omega
theorem L_sub (x y : Int) : L (x - y) ≤ max (L x) (L y) + 1 := by
  have := L_add x (-y)
  rw [L_neg] at this
  rwa [Int.sub_eq_add_neg]
theorem L_mul (x y : Int) : L (x * y) ≤ L x + L y := by
  unfold L
  rw [ab_mul]
  exact dlen_mul (ab_nonneg x) (ab_nonneg y)
theorem L_le {x : Int} {n : Nat} (h : ab x < B ^ n) : L x ≤ n := dlen_lt (ab_nonneg x) h
theorem L_zero : L 0 = 0 := by unfold L; rw [show ab 0 = 0 from rfl, dg_zero]; rfl
theorem L_small {x : Int} (h : ab x < 4294967296) : L x ≤ 1 := L_le (n := 1) (by rw [Int.pow_one]; exact h)
theorem L_small2 {x : Int} (h : ab x < 18446744073709551616) : L x ≤ 2 := L_le (n := 2) (by rw [show B ^ 2 = 18446744073709551616 from rfl]; exact h)
theorem L_one : L 1 ≤ 1 := L_small (by decide)
theorem L_D (x : Int) : (dg D (ab x)).length ≤ 3 * L x := by
  refine dg_len_le hD _ _ (ab_nonneg x) ?_
  have h1 := val_lt (b := B) (by decide) (dg_dig hB (ab x) (ab_nonneg x))
  rw [val_dg hB _ (ab_nonneg x)] at h1
  refine Int.lt_of_lt_of_le h1 ?_
  rw [Int.pow_mul]
  exact pow_base_mono (by decide) (by decide) _
theorem L_Dn {x : Int} (h : 0 ≤ x) : (dg D x).length ≤ 3 * L x := by have := L_D x; rwa [ab_of_nonneg h] at this
theorem lenD_pos {x : Int} (hx : 0 ≤ x) : 0 < (dg D x).length ↔ x ≠ 0 := by
  constructor
  · intro h h2; rw [h2, dg_zero] at h; simp at h
  · intro h
    rw [dg_pos hD (by omega)]
    simp
theorem nq_self (q : Rat) : nq q.num q.den = (decide (q.num < 0), dg B (ab q.num), dg B (q.den : Int)) := by
  have hg : gg q.num (q.den : Int) = 1 := by unfold gg; have := q.reduced; unfold Nat.Coprime at this; simp [this]
  unfold nq wz
  rw [hg, Int.ediv_one, Int.ediv_one]
theorem nq_rat {p d : Int} (hd : 0 < d) : nq p d = (decide ((Rat.divInt p d).num < 0), dg B (ab (Rat.divInt p d).num), dg B ((Rat.divInt p d).den : Int)) := by
  rw [← nq_self]
  refine nq_eq hd (by have := (Rat.divInt p d).den_pos; omega) ?_
  have h := Rat.num_divInt_den (Rat.divInt p d)
  rw [Rat.divInt_eq_divInt_iff (by have := (Rat.divInt p d).den_pos; omega) (by omega)] at h
  omega
theorem rat_add (a b : Rat) : a + b = Rat.divInt (a.num * b.den + b.num * a.den) (a.den * b.den) := by
  have h1 := Rat.num_divInt_den a
  have h2 := Rat.num_divInt_den b
  have := Rat.divInt_add_divInt a.num b.num (d₁ := a.den) (d₂ := b.den) (by have := a.den_pos; omega) (by have := b.den_pos; omega)
  rw [h1, h2] at this
  exact this
theorem rat_mul (a b : Rat) : a * b = Rat.divInt (a.num * b.num) (a.den * b.den) := by
  have h1 := Rat.num_divInt_den a
  have h2 := Rat.num_divInt_den b
  have := Rat.divInt_mul_divInt a.num b.num (d₁ := a.den) (d₂ := b.den)
  rw [h1, h2] at this
  exact this
theorem num_dvd {p d : Int} (hd : d ≠ 0) : (Rat.divInt p d).num ∣ p ∧ ((Rat.divInt p d).den : Int) ∣ d := by
  have h := Rat.num_divInt_den (Rat.divInt p d)
  rw [Rat.divInt_eq_divInt_iff (by have := (Rat.divInt p d).den_pos; omega) hd] at h
  have hr := (Rat.divInt p d).reduced
  generalize Rat.divInt p d = q at *
  have hn : q.num.natAbs * d.natAbs = p.natAbs * q.den := by
    rw [← Int.natAbs_mul, h, Int.natAbs_mul]; simp
  constructor
  · have : q.num.natAbs ∣ p.natAbs := Nat.Coprime.dvd_of_dvd_mul_right hr ⟨d.natAbs, by rw [← hn]⟩
    exact Int.natAbs_dvd_natAbs.1 this
  · have : q.den ∣ d.natAbs := Nat.Coprime.dvd_of_dvd_mul_left hr.symm ⟨p.natAbs, by rw [hn, Nat.mul_comm]⟩
    exact Int.natAbs_dvd_natAbs.1 (by simpa using this)
theorem L_dvd {x y : Int} (h : x ∣ y) (hy : y ≠ 0) : L x ≤ L y := L_mono (by
  have := Int.natAbs_dvd_natAbs.2 h
  have := Nat.le_of_dvd (by omega) this
  unfold ab; omega)
def Lq (q : Rat) : Nat := max (L q.num) (L q.den)
theorem Lq_divInt {p d : Int} (hd : d ≠ 0) : Lq (Rat.divInt p d) ≤ max (L p) (L d) := by
  obtain ⟨h1, h2⟩ := num_dvd (p := p) hd
  have h3 := L_dvd h2 hd
  have h4 : L (Rat.divInt p d).num ≤ L p := by
    by_cases hp : p = 0
    · subst hp
      have : (Rat.divInt 0 d).num = 0 := by rw [Rat.zero_divInt]; rfl
      rw [this]; exact Nat.le_refl _
    · exact L_dvd h1 hp
  unfold Lq; omega
theorem Lq_num (q : Rat) : L q.num ≤ Lq q := Nat.le_max_left _ _
theorem Lq_den (q : Rat) : L q.den ≤ Lq q := Nat.le_max_right _ _
theorem Lq_add (a b : Rat) : Lq (a + b) ≤ Lq a + Lq b + 1 := by
  rw [rat_add]
  have ha := a.den_pos
  have hb := b.den_pos
  have := Lq_divInt (p := a.num * b.den + b.num * a.den) (d := a.den * b.den) (by have := Int.mul_pos (a := a.den) (b := b.den) (by omega) (by omega); omega)
  have h1 := L_add (a.num * b.den) (b.num * a.den)
  have h2 := L_mul a.num b.den
  have h3 := L_mul b.num a.den
  have h4 := L_mul a.den b.den
  have := Lq_num a; have := Lq_num b; have := Lq_den a; have := Lq_den b
  omega
theorem Lq_mul (a b : Rat) : Lq (a * b) ≤ Lq a + Lq b := by
  rw [rat_mul]
  have ha := a.den_pos
  have hb := b.den_pos
  have := Lq_divInt (p := a.num * b.num) (d := a.den * b.den) (by have := Int.mul_pos (a := a.den) (b := b.den) (by omega) (by omega); omega)
  have h2 := L_mul a.num b.num
  have h4 := L_mul a.den b.den
  have := Lq_num a; have := Lq_num b; have := Lq_den a; have := Lq_den b
  omega
theorem Lq_neg (a : Rat) : Lq (-a) = Lq a := by
  unfold Lq
  rw [Rat.neg_num, Rat.neg_den, L_neg]
theorem Lq_sub (a b : Rat) : Lq (a - b) ≤ Lq a + Lq b + 1 := by
  rw [Rat.sub_eq_add_neg]
  have := Lq_add a (-b)
  rwa [Lq_neg] at this
theorem Lq_inv (a : Rat) (h : a ≠ 0) : Lq a⁻¹ ≤ Lq a := by
  rw [Rat.inv_def]
  have := Lq_divInt (p := a.den) (d := a.num) (by rwa [ne_eq, Rat.num_eq_zero])
  have := Lq_num a; have := Lq_den a
  omega
theorem Lq_zero : Lq 0 ≤ 1 := by
  unfold Lq
  have h1 : L (0 : Rat).num = 0 := L_zero
  have h2 : L ((0 : Rat).den : Int) ≤ 1 := L_one
  omega
theorem Lq_int (n : Int) : Lq (n : Rat) ≤ max (L n) 1 := by
  unfold Lq
  rw [Rat.num_intCast, Rat.den_intCast]
  have : L ((1 : Nat) : Int) ≤ 1 := L_one
  omega
theorem Lq_one : Lq 1 ≤ 1 := by
  unfold Lq
  have h1 : L (1 : Rat).num ≤ 1 := L_one
  have h2 : L ((1 : Rat).den : Int) ≤ 1 := L_one
  omega
end Go.K

end
