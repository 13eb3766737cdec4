/- What was added is taken off again, and what was shifted up comes down again, with as many bits and noughts more as it was shifted: for all limbs that come in (24 of each are looked at) and all shifts. -/
import Derived.Laws.BitsLemmas
import Derived.Test.YtpjephicbiiamaaRows
import Derived.WalkKit
import Derived.ProofKit
import Derived.OpenShut
import Derived.ShutString
import Derived.ChangeOld
import Derived.Below
import Derived.SizedLaws
import Derived.Test.YtpjephicbiiamaaCNatBack2
set_option linter.unusedVariables false
set_option linter.unusedSimpArgs false
set_option linter.unusedSectionVars false
section
namespace Go.Proofs.Ytpjephicbiiamaa.A
set_option linter.unusedVariables false
set_option linter.unusedSimpArgs false
open Go Go.RowKit Go.Proofs.YtpjephicbiiamaaW.PrintWords Go.Proofs.YtpjephicbiiamaaW.PrintLast Go.Proofs.YtpjephicbiiamaaW.PrintMore
section
variable {α β : Type} {f g : Nat → Option α} {r : α}
theorem ev_pos {c : Prop} [Decidable c] (h : c) (k : Ev f r) : Ev (fun n => if c then f n else g n) r := by
  simpa only [if_pos h] using k
theorem ev_neg {c : Prop} [Decidable c] (h : ¬ c) (k : Ev g r) : Ev (fun n => if c then f n else g n) r := by
  simpa only [if_neg h] using k
theorem ev_ite {c : Prop} [Decidable c] (hp : c → Ev f r) (hn : ¬ c → Ev g r) : Ev (fun n => if c then f n else g n) r := by
  by_cases h : c
  · exact ev_pos h (hp h)
  · exact ev_neg h (hn h)
theorem ev_now {a : α} (h : a = r) : Ev (fun _ => some a) r := ⟨0, fun _ _ => by rw [h]⟩
theorem ev_bind {a : β} {g : Nat → Option β} {f : Nat → β → Option α} (h : Ev g a) (k : Ev (fun n => f n a) r) : Ev (fun n => (g n).bind (f n)) r := h.bind k
theorem ev_eq {a : β} {x : Option β} {f : Nat → β → Option α} (h : x = some a) (k : Ev (fun n => f n a) r) : Ev (fun n => x.bind (f n)) r := by
  subst h; exact k
end
theorem w64 {x : Int} (h0 : -9223372036854775808 ≤ x) (h1 : x ≤ 9223372036854775807) : wrap64 x = x := by unfold wrap64; omega
theorem wu64 {x : Int} (h0 : 0 ≤ x) (h1 : x ≤ 18446744073709551615) : IntKind.u64.wrap x = x := by
  have e : IntKind.u64.wrap x = x % 18446744073709551616 := by simp [IntKind.wrap, IntKind.bits, IntKind.signed]
  rw [e]; omega
theorem mask32 {x : Int} (h0 : 0 ≤ x) (h1 : x ≤ 18446744073709551615) : Go.bits .and .u64 x 4294967295 = x % 4294967296 := by
  have := bits_mask .u64 64 (by decide) (fun n a b => wu64 a (by omega)) 32 (by decide) x h0 (by omega)
  simpa using this
theorem bit1 {x : Int} (h0 : 0 ≤ x) (h1 : x ≤ 18446744073709551615) : Go.bits .and .u64 x 1 = x % 2 := by
  have := bits_mask .u64 64 (by decide) (fun n a b => wu64 a (by omega)) 1 (by decide) x h0 (by omega)
  simpa using this
theorem wf_u64 {x : Int} (h : (Lit.int .u64 x).wf = true) : 0 ≤ x ∧ x ≤ 18446744073709551615 := by
  simp [Lit.wf, IntKind.min, IntKind.max, IntKind.signed, IntKind.bits] at h; omega
theorem rd_nat (xs : List Int) (i : Nat) : rd xs (i : Int) = xs.getD i 0 := by simp [rd]
theorem rd_append_len (xs : List Int) (y : Int) (zs : List Int) : rd (xs ++ y :: zs) (xs.length : Int) = y := by
  simp [rd, List.getD]
def val (b : Int) : List Int → Int
  | [] => 0
  | x :: xs => x + b * val b xs
def Dig (b : Int) (xs : List Int) : Prop := ∀ x ∈ xs, 0 ≤ x ∧ x < b
theorem Dig.nil {b : Int} : Dig b [] := fun _ h => by cases h
theorem Dig.cons {b x : Int} {xs : List Int} (h0 : 0 ≤ x) (h1 : x < b) (h : Dig b xs) : Dig b (x :: xs) := by
  intro y hy
  rcases List.mem_cons.1 hy with rfl | hy
  · exact ⟨h0, h1⟩
  · exact h y hy
theorem Dig.head {b x : Int} {xs : List Int} (h : Dig b (x :: xs)) : 0 ≤ x ∧ x < b := h x (List.mem_cons_self ..)
theorem Dig.tail {b x : Int} {xs : List Int} (h : Dig b (x :: xs)) : Dig b xs := fun y hy => h y (List.mem_cons_of_mem _ hy)
theorem Dig.append {b : Int} {xs ys : List Int} (h : Dig b xs) (k : Dig b ys) : Dig b (xs ++ ys) := by
  intro y hy
  rcases List.mem_append.1 hy with hy | hy
  · exact h y hy
  · exact k y hy
theorem Dig.zeros {b : Int} (hb : 0 < b) (n : Nat) : Dig b (List.replicate n 0) := by
  intro y hy
  have := List.eq_of_mem_replicate hy
  omega
theorem Dig.rd {b : Int} {xs : List Int} (h : Dig b xs) {i : Int} (h0 : 0 ≤ i) (h1 : i < xs.length) : 0 ≤ rd xs i ∧ rd xs i < b := by
  obtain ⟨j, rfl⟩ := Int.eq_ofNat_of_zero_le h0
  have hj : j < xs.length := by omega
  rw [rd_nat, List.getD, List.getElem?_eq_getElem hj]
  exact h _ (List.getElem_mem hj)
theorem Dig.take {b : Int} {xs : List Int} (h : Dig b xs) (i : Nat) : Dig b (xs.take i) := fun y hy => h y (List.mem_of_mem_take hy)
theorem Dig.mono {b c : Int} {xs : List Int} (h : Dig b xs) (hc : b ≤ c) : Dig c xs := fun x hx => ⟨(h x hx).1, by have := (h x hx).2; omega⟩
theorem val_append (b : Int) (xs ys : List Int) : val b (xs ++ ys) = val b xs + b ^ xs.length * val b ys := by
  induction xs with
  | nil => simp [val]
  | cons x xs ih =>
    simp only [List.cons_append, val, ih, List.length_cons, Int.pow_succ, Int.mul_add]
    rw [Int.mul_comm (b ^ xs.length) b, Int.mul_assoc, Int.add_assoc]
theorem val_zeros (b : Int) (n : Nat) : val b (List.replicate n 0) = 0 := by
  induction n with
  | zero => rfl
  | succ n ih => simp [List.replicate_succ, val, ih]
theorem val_nonneg {b : Int} (hb : 0 ≤ b) : ∀ {xs : List Int}, Dig b xs → 0 ≤ val b xs
  | [], _ => Int.le_refl _
  | x :: xs, h => by
    have := val_nonneg hb h.tail
    have := Int.mul_nonneg hb this
    have := h.head.1
    simp only [val]; omega
theorem val_lt {b : Int} (hb : 0 < b) : ∀ {xs : List Int}, Dig b xs → val b xs < b ^ xs.length
  | [], _ => by simp [val]
  | x :: xs, h => by
    have h1 := val_lt hb h.tail
    have h2 : b * (val b xs + 1) ≤ b * b ^ xs.length := Int.mul_le_mul_of_nonneg_left (by omega) (by omega)
    have := h.head.2
    rw [Int.mul_add] at h2
    simp only [val, List.length_cons, Int.pow_succ]
    rw [Int.mul_comm (b ^ xs.length) b]
    omega
def dgN (b : Nat) (n : Nat) : List Int := if h : 2 ≤ b ∧ 0 < n then ((n % b : Nat) : Int) :: dgN b (n / b) else []
termination_by n
decreasing_by exact Nat.div_lt_self h.2 h.1
def dg (b n : Int) : List Int := dgN b.toNat n.toNat
theorem dgN_zero (b : Nat) : dgN b 0 = [] := by rw [dgN, dif_neg (by omega)]
theorem dgN_pos {b n : Nat} (hb : 2 ≤ b) (hn : 0 < n) : dgN b n = ((n % b : Nat) : Int) :: dgN b (n / b) := by rw [dgN, dif_pos ⟨hb, hn⟩]
theorem dg_zero (b : Int) : dg b 0 = [] := dgN_zero _
theorem dg_pos {b n : Int} (hb : 2 ≤ b) (hn : 0 < n) : dg b n = n % b :: dg b (n / b) := by
  obtain ⟨c, rfl⟩ := Int.eq_ofNat_of_zero_le (show (0 : Int) ≤ b by omega)
  obtain ⟨m, rfl⟩ := Int.eq_ofNat_of_zero_le (show (0 : Int) ≤ n by omega)
  have e : ((m : Int) / (c : Int)).toNat = m / c := by rw [← Int.natCast_ediv]; rfl
  unfold dg
  rw [e]
  simp only [Int.toNat_natCast]
  rw [dgN_pos (by omega) (by omega)]
  simp
theorem dg_ind {b : Int} (hb : 2 ≤ b) {P : Int → Prop} (h0 : P 0) (h1 : ∀ n, 0 < n → P (n / b) → P n) : ∀ n : Int, 0 ≤ n → P n := by
  have H : ∀ m : Nat, ∀ n : Int, 0 ≤ n → n.toNat = m → P n := by
    intro m
    induction m using Nat.strongRecOn with
    | ind m ih =>
      intro n hn hm
      by_cases hz : n = 0
      · rw [hz]; exact h0
      · have hl : n / b < n := Int.ediv_lt_of_lt_mul (by omega) (by
          have : n * 2 ≤ n * b := Int.mul_le_mul_of_nonneg_left hb hn
          omega)
        have hg : 0 ≤ n / b := Int.ediv_nonneg hn (by omega)
        exact h1 n (by omega) (ih _ (by omega) _ hg rfl)
  exact fun n hn => H _ n hn rfl
theorem dg_dig {b : Int} (hb : 2 ≤ b) (n : Int) (hn : 0 ≤ n) : Dig b (dg b n) := by
  refine dg_ind hb (P := fun n => Dig b (dg b n)) ?_ ?_ n hn
  · rw [dg_zero]; exact Dig.nil
  · intro n hn ih
    rw [dg_pos hb hn]
    exact ih.cons (Int.emod_nonneg _ (by omega)) (Int.emod_lt_of_pos _ (by omega))
theorem val_dg {b : Int} (hb : 2 ≤ b) (n : Int) (hn : 0 ≤ n) : val b (dg b n) = n := by
  refine dg_ind hb (P := fun n => val b (dg b n) = n) ?_ ?_ n hn
  · rw [dg_zero]; rfl
  · intro n hn ih
    rw [dg_pos hb hn]
    simp only [val, ih]
    have := Int.emod_add_mul_ediv n b
    omega
def strip (xs : List Int) : List Int := match xs with
  | [] => []
  | x :: xs => match strip xs with
    | [] => if x = 0 then [] else [x]
    | y :: ys => x :: y :: ys
theorem strip_dg {b : Int} (hb : 2 ≤ b) : ∀ {xs : List Int}, Dig b xs → strip xs = dg b (val b xs)
  | [], _ => by rw [val, dg_zero]; rfl
  | x :: xs, h => by
    have ih := strip_dg hb h.tail
    have hx := h.head
    have hv := val_nonneg (by omega) h.tail
    have hm : 0 ≤ b * val b xs := Int.mul_nonneg (by omega) hv
    have e1 : (x + b * val b xs) % b = x := by rw [Int.add_mul_emod_self_left]; exact Int.emod_eq_of_lt hx.1 hx.2
    have e2 : (x + b * val b xs) / b = val b xs := by rw [Int.add_mul_ediv_left _ _ (by omega), Int.ediv_eq_zero_of_lt hx.1 hx.2]; omega
    rw [strip, val]
    by_cases hz : val b xs = 0
    · rw [hz, dg_zero] at ih
      rw [ih, hz, Int.mul_zero, Int.add_zero]
      by_cases hx0 : x = 0
      · rw [hx0, dg_zero]; rfl
      · rw [dg_pos hb (by omega), Int.emod_eq_of_lt hx.1 hx.2, Int.ediv_eq_zero_of_lt hx.1 hx.2, dg_zero]
        simp [hx0]
    · have hmv : 0 < val b xs := by omega
      have hp : 0 < b * val b xs := Int.mul_pos (by omega) hmv
      rw [dg_pos hb (show 0 < x + b * val b xs by omega), e1, e2, ih, dg_pos hb hmv]
theorem dg_len_le {b : Int} (hb : 2 ≤ b) (k : Nat) : ∀ n : Int, 0 ≤ n → n < b ^ k → (dg b n).length ≤ k := by
  induction k with
  | zero => intro n h0 h1; have : n = 0 := by simp at h1; omega
            rw [this, dg_zero]; simp
  | succ k ih =>
    intro n h0 h1
    by_cases hz : n = 0
    · rw [hz, dg_zero]; simp
    · rw [dg_pos hb (by omega), List.length_cons]
      have := ih (n / b) (Int.ediv_nonneg h0 (by omega)) (Int.ediv_lt_of_lt_mul (by omega) (by rw [← Int.pow_succ]; exact h1))
      omega
theorem pow_mono {b : Int} (hb : 1 ≤ b) {m n : Nat} (h : m ≤ n) : b ^ m ≤ b ^ n := by
  obtain ⟨d, rfl⟩ := Nat.exists_eq_add_of_le h
  rw [Int.pow_add]
  have h1 : 0 < b ^ m := Int.pow_pos (by omega)
  have h2 : 0 < b ^ d := Int.pow_pos (by omega)
  have := Int.mul_le_mul_of_nonneg_left (show 1 ≤ b ^ d by omega) (Int.le_of_lt h1)
  omega
theorem dg_len_ge {b : Int} (hb : 2 ≤ b) (k : Nat) (n : Int) (h0 : 0 ≤ n) (h1 : b ^ k ≤ n) : k < (dg b n).length := by
  have hl := val_lt (b := b) (by omega) (dg_dig hb n h0)
  rw [val_dg hb n h0] at hl
  apply Nat.lt_of_not_le
  intro hle
  have : b ^ (dg b n).length ≤ b ^ k := pow_mono (by omega) hle
  omega
theorem dg_inj {b m n : Int} (hb : 2 ≤ b) (hm : 0 ≤ m) (hn : 0 ≤ n) (h : dg b m = dg b n) : m = n := by
  rw [← val_dg hb m hm, ← val_dg hb n hn, h]
theorem dg_nil_iff {b n : Int} (hb : 2 ≤ b) (hn : 0 ≤ n) : dg b n = [] ↔ n = 0 := by
  constructor
  · intro h
    exact dg_inj hb hn (Int.le_refl _) (by rw [h, dg_zero])
  · rintro rfl; exact dg_zero _
end Go.Proofs.Ytpjephicbiiamaa.A

end
section
namespace Go.Proofs.Ytpjephicbiiamaa.B
set_option linter.unusedVariables false
set_option linter.unusedSimpArgs false
open Go Go.RowKit Go.Proofs.YtpjephicbiiamaaW.PrintWords Go.Proofs.YtpjephicbiiamaaW.PrintLast Go.Proofs.YtpjephicbiiamaaW.PrintMore Go.Proofs.Ytpjephicbiiamaa.F Go.Proofs.Ytpjephicbiiamaa.A
abbrev B : Int := 4294967296
theorem ev_succ {α : Type} {g : Nat → Option α} {r : α} (h : Ev (fun k => g (k + 1)) r) : Ev g r := by
  obtain ⟨K, hK⟩ := h
  refine ⟨K + 1, fun k hk => ?_⟩
  obtain ⟨m, rfl⟩ : ∃ m, k = m + 1 := ⟨k - 1, by omega⟩
  exact hK m (by omega)
theorem strip_snoc_zero (xs : List Int) : strip (xs ++ [0]) = strip xs := by
  induction xs with
  | nil => rfl
  | cons x xs ih => rw [List.cons_append, strip, strip, ih]
theorem strip_snoc (xs : List Int) {y : Int} (hy : y ≠ 0) : strip (xs ++ [y]) = xs ++ [y] := by
  induction xs with
  | nil => simp [strip, hy]
  | cons x xs ih =>
    rw [List.cons_append, strip, ih]
    cases xs <;> rfl
theorem take_succ_rd (xs : List Int) (i : Nat) (h : i < xs.length) : xs.take (i + 1) = xs.take i ++ [rd xs i] := by
  rw [List.take_succ_eq_append_getElem h, rd_nat, List.getD, List.getElem?_eq_getElem h]; rfl
theorem cast_pred (i : Nat) : ((i + 1 : Nat) : Int) - 1 = i := by omega
theorem cast_succ (i : Nat) : (i : Int) + 1 = ((i + 1 : Nat) : Int) := by omega
theorem trim_l0 (xs : List Int) (hl : xs.length < 17592186044416) : ∀ i : Nat, i ≤ xs.length → Ev (fun k => nat_trim.l0 k xs (i : Int)) (strip (xs.take i)) := by
  intro i
  induction i with
  | zero =>
    intro h
    refine ev_succ ?_
    simp only [nat_trim.l0]
    refine ev_neg (by omega) (ev_pos (by omega) (ev_pos (by omega) (ev_now ?_)))
    rfl
  | succ i ih =>
    intro h
    refine ev_succ ?_
    simp only [nat_trim.l0, cast_pred, Int.toNat_natCast]
    simp (disch := omega) only [w64]
    refine ev_pos (by omega) (ev_pos (by omega) (ev_pos (by omega) ?_))
    rw [take_succ_rd xs i (by omega)]
    refine ev_ite (fun hz => ?_) (fun hz => ?_)
    · rw [hz, strip_snoc_zero]; exact ih (by omega)
    · refine ev_pos (by omega) (ev_pos (by omega) (ev_now ?_))
      rw [strip_snoc _ hz]
theorem trim_ev (xs : List Int) (hl : xs.length < 17592186044416) : Ev (fun k => nat_trim.f k xs) (strip xs) := by
  have := trim_l0 xs hl xs.length (Nat.le_refl _)
  rwa [List.take_length] at this
theorem clean_l1 : ∀ n : Nat, ∀ xs : List Int, xs.length = n → xs.length < 17592186044416 → Ev (fun k => triviumref02_Clean.l1 k xs) (strip xs) := by
  intro n
  induction n with
  | zero =>
    intro xs hn hl
    refine ev_succ ?_
    simp only [triviumref02_Clean.l1]
    refine ev_neg (by omega) (ev_now ?_)
    rw [List.length_eq_zero_iff.1 hn]; rfl
  | succ n ih =>
    intro xs hn hl
    have e : xs = xs.take n ++ [rd xs n] := by rw [← take_succ_rd xs n (by omega), ← hn, List.take_length]
    refine ev_succ ?_
    simp only [triviumref02_Clean.l1]
    rw [hn]
    simp only [cast_pred, Int.toNat_natCast]
    simp (disch := omega) only [w64, Int.toNat_natCast]
    refine ev_pos (by omega) (ev_pos (by omega) (ev_pos (by omega) ?_))
    refine ev_ite (fun hz => ?_) (fun hz => ?_)
    · rw [hz] at e
      refine ev_pos (by omega) ?_
      conv => rhs; rw [e, strip_snoc_zero]
      exact ih _ (by rw [List.length_take]; omega) (by rw [List.length_take]; omega)
    · refine ev_now ?_
      conv => rhs; rw [e, strip_snoc _ hz]
      exact e
def cl (xs : List Int) (m : Nat) : Int := val B ((xs.take m).map (· % B))
theorem dig_map (xs : List Int) : Dig B (xs.map (· % B)) := by
  intro y hy
  obtain ⟨x, -, rfl⟩ := List.mem_map.1 hy
  exact ⟨Int.emod_nonneg _ (by decide), Int.emod_lt_of_pos _ (by decide)⟩
theorem cl_nonneg (xs : List Int) (m : Nat) : 0 ≤ cl xs m := val_nonneg (by decide) (dig_map _)
theorem cl_lt (xs : List Int) (m : Nat) : cl xs m < B ^ m := by
  have h := val_lt (b := B) (by decide) (dig_map (xs.take m))
  have h2 : ((xs.take m).map (· % B)).length ≤ m := by rw [List.length_map, List.length_take]; omega
  exact Int.lt_of_lt_of_le h (pow_mono (by decide) h2)
theorem clean_l0 (xs : List Int) (m : Nat) (hu : ∀ x ∈ xs, 0 ≤ x) (hl : xs.length < 17592186044416) : ∀ d i : Nat, min xs.length m - i = d → i ≤ min xs.length m →
    Ev (fun k => triviumref02_Clean.l0 k xs m ((xs.take i).map (· % B)) i) (strip ((xs.take m).map (· % B))) := by
  intro d
  induction d with
  | zero =>
    intro i hd hi
    have e : xs.take i = xs.take m := by
      rcases Nat.le_total xs.length m with h | h
      · rw [List.take_of_length_le (show xs.length ≤ i by omega), List.take_of_length_le h]
      · rw [show i = m by omega]
    have key : Ev (fun k => triviumref02_Clean.j1 k ((xs.take i).map (· % B))) (strip ((xs.take m).map (· % B))) := by
      refine ev_succ ?_
      simp only [triviumref02_Clean.j1]
      rw [e]
      exact clean_l1 _ _ rfl (by rw [List.length_map, List.length_take]; omega)
    refine ev_succ ?_
    simp only [triviumref02_Clean.l0]
    refine ev_ite (fun h1 => ?_) (fun h1 => key)
    exact ev_neg (by omega) key
  | succ d ih =>
    intro i hd hi
    refine ev_succ ?_
    simp only [triviumref02_Clean.l0]
    simp (disch := omega) only [w64]
    have hr : 0 ≤ rd xs i := by
      rw [rd_nat, List.getD, List.getElem?_eq_getElem (show i < xs.length by omega)]
      exact hu _ (List.getElem_mem _)
    refine ev_pos (by omega) (ev_pos (by omega) (ev_pos (by omega) (ev_pos (by rw [List.length_map, List.length_take]; omega) ?_)))
    have := ih (i + 1) (by omega) (by omega)
    rw [take_succ_rd xs i (by omega), List.map_append] at this
    rw [cast_succ, Int.tmod_eq_emod_of_nonneg hr]
    exact this
theorem clean_ev (xs : List Int) (m : Nat) (hu : ∀ x ∈ xs, 0 ≤ x) (hl : xs.length < 17592186044416) : Ev (fun k => triviumref02_Clean.f k xs m) (dg B (cl xs m)) := by
  have := clean_l0 xs m hu hl _ 0 rfl (by omega)
  rw [strip_dg (by decide) (dig_map _)] at this
  exact this
theorem same_l0 (xs ys : List Int) (hl : xs.length < 17592186044416) (he : xs.length = ys.length) : ∀ d i : Nat, xs.length - i = d → i ≤ xs.length → xs.take i = ys.take i →
    Ev (fun k => triviumref02_Same.l0 k xs ys i) (decide (xs = ys)) := by
  intro d
  induction d with
  | zero =>
    intro i hd hi hp
    refine ev_succ ?_
    simp only [triviumref02_Same.l0]
    refine ev_neg (by omega) (ev_now ?_)
    rw [List.take_of_length_le (by omega), List.take_of_length_le (by omega)] at hp
    simp [hp]
  | succ d ih =>
    intro i hd hi hp
    refine ev_succ ?_
    simp only [triviumref02_Same.l0]
    simp (disch := omega) only [w64]
    refine ev_pos (by omega) (ev_pos (by omega) (ev_pos (by omega) ?_))
    refine ev_ite (fun hr => ?_) (fun hr => ev_now ?_)
    · rw [cast_succ]
      exact ih (i + 1) (by omega) (by omega) (by rw [take_succ_rd xs i (by omega), take_succ_rd ys i (by omega), hp, hr])
    · have : xs ≠ ys := fun h => hr (by rw [h])
      simp [this]
theorem same_ev (xs ys : List Int) (hl : xs.length < 17592186044416) : Ev (fun k => triviumref02_Same.f k xs ys) (decide (xs = ys)) := by
  unfold triviumref02_Same.f
  refine ev_ite (fun h => ?_) (fun h => ev_now ?_)
  · exact same_l0 xs ys hl (by omega) _ 0 rfl (by omega) rfl
  · have : xs ≠ ys := fun e => h (by rw [e])
    simp [this]
def cmpI (x y : Int) : Int := if x < y then -1 else if y < x then 1 else 0
theorem val_lt_top {b : Int} (hb : 2 ≤ b) {p q s : List Int} {x y : Int} (hp : Dig b p) (hq : Dig b q) (hl : p.length = q.length) (hxy : x < y) :
    val b (p ++ x :: s) < val b (q ++ y :: s) := by
  rw [val_append, val_append, hl]
  have h1 := val_lt (b := b) (by omega) hp
  have h2 := val_nonneg (b := b) (by omega) hq
  have hpw : 0 < b ^ q.length := Int.pow_pos (by omega)
  have h3 : b ^ q.length * (val b (x :: s) + 1) ≤ b ^ q.length * val b (y :: s) := Int.mul_le_mul_of_nonneg_left (by simp only [val]; omega) (Int.le_of_lt hpw)
  rw [hl] at h1
  rw [Int.mul_add] at h3
  omega
theorem split_at (xs : List Int) (i : Nat) (h : i < xs.length) : xs = xs.take i ++ rd xs i :: xs.drop (i + 1) := by
  conv => lhs; rw [← List.take_append_drop (i + 1) xs, take_succ_rd xs i h]
  simp
theorem cmp_l0 {b : Int} (hb : 2 ≤ b) (f : Nat → List Int → List Int → Int → Option Int)
    (hf : ∀ k x0 x1 x5, f (k + 1) x0 x1 x5 = if x5 ≥ 0 then (if 0 ≤ x5 then (if x5 < (x0.length : Int) then (if x5 < (x1.length : Int) then (if (rd x0 x5) < (rd x1 x5) then (some (-1)) else (if (rd x0 x5) > (rd x1 x5) then (some 1) else (f k x0 x1 (wrap64 (x5 - 1))))) else (none)) else (none)) else (none)) else (some 0))
    (xs ys : List Int) (hx : Dig b xs) (hy : Dig b ys) (hl : xs.length < 17592186044416) (he : xs.length = ys.length) : ∀ i : Nat, i ≤ xs.length → xs.drop i = ys.drop i →
    Ev (fun k => f k xs ys ((i : Int) - 1)) (cmpI (val b xs) (val b ys)) := by
  intro i
  induction i with
  | zero =>
    intro hi hp
    refine ev_succ ?_
    simp only [hf]
    refine ev_neg (by omega) (ev_now ?_)
    simp only [List.drop_zero] at hp
    simp [cmpI, hp]
  | succ i ih =>
    intro hi hp
    refine ev_succ ?_
    simp only [hf, cast_pred]
    simp (disch := omega) only [w64]
    refine ev_pos (by omega) (ev_pos (by omega) (ev_pos (by omega) (ev_pos (by omega) ?_)))
    have ex := split_at xs i (by omega)
    have ey := split_at ys i (by omega)
    rw [← hp] at ey
    refine ev_ite (fun hr => ev_now ?_) (fun hr => ev_ite (fun hr' => ev_now ?_) (fun hr' => ?_))
    · have := val_lt_top hb (s := xs.drop (i + 1)) (hx.take i) (hy.take i) (by simp; omega) hr
      rw [← ex, ← ey] at this
      simp [cmpI, this]
    · have := val_lt_top hb (s := xs.drop (i + 1)) (hy.take i) (hx.take i) (by simp; omega) hr'
      rw [← ex, ← ey] at this
      simp [cmpI, this, Int.not_lt.2 (Int.le_of_lt this)]
    · refine ih (by omega) ?_
      have e : rd xs i = rd ys i := by omega
      have gx : xs.drop i = rd xs i :: xs.drop (i + 1) := by
        rw [List.drop_eq_getElem_cons (show i < xs.length by omega), rd_nat, List.getD, List.getElem?_eq_getElem (show i < xs.length by omega)]; rfl
      have gy : ys.drop i = rd ys i :: ys.drop (i + 1) := by
        rw [List.drop_eq_getElem_cons (show i < ys.length by omega), rd_nat, List.getD, List.getElem?_eq_getElem (show i < ys.length by omega)]; rfl
      rw [gx, gy, e, hp]
theorem dg_lt_of_len {b x y : Int} (hb : 2 ≤ b) (hx : 0 ≤ x) (hy : 0 ≤ y) (h : (dg b x).length < (dg b y).length) : x < y := by
  apply Int.lt_of_not_ge
  intro hge
  have h1 := val_lt (b := b) (by omega) (dg_dig hb x hx)
  rw [val_dg hb x hx] at h1
  have := dg_len_le hb _ y hy (Int.lt_of_le_of_lt hge h1)
  omega
theorem cmp_ev {x y : Int} (hx : 0 ≤ x) (hy : 0 ≤ y) (hl : (dg B x).length < 17592186044416) : Ev (fun k => nat_Cmp.f k (dg B x) (dg B y)) (cmpI x y) := by
  have hb : (2 : Int) ≤ B := by decide
  unfold nat_Cmp.f
  refine ev_ite (fun h => ev_now ?_) (fun h => ev_ite (fun h' => ev_now ?_) (fun h' => ?_))
  · have := dg_lt_of_len hb hx hy (by omega)
    simp [cmpI, this]
  · have := dg_lt_of_len hb hy hx (by omega)
    simp [cmpI, this, Int.not_lt.2 (Int.le_of_lt this)]
  · simp (disch := omega) only [w64]
    have := cmp_l0 hb nat_Cmp.l0 (fun _ _ _ _ => rfl) (dg B x) (dg B y) (dg_dig hb x hx) (dg_dig hb y hy) hl (by omega) _ (Nat.le_refl _) (by rw [List.drop_length, List.drop_eq_nil_of_le (by omega)])
    rwa [val_dg hb x hx, val_dg hb y hy] at this
end Go.Proofs.Ytpjephicbiiamaa.B

end
section
namespace Go.Proofs.Ytpjephicbiiamaa.B
set_option linter.unusedVariables false
set_option linter.unusedSimpArgs false
open Go Go.RowKit Go.Proofs.YtpjephicbiiamaaW.PrintWords Go.Proofs.YtpjephicbiiamaaW.PrintLast Go.Proofs.YtpjephicbiiamaaW.PrintMore Go.Proofs.Ytpjephicbiiamaa.F Go.Proofs.Ytpjephicbiiamaa.A
theorem hB : (2 : Int) ≤ B := by decide
theorem pow_base_mono {a b : Int} (ha : 0 ≤ a) (h : a ≤ b) : ∀ k : Nat, a ^ k ≤ b ^ k
  | 0 => by simp
  | k + 1 => by
    rw [Int.pow_succ, Int.pow_succ]
    have h1 : 0 ≤ a ^ k := Int.pow_nonneg ha
    exact Int.mul_le_mul (pow_base_mono ha h k) h ha (by have := pow_base_mono ha h k; omega)
theorem len_le {b x : Int} (hb : 2 ≤ b) {K : Nat} (h0 : 0 ≤ x) (h1 : x < 2 ^ K) : (dg b x).length ≤ K :=
  dg_len_le hb K x h0 (Int.lt_of_lt_of_le h1 (pow_base_mono (by decide) hb K))
theorem ediv_tdiv {a b : Int} (h : 0 ≤ a) : Int.tdiv a b = a / b := Int.tdiv_eq_ediv_of_nonneg h
theorem emod_tmod {a b : Int} (h : 0 ≤ a) : Int.tmod a b = a % b := Int.tmod_eq_emod_of_nonneg h
theorem drop_rd (xs : List Int) (i : Nat) (h : i < xs.length) : xs.drop i = rd xs i :: xs.drop (i + 1) := by
  rw [List.drop_eq_getElem_cons h, rd_nat, List.getD, List.getElem?_eq_getElem h]; rfl
theorem rd_nonneg_lt {b : Int} {xs : List Int} (h : Dig b xs) {i : Nat} (hi : i < xs.length) : 0 ≤ rd xs i ∧ rd xs i < b := h.rd (by omega) (by omega)
end Go.Proofs.Ytpjephicbiiamaa.B

end
section
namespace Go.Proofs.Ytpjephicbiiamaa.B
set_option linter.unusedVariables false
set_option linter.unusedSimpArgs false
open Go Go.RowKit Go.Proofs.YtpjephicbiiamaaW.PrintWords Go.Proofs.YtpjephicbiiamaaW.PrintLast Go.Proofs.YtpjephicbiiamaaW.PrintMore Go.Proofs.Ytpjephicbiiamaa.F Go.Proofs.Ytpjephicbiiamaa.A
theorem limb_add {a b c : Int} (ha0 : 0 ≤ a) (ha : a < B) (hb0 : 0 ≤ b) (hb : b < B) (hc0 : 0 ≤ c) (hc : c < B) : limb_Add.f a b c = some ((a + b + c) % B, (a + b + c) / B) := by
  simp only [B] at *
  unfold limb_Add.f
  rw [mask32 ha0 (by omega), mask32 hb0 (by omega), mask32 hc0 (by omega), Int.emod_eq_of_lt ha0 ha, Int.emod_eq_of_lt hb0 hb, Int.emod_eq_of_lt hc0 hc]
  simp (disch := omega) only [wu64]
  rw [mask32 (by omega) (by omega)]
theorem limb_sub {a b c : Int} (ha0 : 0 ≤ a) (ha : a < B) (hb0 : 0 ≤ b) (hb : b < B) (hc0 : 0 ≤ c) (hc : c ≤ 1) :
    limb_Sub.f a b c = some (if a < b + c then (a + B - (b + c), 1) else (a - (b + c), 0)) := by
  simp only [B] at *
  unfold limb_Sub.f
  rw [mask32 ha0 (by omega), mask32 hb0 (by omega), mask32 hc0 (by omega), Int.emod_eq_of_lt ha0 ha, Int.emod_eq_of_lt hb0 hb, Int.emod_eq_of_lt hc0 (show c < 4294967296 by omega)]
  by_cases h : a < b + c
  · rw [wu64 (x := b + c) (by omega) (by omega), if_pos h, if_pos h, wu64 (x := b + c - a) (by omega) (by omega), wu64 (x := b + c - a + 4294967295) (by omega) (by omega)]
    have e : (b + c - a + 4294967295) / 4294967296 = 1 := by omega
    rw [e, Int.one_mul, wu64 (x := (4294967296 : Int)) (by omega) (by omega), wu64 (x := a + 4294967296) (by omega) (by omega), wu64 (by omega) (by omega)]
  · rw [wu64 (x := b + c) (by omega) (by omega), if_neg h, if_neg h]
    simp (disch := omega) only [wu64, Int.zero_mul, Int.add_zero]
theorem rd_ge (xs : List Int) {i : Int} (h : (xs.length : Int) ≤ i) : rd xs i = 0 := by
  unfold rd
  rw [List.getD, List.getElem?_eq_none (by omega)]; rfl
theorem at_eq (xs : List Int) {i : Int} (h : 0 ≤ i) : nat_at.f xs i = some (rd xs i) := by
  unfold nat_at.f
  by_cases hi : i ≥ (xs.length : Int)
  · rw [if_pos hi, rd_ge xs hi]
  · rw [if_neg hi, if_pos h, if_pos (by omega)]
theorem val_drop (b : Int) (xs : List Int) (i : Nat) : val b (xs.drop i) = rd xs i + b * val b (xs.drop (i + 1)) := by
  by_cases h : i < xs.length
  · rw [drop_rd xs i h]; rfl
  · rw [List.drop_eq_nil_of_le (by omega), List.drop_eq_nil_of_le (by omega), rd_ge xs (by omega)]; simp [val]
theorem dig_rd0 {b : Int} (hb : 0 < b) {xs : List Int} (h : Dig b xs) (i : Nat) : 0 ≤ rd xs i ∧ rd xs i < b := by
  by_cases hi : i < xs.length
  · exact rd_nonneg_lt h hi
  · rw [rd_ge xs (by omega)]; omega
theorem set_pre (pre : List Int) (m : Nat) (v : Int) {i : Nat} (h : pre.length = i) : (pre ++ List.replicate (m + 1) 0).set i v = (pre ++ [v]) ++ List.replicate m 0 := by
  subst h
  rw [List.set_append_right _ _ (Nat.le_refl _), Nat.sub_self, List.replicate_succ, List.set_cons_zero]
  simp
theorem mx_nat (a b : Nat) : mx (a : Int) (b : Int) = ((max a b : Nat) : Int) := by unfold mx; split <;> omega
theorem add_l0 (xs ys : List Int) (hx : Dig B xs) (hy : Dig B ys) (n : Nat) (hn : n = max xs.length ys.length) (hl : n < 1099511627776) : ∀ d i : Nat, n - i = d → i ≤ n → ∀ (pre : List Int) (c : Int), Dig B pre → pre.length = i → 0 ≤ c → c ≤ 1 →
    Ev (fun k => nat_Add.l0 k xs ys n (pre ++ List.replicate (n + 1 - i) 0) c n i) (dg B (val B pre + B ^ i * (c + val B (xs.drop i) + val B (ys.drop i)))) := by
  intro d
  induction d with
  | zero =>
    intro i hd hi pre c hp hpl hc0 hc
    have hin : i = n := by omega
    subst hin
    refine ev_succ ?_
    simp only [nat_Add.l0]
    rw [show i + 1 - i = 0 + 1 by omega, Int.toNat_natCast, set_pre pre 0 c hpl, List.drop_eq_nil_of_le (by omega), List.drop_eq_nil_of_le (by omega)]
    refine ev_neg (by omega) (ev_pos (by omega) (ev_pos (by simp; omega) (ev_bind (trim_ev _ (by simp; omega)) (ev_now ?_))))
    have hdg : Dig B (pre ++ [c] ++ List.replicate 0 0) := by
      simp only [List.replicate_zero, List.append_nil]
      exact hp.append (Dig.nil.cons hc0 (by simp only [B]; omega))
    rw [strip_dg hB hdg]
    simp only [List.replicate_zero, List.append_nil, val_append, val, hpl, Int.mul_zero, Int.add_zero]
  | succ d ih =>
    intro i hd hi pre c hp hpl hc0 hc
    have h1 := dig_rd0 (by decide) hx i
    have h2 := dig_rd0 (by decide) hy i
    refine ev_succ ?_
    simp only [nat_Add.l0]
    rw [show n + 1 - i = (n - i) + 1 by omega, Int.toNat_natCast]
    refine ev_pos (by omega) (ev_eq (at_eq xs (by omega)) (ev_eq (at_eq ys (by omega)) (ev_eq (limb_add h1.1 h1.2 h2.1 h2.2 hc0 (by simp only [B]; omega)) ?_)))
    simp only [B] at h1 h2
    dsimp only
    rw [set_pre pre (n - i) _ hpl]
    simp (disch := omega) only [w64]
    refine ev_pos (by omega) (ev_pos (by simp; omega) ?_)
    have := ih (i + 1) (by omega) (by omega) (pre ++ [(rd xs i + rd ys i + c) % B]) ((rd xs i + rd ys i + c) / B) (hp.append (Dig.nil.cons (by simp only [B]; omega) (by simp only [B]; omega))) (by simp [hpl]) (by simp only [B]; omega) (by simp only [B]; omega)
    rw [show n + 1 - (i + 1) = n - i by omega] at this
    have e : val B (pre ++ [(rd xs i + rd ys i + c) % B]) + B ^ (i + 1) * ((rd xs i + rd ys i + c) / B + val B (xs.drop (i + 1)) + val B (ys.drop (i + 1))) = val B pre + B ^ i * (c + val B (xs.drop i) + val B (ys.drop i)) := by
      rw [val_append, hpl, val_drop B xs i, val_drop B ys i, Int.pow_succ, Int.mul_assoc, Int.add_assoc, ← Int.mul_add]
      congr 2
      simp only [val, B, Int.mul_zero, Int.add_zero]
      omega
    rw [e] at this
    exact this
theorem add_dig (xs ys : List Int) (hx : Dig B xs) (hy : Dig B ys) (hl1 : xs.length < 1099511627776) (hl2 : ys.length < 1099511627776) : Ev (fun k => nat_Add.f k xs ys) (dg B (val B xs + val B ys)) := by
  have := add_l0 xs ys hx hy (max xs.length ys.length) rfl (by omega) _ 0 rfl (by omega) [] 0 Dig.nil rfl (Int.le_refl _) (by decide)
  unfold nat_Add.f
  rw [mx_nat]
  simp (disch := omega) only [w64]
  refine ev_pos (by omega) (ev_pos (by omega) ?_)
  rw [show (((max xs.length ys.length : Nat) : Int) + 1).toNat = max xs.length ys.length + 1 by omega]
  simpa [val] using this
theorem add_ev {x y : Int} (hx : 0 ≤ x) (hy : 0 ≤ y) (hl1 : (dg B x).length < 1099511627776) (hl2 : (dg B y).length < 1099511627776) : Ev (fun k => nat_Add.f k (dg B x) (dg B y)) (dg B (x + y)) := by
  have := add_dig _ _ (dg_dig hB x hx) (dg_dig hB y hy) hl1 hl2
  rwa [val_dg hB x hx, val_dg hB y hy] at this
theorem sub_l0 (xs ys : List Int) (hx : Dig B xs) (hy : Dig B ys) (hle : ys.length ≤ xs.length) (hv : val B ys ≤ val B xs) (hl : xs.length < 1099511627776) : ∀ d i : Nat, xs.length - i = d → i ≤ xs.length → ∀ (pre : List Int) (c : Int), Dig B pre → pre.length = i → 0 ≤ c → c ≤ 1 →
    val B pre + B ^ i * (val B (xs.drop i) - val B (ys.drop i) - c) = val B xs - val B ys →
    Ev (fun k => nat_Sub.l0 k xs ys (pre ++ List.replicate (xs.length - i) 0) c xs.length i) (dg B (val B xs - val B ys), 0) := by
  intro d
  induction d with
  | zero =>
    intro i hd hi pre c hp hpl hc0 hc he
    have hin : i = xs.length := by omega
    subst hin
    refine ev_succ ?_
    simp only [nat_Sub.l0]
    rw [Nat.sub_self, List.replicate_zero, List.append_nil]
    refine ev_neg (by omega) (ev_bind (trim_ev _ (by omega)) (ev_now ?_))
    rw [List.drop_eq_nil_of_le (by omega), List.drop_eq_nil_of_le (by omega)] at he
    simp only [val, Int.sub_self, Int.zero_sub] at he
    have h1 := val_lt (b := B) (by decide) hp
    rw [hpl] at h1
    have hc : c = 0 := by
      rcases (show c = 0 ∨ c = 1 by omega) with h | h
      · exact h
      · rw [h, Int.mul_neg, Int.mul_one] at he; omega
    rw [hc, Int.neg_zero, Int.mul_zero, Int.add_zero] at he
    rw [strip_dg hB hp, he]
  | succ d ih =>
    intro i hd hi pre c hp hpl hc0 hc he
    have h1 := dig_rd0 (by decide) hx i
    have h2 := dig_rd0 (by decide) hy i
    refine ev_succ ?_
    simp only [nat_Sub.l0]
    rw [show xs.length - i = (xs.length - (i + 1)) + 1 by omega, Int.toNat_natCast]
    refine ev_pos (by omega) (ev_pos (by omega) (ev_pos (by omega) (ev_eq (at_eq ys (by omega)) (ev_eq (limb_sub h1.1 h1.2 h2.1 h2.2 hc0 hc) ?_))))
    rw [set_pre pre _ _ hpl]
    simp (disch := omega) only [w64]
    refine ev_pos (by simp; omega) ?_
    rw [cast_succ]
    have step : ∀ v c' : Int, 0 ≤ v → v < B → v - B * c' = rd xs i - rd ys i - c → val B (pre ++ [v]) + B ^ (i + 1) * (val B (xs.drop (i + 1)) - val B (ys.drop (i + 1)) - c') = val B xs - val B ys := by
      intro v c' hv0 hv1 hvc
      rw [← he, val_append, hpl, val_drop B xs i, val_drop B ys i, Int.pow_succ, Int.mul_assoc, Int.add_assoc, ← Int.mul_add]
      congr 2
      simp only [val, B, Int.mul_zero, Int.add_zero] at *
      omega
    by_cases h : rd xs i < rd ys i + c
    · rw [if_pos h]
      simp only [B] at h1 h2
      exact ih (i + 1) (by omega) (by omega) (pre ++ [rd xs i + B - (rd ys i + c)]) 1 (hp.append (Dig.nil.cons (by simp only [B]; omega) (by simp only [B]; omega))) (by simp [hpl]) (by omega) (by omega) (step _ _ (by simp only [B]; omega) (by simp only [B]; omega) (by simp only [B]; omega))
    · rw [if_neg h]
      simp only [B] at h1 h2
      exact ih (i + 1) (by omega) (by omega) (pre ++ [rd xs i - (rd ys i + c)]) 0 (hp.append (Dig.nil.cons (by (try simp only [B]); omega) (by (try simp only [B]); omega))) (by simp [hpl]) (by omega) (by omega) (step _ _ (by (try simp only [B]); omega) (by (try simp only [B]); omega) (by (try simp only [B]); omega))
theorem dg_len_mono {b x y : Int} (hb : 2 ≤ b) (hx : 0 ≤ x) (h : x ≤ y) : (dg b x).length ≤ (dg b y).length := by
  apply dg_len_le hb _ _ hx
  have h1 := val_lt (b := b) (by omega) (dg_dig hb y (by omega))
  rw [val_dg hb y (by omega)] at h1
  omega
theorem sub_ev {x y : Int} (hy : 0 ≤ y) (hxy : y ≤ x) (hl1 : (dg B x).length < 1099511627776) : Ev (fun k => nat_Sub.f k (dg B x) (dg B y)) (dg B (x - y), 0) := by
  have hx : 0 ≤ x := by omega
  unfold nat_Sub.f
  refine ev_bind (cmp_ev hx hy (by omega)) (ev_neg ?_ (ev_pos (by omega) (ev_pos (by omega) ?_)))
  · unfold cmpI; split <;> (try split) <;> omega
  · simp only [Option.bind_some, List.length_replicate, Int.toNat_natCast]
    have hle := dg_len_mono hB hy hxy
    have := sub_l0 (dg B x) (dg B y) (dg_dig hB x hx) (dg_dig hB y hy) hle (by rw [val_dg hB x hx, val_dg hB y hy]; exact hxy) hl1 _ 0 rfl (by omega) [] 0 Dig.nil rfl (Int.le_refl _) (by decide) (by simp [val])
    rw [val_dg hB x hx, val_dg hB y hy] at this
    exact this
def bnd (K : Nat) : Int := 2 ^ K
theorem bnd_len {b x : Int} {K : Nat} (hb : 2 ≤ b) (h0 : 0 ≤ x) (h1 : x < bnd K) : (dg b x).length ≤ K := len_le hb h0 h1
theorem bnd_succ (K : Nat) : bnd (K + 1) = 2 * bnd K := by unfold bnd; rw [Int.pow_succ, Int.mul_comm]
theorem bnd_add (K L : Nat) : bnd (K + L) = bnd K * bnd L := by unfold bnd; rw [Int.pow_add]
theorem cl_bnd (xs : List Int) (m : Nat) : cl xs m < bnd (32 * m) := by
  have := cl_lt xs m
  have e : B = (2 : Int) ^ 32 := by decide
  rw [e, ← Int.pow_mul] at this
  exact this
end Go.Proofs.Ytpjephicbiiamaa.B

end
section
namespace Go.Proofs.Ytpjephicbiiamaa.B
set_option linter.unusedVariables false
set_option linter.unusedSimpArgs false
open Go Go.RowKit Go.Proofs.YtpjephicbiiamaaW.PrintWords Go.Proofs.YtpjephicbiiamaaW.PrintLast Go.Proofs.YtpjephicbiiamaaW.PrintMore Go.Proofs.Ytpjephicbiiamaa.F Go.Proofs.Ytpjephicbiiamaa.A
theorem len2_eq {x : Int} {n : Nat} (h0 : 2 ^ n ≤ x) (h1 : x < 2 ^ (n + 1)) : (dg 2 x).length = n + 1 := by
  have hp : (0 : Int) < 2 ^ n := Int.pow_pos (by decide)
  have a := dg_len_le (b := 2) (by decide) (n + 1) x (by omega) h1
  have c := dg_len_ge (b := 2) (by decide) n x (by omega) h0
  omega
theorem emod_pow_succ (x : Int) (k : Nat) : x % 2 ^ (k + 1) = x % 2 ^ k + 2 ^ k * (x / 2 ^ k % 2) := by
  have hp : (0 : Int) < 2 ^ k := Int.pow_pos (by decide)
  have h1 := Int.mul_ediv_add_emod x (2 ^ k)
  have h2 := Int.mul_ediv_add_emod (x / 2 ^ k) 2
  have h3 : (0 : Int) ≤ x % 2 ^ k := Int.emod_nonneg _ (by omega)
  have h4 : x % 2 ^ k < 2 ^ k := Int.emod_lt_of_pos _ hp
  have h5 : (x / 2 ^ k % 2) = 0 ∨ (x / 2 ^ k % 2) = 1 := by omega
  have e : x = 2 ^ (k + 1) * (x / 2 ^ k / 2) + (x % 2 ^ k + 2 ^ k * (x / 2 ^ k % 2)) := by
    have : (2 : Int) ^ (k + 1) * (x / 2 ^ k / 2) = 2 ^ k * (2 * (x / 2 ^ k / 2)) := by rw [Int.pow_succ, Int.mul_assoc]
    rw [this]
    have : 2 ^ k * (2 * (x / 2 ^ k / 2)) + 2 ^ k * (x / 2 ^ k % 2) = 2 ^ k * (x / 2 ^ k) := by rw [← Int.mul_add, h2]
    omega
  conv => lhs; rw [e]
  rw [Int.mul_add_emod_self_left, Int.emod_eq_of_lt]
  · rcases h5 with h | h <;> rw [h] <;> omega
  · rw [Int.pow_succ]
    rcases h5 with h | h <;> rw [h] <;> omega
theorem shr_eq {x : Int} (i : Nat) (hi : i ≤ 64) : shr .u64 x (i : Int) = x / 2 ^ i := by
  unfold shr
  rw [Int.toNat_natCast, show min i IntKind.u64.bits = i by simp [IntKind.bits]; omega]
theorem shl_eq {x : Int} (i : Nat) (hi : i ≤ 64) (h0 : 0 ≤ x * 2 ^ i) (h1 : x * 2 ^ i ≤ 18446744073709551615) : shl .u64 x (i : Int) = x * 2 ^ i := by
  unfold shl
  rw [Int.toNat_natCast, show min i IntKind.u64.bits = i by simp [IntKind.bits]; omega, wu64 h0 h1]
theorem ediv_le_self' {x : Int} (h : 0 ≤ x) (k : Nat) : 0 ≤ x / 2 ^ k ∧ x / 2 ^ k ≤ x := by
  have hp : (0 : Int) < 2 ^ k := Int.pow_pos (by decide)
  exact ⟨Int.ediv_nonneg h (by omega), Int.ediv_le_self _ h⟩
theorem limb_bits_l0 {x : Int} (h0 : 0 ≤ x) (h1 : x < B) : ∀ d i : Nat, 32 - i = d → i ≤ 32 → Ev (fun k => limb_Bits.l0 k x ((dg 2 (x % 2 ^ i)).length : Int) i) ((dg 2 x).length : Int) := by
  intro d
  induction d with
  | zero =>
    intro i hd hi
    have : i = 32 := by omega
    subst this
    refine ev_succ ?_
    simp only [limb_Bits.l0]
    refine ev_neg (by omega) (ev_now ?_)
    rw [Int.emod_eq_of_lt h0 (by simp only [B] at h1; omega)]
  | succ d ih =>
    intro i hd hi
    have hs := ediv_le_self' h0 i
    simp only [B] at h1
    refine ev_succ ?_
    simp only [limb_Bits.l0]
    rw [shr_eq i (by omega), bit1 hs.1 (by omega)]
    simp (disch := omega) only [w64]
    refine ev_pos (by omega) (ev_pos (by omega) ?_)
    have hp : (0 : Int) < 2 ^ i := Int.pow_pos (by decide)
    have a3 : (0 : Int) ≤ x % 2 ^ i := Int.emod_nonneg _ (by omega)
    have a4 : x % 2 ^ i < 2 ^ i := Int.emod_lt_of_pos _ hp
    have := ih (i + 1) (by omega) (by omega)
    rw [emod_pow_succ] at this
    refine ev_ite (fun hb => ?_) (fun hb => ?_)
    · rw [hb, Int.mul_one, len2_eq (n := i) (by omega) (by rw [Int.pow_succ]; omega)] at this
      exact this
    · rw [show x / 2 ^ i % 2 = 0 by omega, Int.mul_zero, Int.add_zero] at this
      exact this
theorem limb_bits {x : Int} (h0 : 0 ≤ x) (h1 : x < B) : Ev (fun k => limb_Bits.f k x) ((dg 2 x).length : Int) := by
  have := limb_bits_l0 h0 h1 _ 0 rfl (by omega)
  rw [show x % 2 ^ 0 = 0 by simp [Int.emod_one], dg_zero] at this
  exact this
theorem rd_last_ne {b n : Int} (hb : 2 ≤ b) : ∀ n : Int, 0 ≤ n → 0 < n → rd (dg b n) (((dg b n).length : Int) - 1) ≠ 0 := by
  refine dg_ind hb ?_ ?_
  · intro h; omega
  · intro n hn ih _
    rw [dg_pos hb hn]
    by_cases hz : n / b = 0
    · rw [hz, dg_zero]
      simp only [List.length_cons, List.length_nil]
      have : n % b = n := by have := Int.mul_ediv_add_emod n b; rw [hz] at this; omega
      rw [this]
      simp [rd]; omega
    · have hq : 0 < n / b := by have : 0 ≤ n / b := Int.ediv_nonneg (by omega) (by omega); omega
      have := ih hq
      have hne : (dg b (n / b)).length ≠ 0 := by
        intro h
        have := (dg_nil_iff hb (Int.le_of_lt hq)).1 (List.length_eq_zero_iff.1 h)
        omega
      obtain ⟨m, hm⟩ : ∃ m, (dg b (n / b)).length = m + 1 := ⟨_, (Nat.succ_pred_eq_of_ne_zero hne).symm⟩
      rw [hm] at this
      rw [List.length_cons, hm]
      simp only [rd] at *
      rw [show (((m + 1 + 1 : Nat) : Int) - 1).toNat = m + 1 by omega]
      rw [show (((m + 1 : Nat) : Int) - 1).toNat = m by omega] at this
      simpa using this
theorem bits_ev {x : Int} (hx : 0 ≤ x) (hl : (dg B x).length < 1099511627776) : Ev (fun k => nat_Bits.f k (dg B x)) ((dg 2 x).length : Int) := by
  unfold nat_Bits.f
  simp (disch := omega) only [w64]
  by_cases hz : x = 0
  · subst hz
    refine ev_pos (by rw [dg_zero]; simp) (ev_now (by rw [dg_zero]; rfl))
  · have hpos : 0 < x := by omega
    have hne : (dg B x).length ≠ 0 := by
      intro h
      exact hz ((dg_nil_iff hB hx).1 (List.length_eq_zero_iff.1 h))
    obtain ⟨m, hm⟩ : ∃ m, (dg B x).length = m + 1 := ⟨_, (Nat.succ_pred_eq_of_ne_zero hne).symm⟩
    have htop := rd_last_ne (n := x) hB x hx hpos
    have hdig := dg_dig hB x hx
    rw [hm] at htop ⊢
    rw [cast_pred] at htop ⊢
    have ht := rd_nonneg_lt hdig (show m < (dg B x).length by omega)
    refine ev_neg (by omega) (ev_pos (by omega) (ev_pos (by omega) (ev_bind (limb_bits ht.1 ht.2) (ev_now ?_))))
    have hsp := split_at (dg B x) m (by omega)
    have hdrop : (dg B x).drop (m + 1) = [] := List.drop_eq_nil_of_le (by omega)
    rw [hdrop] at hsp
    have hv := val_dg hB x hx
    rw [hsp, val_append, List.length_take, Nat.min_eq_left (by omega)] at hv
    simp only [val, Int.mul_zero, Int.add_zero] at hv
    generalize ht' : rd (dg B x) (m : Int) = t at *
    have hlow0 := val_nonneg (b := B) (by decide) (hdig.take m)
    have hlow1 := val_lt (b := B) (by decide) (hdig.take m)
    rw [List.length_take, Nat.min_eq_left (by omega)] at hlow1
    obtain ⟨n, hn⟩ : ∃ n, (dg 2 t).length = n + 1 := by
      refine ⟨(dg 2 t).length - 1, ?_⟩
      have : (dg 2 t).length ≠ 0 := by
        intro h
        exact htop ((dg_nil_iff (by decide) ht.1).1 (List.length_eq_zero_iff.1 h))
      omega
    have t1 := val_lt (b := 2) (by decide) (dg_dig (b := 2) (by decide) t ht.1)
    rw [val_dg (by decide) t ht.1, hn] at t1
    have t0 : (2 : Int) ^ n ≤ t := by
      apply Int.le_of_not_gt
      intro hgt
      have := dg_len_le (b := 2) (by decide) n t ht.1 hgt
      omega
    have hn32 : n + 1 ≤ 32 := by
      have := dg_len_le (b := 2) (by decide) 32 t ht.1 (by have := ht.2; simp only [B] at this; omega)
      omega
    have hpB : (B : Int) ^ m = 2 ^ (32 * m) := by
      have e : (B : Int) = 2 ^ 32 := by decide
      rw [e, ← Int.pow_mul]
    have hP : (0 : Int) < B ^ m := Int.pow_pos (by decide)
    have lo : (2 : Int) ^ (32 * m + n) ≤ x := by
      rw [Int.pow_add, ← hpB, ← hv]
      have := Int.mul_le_mul_of_nonneg_left t0 (Int.le_of_lt hP)
      omega
    have hi : x < (2 : Int) ^ (32 * m + n + 1) := by
      rw [Nat.add_assoc, Int.pow_add, ← hpB, ← hv]
      have := Int.mul_le_mul_of_nonneg_left (show t + 1 ≤ 2 ^ (n + 1) by omega) (Int.le_of_lt hP)
      rw [Int.mul_add] at this
      omega
    rw [len2_eq lo hi]
    simp (disch := omega) only [w64]
    omega
def Tz (x : Int) (z : Nat) : Prop := ∃ o : Int, 0 ≤ o ∧ x = 2 ^ z * (2 * o + 1)
theorem Tz.uniq {x : Int} : ∀ {z z' : Nat}, Tz x z → Tz x z' → z = z'
  | 0, 0, _, _ => rfl
  | 0, z' + 1, ⟨o, _, h⟩, ⟨o', _, h'⟩ => by
    rw [Int.pow_succ, Int.mul_comm (2 ^ z') 2, Int.mul_assoc] at h'
    simp only [Int.pow_zero, Int.one_mul] at h
    omega
  | z + 1, 0, ⟨o, _, h⟩, ⟨o', _, h'⟩ => by
    rw [Int.pow_succ, Int.mul_comm (2 ^ z) 2, Int.mul_assoc] at h
    simp only [Int.pow_zero, Int.one_mul] at h'
    omega
  | z + 1, z' + 1, ⟨o, a, h⟩, ⟨o', a', h'⟩ => by
    rw [Int.pow_succ, Int.mul_comm (2 ^ z) 2, Int.mul_assoc] at h
    rw [Int.pow_succ, Int.mul_comm (2 ^ z') 2, Int.mul_assoc] at h'
    have := Tz.uniq (x := x / 2) (z := z) (z' := z') ⟨o, a, by omega⟩ ⟨o', a', by omega⟩
    omega
theorem Tz.ex {x : Int} (hx : 0 < x) : ∃ z, Tz x z := by
  refine dg_ind (b := 2) (by decide) (P := fun x => 0 < x → ∃ z, Tz x z) (by intro h; omega) ?_ x (by omega) hx
  intro n hn ih _
  by_cases h : n % 2 = 1
  · exact ⟨0, n / 2, by omega, by simp; omega⟩
  · obtain ⟨z, o, ho, e⟩ := ih (by omega)
    refine ⟨z + 1, o, ho, ?_⟩
    rw [Int.pow_succ, Int.mul_comm (2 ^ z) 2, Int.mul_assoc, ← e]
    omega
theorem Tz.pos {x : Int} {z : Nat} (h : Tz x z) : 0 < x := by
  obtain ⟨o, ho, e⟩ := h
  rw [e]
  exact Int.mul_pos (Int.pow_pos (by decide)) (by omega)
theorem Tz.shift {x : Int} {z : Nat} (h : Tz x z) (n : Nat) : Tz (x * 2 ^ n) (z + n) := by
  obtain ⟨o, ho, e⟩ := h
  refine ⟨o, ho, ?_⟩
  rw [e, Int.pow_add, Int.mul_right_comm]
theorem tz_lt {x : Int} {z n : Nat} (h : Tz x z) (hn : x < 2 ^ n) : z < n := by
  apply Nat.lt_of_not_le
  intro hle
  obtain ⟨o, ho, e⟩ := h
  have h1 : (2 : Int) ^ n ≤ 2 ^ z := pow_mono (by decide) hle
  have hp : (0 : Int) < 2 ^ z := Int.pow_pos (by decide)
  have := Int.mul_le_mul_of_nonneg_left (show 1 ≤ 2 * o + 1 by omega) (Int.le_of_lt hp)
  omega
theorem tz_bit {x : Int} {z : Nat} (h : Tz x z) : x / 2 ^ z % 2 = 1 ∧ ∀ i, i < z → x / 2 ^ i % 2 = 0 := by
  obtain ⟨o, ho, e⟩ := h
  constructor
  · rw [e, Int.mul_ediv_cancel_left _ (by have : (0 : Int) < 2 ^ z := Int.pow_pos (by decide); omega)]; omega
  · intro i hi
    obtain ⟨d, rfl⟩ := Nat.exists_eq_add_of_lt hi
    rw [e, show i + d + 1 = i + (d + 1) by omega, Int.pow_add, Int.mul_assoc, Int.mul_ediv_cancel_left _ (by have : (0 : Int) < 2 ^ i := Int.pow_pos (by decide); omega), Int.pow_succ, Int.mul_comm (2 ^ d) 2, Int.mul_assoc]
    omega
theorem limb_zeros_l0 {x : Int} (h0 : 0 ≤ x) (h1 : x < B) {z : Nat} (hz : Tz x z) (hz32 : z < 32) : ∀ d i : Nat, z - i = d → i ≤ z → Ev (fun k => limb_Zeros.l0 k x i) (z : Int) := by
  intro d
  induction d with
  | zero =>
    intro i hd hi
    have hiz : i = z := by omega
    subst hiz
    have hs := ediv_le_self' h0 i
    simp only [B] at h1
    refine ev_succ ?_
    simp only [limb_Zeros.l0]
    rw [shr_eq i (by omega), bit1 hs.1 (by omega)]
    exact ev_pos (by omega) (ev_pos (by omega) (ev_pos (tz_bit hz).1 (ev_now rfl)))
  | succ d ih =>
    intro i hd hi
    have hs := ediv_le_self' h0 i
    simp only [B] at h1
    refine ev_succ ?_
    simp only [limb_Zeros.l0]
    rw [shr_eq i (by omega), bit1 hs.1 (by omega)]
    simp (disch := omega) only [w64]
    exact ev_pos (by omega) (ev_pos (by omega) (ev_neg (by rw [(tz_bit hz).2 i (by omega)]; decide) (ih (i + 1) (by omega) (by omega))))
theorem limb_zeros {x : Int} (h0 : 0 ≤ x) (h1 : x < B) {z : Nat} (hz : Tz x z) : Ev (fun k => limb_Zeros.f k x) (z : Int) :=
  limb_zeros_l0 h0 h1 hz (tz_lt hz (by simp only [B] at h1; omega)) _ 0 rfl (by omega)
theorem zeros_l0 (xs : List Int) (hx : Dig B xs) (hl : xs.length < 1099511627776) : ∀ d i : Nat, xs.length - i = d → i ≤ xs.length → ∀ z : Nat, Tz (val B (xs.drop i)) z →
    Ev (fun k => nat_Zeros.l0 k xs xs.length i) (32 * i + z : Int) := by
  intro d
  induction d with
  | zero =>
    intro i hd hi z hz
    rw [List.drop_eq_nil_of_le (by omega)] at hz
    have := hz.pos
    simp [val] at this
  | succ d ih =>
    intro i hd hi z hz
    have ha := rd_nonneg_lt hx (show i < xs.length by omega)
    have hv0 := val_nonneg (b := B) (by decide) (fun y hy => hx y (List.mem_of_mem_drop hy) : Dig B (xs.drop (i + 1)))
    rw [val_drop] at hz
    refine ev_succ ?_
    simp only [nat_Zeros.l0]
    refine ev_pos (by omega) (ev_pos (by omega) (ev_pos (by omega) (ev_ite (fun h => ?_) (fun h => ?_))))
    · rw [h, Int.zero_add] at hz
      have hvp : 0 < val B (xs.drop (i + 1)) := by
        have := hz.pos
        by_cases hv : val B (xs.drop (i + 1)) = 0
        · rw [hv] at this; simp at this
        · omega
      obtain ⟨z', hz'⟩ := Tz.ex hvp
      have hs := hz'.shift 32
      rw [show (2 : Int) ^ 32 = B by decide, Int.mul_comm] at hs
      have e := hz.uniq hs
      simp (disch := omega) only [w64]
      have := ih (i + 1) (by omega) (by omega) z' hz'
      rw [show (32 : Int) * ((i + 1 : Nat) : Int) + z' = 32 * i + z by omega] at this
      exact this
    · obtain ⟨t, ht⟩ := Tz.ex (show 0 < rd xs i by omega)
      have ht32 := tz_lt ht (n := 32) (by have := ha.2; simp only [B] at this; omega)
      have hzt : Tz (rd xs i + B * val B (xs.drop (i + 1))) t := by
        obtain ⟨o, ho, e⟩ := ht
        refine ⟨o + 2 ^ (31 - t) * val B (xs.drop (i + 1)), ?_, ?_⟩
        · have := Int.mul_nonneg (show (0 : Int) ≤ 2 ^ (31 - t) from Int.pow_nonneg (by decide)) hv0
          omega
        · have hBt : (B : Int) = 2 ^ t * (2 * 2 ^ (31 - t)) := by
            rw [← Int.pow_succ', ← Int.pow_add, show t + (31 - t + 1) = 32 by omega]; rfl
          generalize val B (xs.drop (i + 1)) = w at *
          rw [hBt, e]
          generalize (2 : Int) ^ t = p
          generalize (2 : Int) ^ (31 - t) = q
          grind
      have e := hz.uniq hzt
      refine ev_bind (limb_zeros ha.1 ha.2 ht) (ev_now ?_)
      simp (disch := omega) only [w64]
      omega
theorem zeros_ev {x : Int} {z : Nat} (h : Tz x z) (hl : (dg B x).length < 1099511627776) : Ev (fun k => nat_Zeros.f k (dg B x)) (z : Int) := by
  have hp := Int.le_of_lt h.pos
  have := zeros_l0 (dg B x) (dg_dig hB x hp) hl _ 0 rfl (by omega) z (by rw [List.drop_zero, val_dg hB x hp]; exact h)
  rw [show (32 : Int) * ((0 : Nat) : Int) + z = z by omega] at this
  exact this
end Go.Proofs.Ytpjephicbiiamaa.B

end
section
namespace Go.Proofs.Ytpjephicbiiamaa.B
set_option linter.unusedVariables false
set_option linter.unusedSimpArgs false
open Go Go.RowKit Go.Proofs.YtpjephicbiiamaaW.PrintWords Go.Proofs.YtpjephicbiiamaaW.PrintLast Go.Proofs.YtpjephicbiiamaaW.PrintMore Go.Proofs.Ytpjephicbiiamaa.F Go.Proofs.Ytpjephicbiiamaa.A
theorem or_join {x y : Int} (r : Nat) (hr : r ≤ 32) (hx0 : 0 ≤ x) (hx : x % 2 ^ r = 0) (hx1 : x < B) (hy0 : 0 ≤ y) (hy : y < 2 ^ r) : Go.bits .or .u64 y x = x + y := by
  have hp : (2 : Int) ^ r ≤ 2 ^ 32 := pow_mono (by decide) hr
  simp only [B] at hx1
  have := bits_join .u64 64 (by decide) (fun n a b => wu64 a (by omega)) r x y hx0 hx (by omega) hy0 hy (by omega)
  rw [← this]
  unfold Go.bits
  simp [BitVec.or_comm]
theorem set_mid (q : Nat) (pre : List Int) (c v u : Int) (m : Nat) {i : Nat} (h : pre.length = i) :
    ((List.replicate q 0 ++ pre ++ c :: List.replicate (m + 1) 0).set (i + q) v).set (i + q + 1) u = List.replicate q 0 ++ (pre ++ [v]) ++ u :: List.replicate m 0 := by
  subst h
  have e1 : (List.replicate q (0 : Int) ++ pre).length = pre.length + q := by simp; omega
  rw [List.set_append_right _ _ (by omega), e1, Nat.sub_self, List.set_cons_zero, List.set_append_right _ _ (by omega), e1,
    show pre.length + q + 1 - (pre.length + q) = 0 + 1 by omega, List.set_cons_succ, List.replicate_succ, List.set_cons_zero]
  simp
theorem rd_mid (q : Nat) (pre : List Int) (c : Int) (ys : List Int) {i : Nat} (h : pre.length = i) : rd (List.replicate q 0 ++ pre ++ c :: ys) ((i + q : Nat) : Int) = c := by
  have := rd_append_len (List.replicate q 0 ++ pre) c ys
  rwa [show (List.replicate q (0 : Int) ++ pre).length = i + q by simp; omega] at this
theorem shl_l0 (xs : List Int) (hx : Dig B xs) (hl : xs.length < 1099511627776) (n : Int) (hn0 : 0 ≤ n) (q r : Nat) (hq : n / 32 = q) (hr : n % 32 = r) (hn : n ≤ 100000) : ∀ d i : Nat, xs.length - i = d → i ≤ xs.length → ∀ (pre : List Int) (c : Int), Dig B pre → pre.length = i → 0 ≤ c → c < 2 ^ r →
    Ev (fun k => nat_Shl.l0 k n (List.replicate q 0 ++ pre ++ c :: List.replicate (xs.length - i) 0) xs xs.length i) (dg B (B ^ q * (val B pre + B ^ i * (c + 2 ^ r * val B (xs.drop i)))), 0) := by
  have hr32 : r < 32 := by omega
  have hP : (0 : Int) < 2 ^ r := Int.pow_pos (by decide)
  have hPB : (2 : Int) ^ r * 2 ^ (32 - r) = B := by rw [← Int.pow_add, show r + (32 - r) = 32 by omega]; rfl
  have hQ : (0 : Int) < 2 ^ (32 - r) := Int.pow_pos (by decide)
  have hP31 : (2 : Int) ^ r ≤ 2 ^ 31 := pow_mono (by decide) (by omega)
  intro d
  induction d with
  | zero =>
    intro i hd hi pre c hp hpl hc0 hc
    refine ev_succ ?_
    simp only [nat_Shl.l0]
    refine ev_neg (by omega) (ev_bind (trim_ev _ (by simp; omega)) (ev_now ?_))
    rw [show xs.length - i = 0 by omega, List.replicate_zero, List.drop_eq_nil_of_le (by omega)]
    have hdg : Dig B (List.replicate q 0 ++ pre ++ [c]) := ((Dig.zeros (by decide) q).append hp).append (Dig.nil.cons hc0 (by simp only [B]; omega))
    rw [strip_dg hB hdg, val_append, val_append, val_zeros, List.length_append, List.length_replicate, hpl]
    simp only [val, Int.mul_zero, Int.add_zero, Int.zero_add]
    rw [Int.pow_add, Int.mul_assoc, ← Int.mul_add]
  | succ d ih =>
    intro i hd hi pre c hp hpl hc0 hc
    have ha := rd_nonneg_lt hx (show i < xs.length by omega)
    refine ev_succ ?_
    simp only [nat_Shl.l0]
    rw [ediv_tdiv hn0, emod_tmod hn0, hq, hr]
    have hz0 : 0 ≤ rd xs i * 2 ^ r := Int.mul_nonneg ha.1 (Int.le_of_lt hP)
    have hz1 : rd xs i * 2 ^ r ≤ 4294967295 * 2 ^ r := Int.mul_le_mul_of_nonneg_right (by have := ha.2; simp only [B] at this; omega) (Int.le_of_lt hP)
    rw [shl_eq r (by omega) hz0 (by omega)]
    simp (disch := omega) only [w64, emod_tmod]
    have ei : ((i : Int) + (q : Int)) = ((i + q : Nat) : Int) := by omega
    have hlen : (List.replicate q (0 : Int) ++ pre ++ c :: List.replicate (xs.length - i) 0).length = q + xs.length + 1 := by simp; omega
    rw [hlen, ei, Int.toNat_natCast, show (((i + q : Nat) : Int) + 1).toNat = i + q + 1 by omega, rd_mid q pre c _ hpl]
    refine ev_pos (by omega) (ev_pos (by omega) (ev_pos (by omega) (ev_pos (by omega) (ev_pos (by omega) (ev_pos (by omega) (ev_pos (by omega) (ev_pos (by omega) ?_)))))))
    have hlow0 : 0 ≤ rd xs i * 2 ^ r % B := Int.emod_nonneg _ (by decide)
    have hlow1 : rd xs i * 2 ^ r % B < B := Int.emod_lt_of_pos _ (by decide)
    have hlowr : rd xs i * 2 ^ r % B % 2 ^ r = 0 := by
      rw [Int.emod_emod_of_dvd _ ⟨2 ^ (32 - r), hPB.symm⟩, Int.mul_emod_left]
    rw [or_join r (by omega) hlow0 hlowr hlow1 hc0 hc, show xs.length - i = (xs.length - (i + 1)) + 1 by omega, set_mid q pre c _ _ _ hpl]
    have hsum : rd xs i * 2 ^ r % B + c < B := by
      have h1 := Int.mul_ediv_add_emod (rd xs i * 2 ^ r % B) (2 ^ r)
      rw [hlowr, Int.add_zero] at h1
      have h2 : rd xs i * 2 ^ r % B / 2 ^ r < 2 ^ (32 - r) := Int.ediv_lt_of_lt_mul hP (by rw [Int.mul_comm (2 ^ (32 - r)) (2 ^ r), hPB]; exact hlow1)
      have h3 := Int.mul_le_mul_of_nonneg_left (show rd xs i * 2 ^ r % B / 2 ^ r + 1 ≤ 2 ^ (32 - r) by omega) (Int.le_of_lt hP)
      rw [Int.mul_add, h1, hPB] at h3
      omega
    have hu0 : 0 ≤ rd xs i * 2 ^ r / B := Int.ediv_nonneg hz0 (by decide)
    have hu1 : rd xs i * 2 ^ r / B < 2 ^ r := Int.ediv_lt_of_lt_mul (by decide) (by rw [Int.mul_comm]; exact Int.mul_lt_mul_of_pos_left ha.2 hP)
    have := ih (i + 1) (by omega) (by omega) (pre ++ [rd xs i * 2 ^ r % B + c]) (rd xs i * 2 ^ r / B) (hp.append (Dig.nil.cons (by omega) hsum)) (by simp [hpl]) hu0 hu1
    have e : val B (pre ++ [rd xs i * 2 ^ r % B + c]) + B ^ (i + 1) * (rd xs i * 2 ^ r / B + 2 ^ r * val B (xs.drop (i + 1))) = val B pre + B ^ i * (c + 2 ^ r * val B (xs.drop i)) := by
      rw [val_append, hpl, val_drop B xs i, Int.pow_succ]
      simp only [val, Int.mul_zero, Int.add_zero]
      have h1 := Int.mul_ediv_add_emod (rd xs i * 2 ^ r) B
      generalize rd xs i * 2 ^ r % B = u at *
      generalize rd xs i * 2 ^ r / B = v at *
      generalize val B (xs.drop (i + 1)) = w at *
      generalize rd xs (i : Int) = a at *
      generalize B ^ i = b at *
      generalize (2 : Int) ^ r = p at *
      generalize B = bb at *
      grind
    rw [e] at this
    rw [cast_succ]
    exact this
theorem shift_ok {n : Int} (h0 : 0 ≤ n) (h1 : n ≤ 100000) : nat_shift.f n = some 0 := by unfold nat_shift.f; rw [if_neg (by omega), if_neg (by omega)]
theorem shl_val (x : Int) {n : Int} (hn0 : 0 ≤ n) {q r : Nat} (hq : n / 32 = q) (hr : n % 32 = r) : B ^ q * (2 ^ r * x) = x * 2 ^ n.toNat := by
  have e : n.toNat = 32 * q + r := by omega
  have e2 : (B : Int) ^ q = 2 ^ (32 * q) := by rw [show (B : Int) = 2 ^ 32 by decide, ← Int.pow_mul]
  rw [e2, e, Int.pow_add]
  generalize (2 : Int) ^ (32 * q) = a
  generalize (2 : Int) ^ r = b
  grind
theorem shl_ev {x n : Int} (hx : 0 ≤ x) (hn0 : 0 ≤ n) (hn : n ≤ 100000) (hl : (dg B x).length < 1099511627776) : Ev (fun k => nat_Shl.f k (dg B x) n) (dg B (x * 2 ^ n.toNat), 0) := by
  unfold nat_Shl.f
  refine ev_eq (shift_ok hn0 hn) (ev_pos rfl (ev_succ ?_))
  simp only [nat_Shl.j0]
  by_cases hz : x = 0
  · subst hz
    refine ev_pos (by rw [dg_zero]; rfl) (ev_now ?_)
    rw [Int.zero_mul, dg_zero]
  · have hne : (dg B x).length ≠ 0 := fun h => hz ((dg_nil_iff hB hx).1 (List.length_eq_zero_iff.1 h))
    obtain ⟨q, hq⟩ : ∃ q : Nat, n / 32 = q := ⟨(n / 32).toNat, by omega⟩
    obtain ⟨r, hr⟩ : ∃ r : Nat, n % 32 = r := ⟨(n % 32).toNat, by omega⟩
    rw [ediv_tdiv hn0, hq]
    simp (disch := omega) only [w64]
    refine ev_neg (by simpa using hne) (ev_pos (by omega) (ev_pos (by omega) ?_))
    have := shl_l0 (dg B x) (dg_dig hB x hx) hl n hn0 q r hq hr hn _ 0 rfl (by omega) [] 0 Dig.nil rfl (Int.le_refl _) (Int.pow_pos (by decide))
    have el : (((dg B x).length : Int) + (q : Int) + 1).toNat = q + ((dg B x).length + 1) := by omega
    rw [el]
    have er : List.replicate (q + ((dg B x).length + 1)) (0 : Int) = List.replicate q 0 ++ [] ++ 0 :: List.replicate ((dg B x).length - 0) 0 := by
      rw [Nat.sub_zero, ← List.replicate_succ, List.append_nil, List.replicate_append_replicate]
    rw [er]
    rw [List.drop_zero, val_dg hB x hx, Int.pow_zero, Int.one_mul, Int.zero_add, val, Int.zero_add, shl_val x hn0 hq hr] at this
    exact this
theorem shr_digit (a b w : Int) (ha0 : 0 ≤ a) (ha : a < B) (hb0 : 0 ≤ b) (hb : b < B) (r : Nat) (hr : r < 32) :
    Int.tmod (shr .u64 (Go.bits .or .u64 a (IntKind.u64.wrap (b * 4294967296))) (r : Int)) 4294967296 = (a + B * (b + B * w)) / 2 ^ r % B := by
  have hP : (0 : Int) < 2 ^ r := Int.pow_pos (by decide)
  have hPB : (2 : Int) ^ r * 2 ^ (32 - r) = B := by rw [← Int.pow_add, show r + (32 - r) = 32 by omega]; rfl
  simp only [B] at *
  rw [wu64 (by omega) (by omega)]
  have hor : Go.bits .or .u64 a (b * 4294967296) = b * 4294967296 + a := by
    have := bits_join .u64 64 (by decide) (fun n a b => wu64 a (by omega)) 32 (b * 4294967296) a (by omega) (by omega) (by omega) ha0 (by omega) (by omega)
    rw [← this]
    unfold Go.bits
    simp [BitVec.or_comm]
  rw [hor, shr_eq r (by omega), emod_tmod (Int.ediv_nonneg (by omega) (by omega))]
  have e : a + 4294967296 * (b + 4294967296 * w) = (b * 4294967296 + a) + 2 ^ r * (4294967296 * (2 ^ (32 - r) * w)) := by
    generalize (2 : Int) ^ r = p at *
    generalize (2 : Int) ^ (32 - r) = q at *
    grind
  rw [e, Int.add_mul_ediv_left _ _ (by omega), Int.add_mul_emod_self_left]
theorem shr_l0 (xs : List Int) (hx : Dig B xs) (hl : xs.length < 1099511627776) (n : Int) (hn0 : 0 ≤ n) (q r : Nat) (hq : n / 32 = q) (hr : n % 32 = r) (hn : n ≤ 100000) (hql : q ≤ xs.length) : ∀ d i : Nat, xs.length - q - i = d → i ≤ xs.length - q → ∀ (pre : List Int), Dig B pre → pre.length = i →
    val B pre + B ^ i * (val B (xs.drop (q + i)) / 2 ^ r) = val B (xs.drop q) / 2 ^ r →
    Ev (fun k => nat_Shr.l0 k xs n (pre ++ List.replicate (xs.length - q - i) 0) ((xs.length - q : Nat) : Int) i) (dg B (val B (xs.drop q) / 2 ^ r), 0) := by
  have hP : (0 : Int) < 2 ^ r := Int.pow_pos (by decide)
  intro d
  induction d with
  | zero =>
    intro i hd hi pre hp hpl he
    refine ev_succ ?_
    simp only [nat_Shr.l0]
    refine ev_neg (by omega) (ev_bind (trim_ev _ (by simp; omega)) (ev_now ?_))
    rw [show xs.length - q - i = 0 by omega, List.replicate_zero, List.append_nil, strip_dg hB hp, ← he, List.drop_eq_nil_of_le (show xs.length ≤ q + i by omega), val, Int.zero_ediv, Int.mul_zero, Int.add_zero]
  | succ d ih =>
    intro i hd hi pre hp hpl he
    have ha := dig_rd0 (by decide) hx (q + i)
    have hb := dig_rd0 (by decide) hx (q + i + 1)
    refine ev_succ ?_
    simp only [nat_Shr.l0]
    rw [ediv_tdiv hn0, emod_tmod hn0, hq, hr]
    simp (disch := omega) only [w64]
    have ei : ((i : Int) + (q : Int)) = ((q + i : Nat) : Int) := by omega
    rw [ei, cast_succ, Int.toNat_natCast]
    refine ev_pos (by omega) (ev_pos (by omega) (ev_pos (by omega) (ev_eq (at_eq xs (by omega)) (ev_pos (by omega) (ev_pos (by omega) (ev_pos (by simp; omega) ?_))))))
    rw [shr_digit _ _ (val B (xs.drop (q + i + 1 + 1))) ha.1 ha.2 hb.1 hb.2 r (by omega), show xs.length - q - i = (xs.length - q - (i + 1)) + 1 by omega, set_pre pre _ _ hpl]
    rw [← val_drop B xs (q + i + 1), ← val_drop B xs (q + i)]
    have hd0 : (0 : Int) ≤ val B (xs.drop (q + i)) / 2 ^ r % B := Int.emod_nonneg _ (by decide)
    have hd1 : val B (xs.drop (q + i)) / 2 ^ r % B < B := Int.emod_lt_of_pos _ (by decide)
    rw [cast_succ]
    refine ih (i + 1) (by omega) (by omega) _ (hp.append (Dig.nil.cons hd0 hd1)) (by simp [hpl]) ?_
    rw [← he, val_append, hpl, Int.pow_succ]
    have e1 : val B (xs.drop (q + (i + 1))) / 2 ^ r = val B (xs.drop (q + i)) / 2 ^ r / B := by
      have h1 : val B (xs.drop (q + i)) / B = val B (xs.drop (q + (i + 1))) := by
        rw [val_drop B xs (q + i), Int.add_mul_ediv_left _ _ (by decide), Int.ediv_eq_zero_of_lt ha.1 ha.2]
        rw [Int.zero_add]; rfl
      rw [← h1, Int.ediv_ediv_of_nonneg (by decide), Int.ediv_ediv_of_nonneg (by omega), Int.mul_comm]
    rw [e1]
    have h2 := Int.mul_ediv_add_emod (val B (xs.drop (q + i)) / 2 ^ r) B
    simp only [val, Int.mul_zero, Int.add_zero]
    generalize val B (xs.drop (q + i)) / 2 ^ r % B = u at *
    generalize val B (xs.drop (q + i)) / 2 ^ r / B = v at *
    generalize val B (xs.drop (q + i)) / 2 ^ r = w at *
    generalize B ^ i = b at *
    generalize B = bb at *
    grind
theorem val_take_drop (b : Int) (xs : List Int) (q : Nat) (h : q ≤ xs.length) : val b xs = val b (xs.take q) + b ^ q * val b (xs.drop q) := by
  conv => lhs; rw [← List.take_append_drop q xs]
  rw [val_append, List.length_take, Nat.min_eq_left h]
theorem shr_ev {x n : Int} (hx : 0 ≤ x) (hn0 : 0 ≤ n) (hn : n ≤ 100000) (hl : (dg B x).length < 1099511627776) : Ev (fun k => nat_Shr.f k (dg B x) n) (dg B (x / 2 ^ n.toNat), 0) := by
  unfold nat_Shr.f
  refine ev_eq (shift_ok hn0 hn) (ev_pos rfl (ev_succ ?_))
  simp only [nat_Shr.j0]
  obtain ⟨q, hq⟩ : ∃ q : Nat, n / 32 = q := ⟨(n / 32).toNat, by omega⟩
  obtain ⟨r, hr⟩ : ∃ r : Nat, n % 32 = r := ⟨(n % 32).toNat, by omega⟩
  have en : n.toNat = 32 * q + r := by omega
  have e2 : (B : Int) ^ q = 2 ^ (32 * q) := by rw [show (B : Int) = 2 ^ 32 by decide, ← Int.pow_mul]
  rw [ediv_tdiv hn0, hq]
  simp (disch := omega) only [w64]
  by_cases hge : (q : Int) ≥ ((dg B x).length : Int)
  · refine ev_pos (by simpa using hge) (ev_now ?_)
    have h1 := val_lt (b := B) (by decide) (dg_dig hB x hx)
    rw [val_dg hB x hx] at h1
    have h2 : x < 2 ^ n.toNat := by
      refine Int.lt_of_lt_of_le h1 (Int.le_trans (pow_mono (by decide) (show (dg B x).length ≤ q by omega)) ?_)
      rw [e2]
      exact pow_mono (by decide) (by omega)
    rw [Int.ediv_eq_zero_of_lt hx h2, dg_zero]
  · refine ev_neg (by simpa using hge) (ev_pos (by omega) (ev_pos (by omega) ?_))
    simp only [Option.bind_some, List.length_replicate]
    rw [show (((dg B x).length : Int) - (q : Int)).toNat = (dg B x).length - q by omega]
    have := shr_l0 (dg B x) (dg_dig hB x hx) hl n hn0 q r hq hr hn (by omega) _ 0 rfl (by omega) [] Dig.nil rfl (by simp [val])
    have ev : val B ((dg B x).drop q) / 2 ^ r = x / 2 ^ n.toNat := by
      have h1 := val_take_drop B (dg B x) q (by omega)
      have h2 := val_nonneg (b := B) (by decide) ((dg_dig hB x hx).take q)
      have h3 := val_lt (b := B) (by decide) ((dg_dig hB x hx).take q)
      rw [List.length_take, Nat.min_eq_left (by omega)] at h3
      rw [val_dg hB x hx] at h1
      have hP : (0 : Int) < B ^ q := Int.pow_pos (by decide)
      have h4 : x / B ^ q = val B ((dg B x).drop q) := by
        conv => lhs; rw [h1]
        rw [Int.add_mul_ediv_left _ _ (by omega), Int.ediv_eq_zero_of_lt h2 h3, Int.zero_add]
      rw [← h4, Int.ediv_ediv_of_nonneg (by omega), e2, ← Int.pow_add, ← en]
    rw [ev] at this
    exact this
end Go.Proofs.Ytpjephicbiiamaa.B

end
section
namespace Go.Proofs.Ytpjephicbiiamaa.Pure
set_option linter.unusedVariables false
set_option linter.unusedSimpArgs false
open Go Go.RowKit Go.Proofs.YtpjephicbiiamaaW.PrintWords Go.Proofs.YtpjephicbiiamaaW.PrintLast Go.Proofs.YtpjephicbiiamaaW.PrintMore Go.Proofs.Ytpjephicbiiamaa.F Go.Proofs.Ytpjephicbiiamaa.A Go.Proofs.Ytpjephicbiiamaa.B
theorem works_ev : Ev (fun k => triviumlaw02_works.f k) true := Ev.of (fun k => triviumlaw02_works.mono k) (k := 10) (by decide +kernel)
theorem len2_shift {x : Int} (hx : 0 < x) (n : Nat) : (dg 2 (x * 2 ^ n)).length = (dg 2 x).length + n := by
  obtain ⟨m, hm⟩ : ∃ m, (dg 2 x).length = m + 1 := by
    refine ⟨(dg 2 x).length - 1, ?_⟩
    have : (dg 2 x).length ≠ 0 := fun h => by have := (dg_nil_iff (b := 2) (by decide) (Int.le_of_lt hx)).1 (List.length_eq_zero_iff.1 h); omega
    omega
  have t1 := val_lt (b := 2) (by decide) (dg_dig (b := 2) (by decide) x (by omega))
  rw [val_dg (by decide) x (by omega), hm] at t1
  have t0 : (2 : Int) ^ m ≤ x := by
    apply Int.le_of_not_gt
    intro hgt
    have := dg_len_le (b := 2) (by decide) m x (by omega) hgt
    omega
  have hp : (0 : Int) < 2 ^ n := Int.pow_pos (by decide)
  rw [hm, show m + 1 + n = (m + n) + 1 by omega]
  refine len2_eq ?_ ?_
  · rw [Int.pow_add]; exact Int.mul_le_mul_of_nonneg_right t0 (by omega)
  · rw [show m + n + 1 = (m + 1) + n by omega, Int.pow_add]; exact Int.mul_lt_mul_of_pos_right t1 hp
theorem NatBack : triviumlaw02_NatBack.Pure := by
  intro l0 l1 n hm0 hl0 hw0 hm1 hl1 hw1 hn
  refine Ev.rounds ?_
  unfold triviumlaw02_NatBack.f
  have hx := cl_nonneg l0 24
  have hy := cl_nonneg l1 24
  have hx1 := cl_bnd l0 24
  have hy1 := cl_bnd l1 24
  refine ev_bind works_ev (ev_pos rfl (ev_bind (clean_ev l0 24 (fun x h => (wf_u64 (hw0 x h)).1) (by omega)) (ev_bind (clean_ev l1 24 (fun x h => (wf_u64 (hw1 x h)).1) (by omega)) ?_)))
  generalize cl l0 24 = x at *
  generalize cl l1 24 = y at *
  have a1 := bnd_len hB hx hx1
  have b1 := bnd_len hB hy hy1
  have s : x + y < bnd (32 * 24 + 1) := by rw [bnd_succ]; omega
  have s1 := bnd_len hB (show 0 ≤ x + y by omega) s
  refine ev_bind (add_ev hx hy (by omega) (by omega)) (ev_bind (sub_ev hy (by omega) (by omega)) (ev_pos rfl ?_))
  dsimp only
  rw [show x + y - y = x by omega]
  refine ev_bind (same_ev _ _ (by omega)) (ev_succ ?_)
  simp only [triviumlaw02_NatBack.j0]
  refine ev_neg (by simp) ?_
  have out : Ev (fun k => triviumlaw02_NatBack.j1 k (dg B x) n true) true := by
    refine ev_succ ?_
    simp only [triviumlaw02_NatBack.j1]
    exact ev_pos (by trivial) (ev_now rfl)
  refine ev_ite (fun h => out) (fun h0 => ?_)
  by_cases h1 : n > 2000
  · rw [decide_eq_true h1]; exact out
  rw [decide_eq_false h1]
  refine ev_succ ?_
  simp only [triviumlaw02_NatBack.j1]
  obtain ⟨m, rfl⟩ := Int.eq_ofNat_of_zero_le (show 0 ≤ n by omega)
  have hp : (0 : Int) < 2 ^ m := Int.pow_pos (by decide)
  have hs0 : 0 ≤ x * 2 ^ m := Int.mul_nonneg hx (by omega)
  have hs1 : x * 2 ^ m < bnd (32 * 24 + m) := by
    rw [bnd_add]
    exact Int.mul_lt_mul_of_pos_right hx1 hp
  have hsl := bnd_len hB hs0 hs1
  refine ev_neg (by simp) (ev_bind (shl_ev hx (by omega) (by omega) (by omega)) (ev_bind (shr_ev (by rw [Int.toNat_natCast]; exact hs0) (by omega) (by omega) (by rw [Int.toNat_natCast]; omega)) (ev_pos rfl (ev_pos rfl ?_))))
  simp only [Int.toNat_natCast]
  rw [Int.mul_ediv_cancel _ (by omega)]
  refine ev_bind (same_ev _ _ (by omega)) (ev_pos (by simp) (ev_ite (fun h => ev_now rfl) (fun h => ?_)))
  have hxp : 0 < x := by
    by_cases hz : x = 0
    · rw [hz, dg_zero] at h; simp at h
    · omega
  obtain ⟨z, hz⟩ := Tz.ex hxp
  have hsz := hz.shift m
  have hzlt := tz_lt hz (n := 32 * 24) hx1
  have l2 := bnd_len (b := 2) (by decide) hx hx1
  refine ev_bind (bits_ev hs0 (by omega)) (ev_bind (bits_ev hx (by omega)) (ev_pos ?_ (ev_bind (zeros_ev hsz (by omega)) (ev_bind (zeros_ev hz (by omega)) (ev_now ?_)))))
  · rw [len2_shift hxp, w64 (by omega) (by omega)]; omega
  · rw [w64 (by omega) (by omega)]; simp
end Go.Proofs.Ytpjephicbiiamaa.Pure

end
section
namespace Go.Proofs.Ytpjephicbiiamaa.natBack
open Go.Proofs.YtpjephicbiiamaaW
open Go.ChangeShapes Go.WideShapes Go.ChangeAt Go.RowKit
open Go.ChangeMaps (open_string shut_string)
set_option linter.unusedVariables false
theorem own : ownKnob Try.prog.godebug = none := by kernel_rfl
theorem laidOut : laidOutB Try.prog = true := by kernel_rfl
def IsRow (k : IntKind) (w : World) (a : Option Addr) (len cap : Nat) (zs : List Int) : Prop :=
  (a = none ∧ len = 0 ∧ cap = 0 ∧ zs = []) ∨
  ∃ x, a = some x ∧ len ≤ cap ∧ cap ≤ maxLen ∧ zs.length = cap ∧ (∀ i, i < zs.length → w.cell? (x.add i) = some (.int k (zs.getD i 0))) ∧ ∀ n ∈ zs, (Lit.int k n).wf = true
set_option maxRecDepth 100000 in
theorem lifted (os : Os) (started : os.Started) (H : Type) (enc : TypeId × Value → H) :
    ReturnsInHanded {} Try.checked os 14 .any (Rows.natBackSpec.pre6 enc Try.prog Try.f14 Rows.natBackRow.domain false) (Rows.natBackSpec.post enc Try.prog Try.f14 false true false false) := by
  refine returnsInHanded_of_change_sized (C := Try.checked) own started (by kernel_rfl) Try.func14
    (ChangeSpec.witness6 (enc := enc) (C := Try.checked) false ⟨#[], #[.slice none 0 0, .slice none 0 0, .int .i64 0], []⟩ 8 (by kernel_rfl) (by kernel_rfl) (by kernel_rfl) (by kernel_rfl)) ?_
  intro W base args ds gs before hval0 hW hcnd hsz0 _
  have hsz : (DataW.weightsEach Try.prog (Try.f14.params.toList ++ Rows.natBackSpec.plain.varTypes Try.prog) (ds ++ gs)).all (· ≤ reachBytes) = true := hsz0
  have hval : ∀ (j : Nat) t v, Try.f14.params[j]? = some t → args[j]? = some v → Value.okWide Try.prog W .any base t v := hval0
  have hW' := hW
  obtain ⟨p, q, hA0, hV, rfl, hfz, hnd⟩ := hW
  have hA : DataW.TrodAll enc Try.prog W 0 (fun _ => true) true Try.f14.params.toList args.toList ds p := hA0
  rw [Try.params14] at hA hval hsz
  obtain ⟨v0, vs0, d0, ds0, p0, q0, hargs, rfl, rfl, h0, r0⟩ := trodAll_cons hA
  obtain ⟨v1, vs1, d1, ds1, p1, q1, rfl, rfl, rfl, h1, r1⟩ := trodAll_cons r0
  obtain ⟨v2, vs2, d2, ds2, p2, q2, rfl, rfl, rfl, h2, r2⟩ := trodAll_cons r1
  obtain ⟨rfl, rfl, rfl⟩ := trodAll_nil r2
  obtain rfl : args = #[v0, v1, v2] := by cases args; simp_all
  obtain ⟨rfl, rfl⟩ := trodVars_none hV
  obtain ⟨a0, len0, cap0, rfl⟩ := okWide_slice Try.underlying23 (hval 0 23 v0 rfl rfl)
  have k0 := h0
  have lt0 : ∀ x ∈ p0, x.block < W.heap.size := by obtain ⟨m, hm⟩ := k0; exact DataW.trod_lt m _ _ _ hm
  obtain ⟨z0, w0⟩ : ∃ zs, IsRow .u64 W a0 len0 cap0 zs := by
    obtain ⟨fuel, hf⟩ := h0
    rcases open_ints Try.underlying23 Try.underlying54 (by kernel_rfl) hf with ⟨hcs, _⟩ | ⟨x, l, c, zs, hcs, _, hl, hm, hz, _, hcell, hwz⟩
    · simp [Value.cells] at hcs
      obtain ⟨rfl, rfl, rfl⟩ := hcs
      exact ⟨[], .inl ⟨rfl, rfl, rfl, rfl⟩⟩
    · simp [Value.cells] at hcs
      obtain ⟨rfl, rfl, rfl⟩ := hcs
      exact ⟨zs, .inr ⟨_, rfl, hl, hm, by simpa using hz, hcell, hwz⟩⟩
  have y0 : len0 * 8 ≤ 140737488351232 := PrintWords.sized_ints hsz (j := 0) (t := 23) rfl rfl Try.underlying23 Try.underlying54 (by kernel_rfl) (by kernel_rfl) h0
  obtain ⟨a1, len1, cap1, rfl⟩ := okWide_slice Try.underlying23 (hval 1 23 v1 rfl rfl)
  have k1 := h1
  have lt1 : ∀ x ∈ p1, x.block < W.heap.size := by obtain ⟨m, hm⟩ := k1; exact DataW.trod_lt m _ _ _ hm
  obtain ⟨z1, w1⟩ : ∃ zs, IsRow .u64 W a1 len1 cap1 zs := by
    obtain ⟨fuel, hf⟩ := h1
    rcases open_ints Try.underlying23 Try.underlying54 (by kernel_rfl) hf with ⟨hcs, _⟩ | ⟨x, l, c, zs, hcs, _, hl, hm, hz, _, hcell, hwz⟩
    · simp [Value.cells] at hcs
      obtain ⟨rfl, rfl, rfl⟩ := hcs
      exact ⟨[], .inl ⟨rfl, rfl, rfl, rfl⟩⟩
    · simp [Value.cells] at hcs
      obtain ⟨rfl, rfl, rfl⟩ := hcs
      exact ⟨zs, .inr ⟨_, rfl, hl, hm, by simpa using hz, hcell, hwz⟩⟩
  have y1 : len1 * 8 ≤ 140737488351232 := PrintWords.sized_ints hsz (j := 1) (t := 23) rfl rfl Try.underlying23 Try.underlying54 (by kernel_rfl) (by kernel_rfl) h1
  obtain ⟨a2, rfl, rfl, rfl, w2⟩ := open_int Try.underlying3 (hval 2 3 v2 rfl rfl) h2
  clear hA0 hval0 hsz0 hsz
  refine (F.triviumlaw02_NatBack.walk Pure.NatBack a0 len0 cap0 z0 a1 len1 cap1 z1 a2 W w0 y0 w1 y1 w2).mono fun e W' ⟨he, bel⟩ => ?_
  subst he
  exact ⟨_, rfl, _, _, _, [], _, [], hW', trodAll_mk1 (shut_bool Try.underlying4 _), (trodAll_cons_mk (Below.trod laidOut (by kernel_rfl) (of_decide_eq_true (by kernel_rfl)) k0 bel lt0) (trodAll_cons_mk (Below.trod laidOut (by kernel_rfl) (of_decide_eq_true (by kernel_rfl)) k1 bel lt1) (trodAll_cons_mk (shut_int Try.underlying3 w2) trodAll_mk0))), rfl, bel.frame _, fun h => by cases h⟩
theorem over : Rows.natBackRow.holds Try.pinned (OpenSpec.ofChange Rows.natBackSpec) :=
  OpenClaim.holds_of_wide 14 Try.f14 rfl rfl rfl rfl rfl rfl rfl ⟨rfl, rfl, rfl, rfl, rfl⟩ rfl rfl rfl rfl rfl (by kernel_rfl) Try.func14 (by kernel_rfl)
    (of_decide_eq_true (by kernel_rfl)) (by unfold Func.isWrapper; first | (rw [if_pos (by decide +kernel)]; kernel_rfl) | (rw [if_neg (by decide +kernel)]; exact ⟨rfl, rfl⟩))
    (fun os started H enc _ => lifted os started H enc)
theorem proved : Rows.NatBackSaid := over
#print axioms proved
end Go.Proofs.Ytpjephicbiiamaa.natBack
namespace Go.Proofs.Ytpjephicbiiamaa
theorem natBack_holds : Rows.NatBackSaid := natBack.proved
end Go.Proofs.Ytpjephicbiiamaa

end
