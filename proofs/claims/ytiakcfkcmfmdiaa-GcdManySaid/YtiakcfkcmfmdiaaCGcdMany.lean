/- The greatest common divisor of any numbers is as the document says: for all rows that come in (five of them, four limbs of each, are looked at). -/
import Derived.Laws.BitsLemmas
import Derived.Test.YtiakcfkcmfmdiaaRows
import Derived.WalkKit
import Derived.ProofKit
import Derived.OpenShut
import Derived.ShutString
import Derived.ChangeOld
import Derived.Below
import Derived.SizedLaws
import Derived.Test.YtiakcfkcmfmdiaaCGcdMany3
set_option linter.unusedVariables false
set_option linter.unusedSimpArgs false
set_option linter.unusedSectionVars false
section
namespace Go.Proofs.Ytiakcfkcmfmdiaa.A
set_option linter.unusedVariables false
set_option linter.unusedSimpArgs false
open Go Go.RowKit Go.Proofs.YtiakcfkcmfmdiaaW.PrintWords Go.Proofs.YtiakcfkcmfmdiaaW.PrintLast Go.Proofs.YtiakcfkcmfmdiaaW.PrintMore
section
variable {α β : Type} {f g : Nat → Option α} {r : α}
theorem ev_pos {c : Prop} [Decidable c] (h : c) (k : Ev f r) : Ev (fun n => if c then f n else g n) r := by
  simpa only [if_pos h] using k
theorem ev_neg {c : Prop} [Decidable c] (h : ¬ c) (k : Ev g r) : Ev (fun n => if c then f n else g n) r := by
  simpa only [if_neg h] using k
theorem ev_ite {c : Prop} [Decidable c] (hp : c → Ev f r) (hn : ¬ c → Ev g r) : Ev (fun n => if c then f n else g n) r := by
  by_cases h : c
  · exact ev_pos h (hp h)
  · exact ev_neg h (hn h)
theorem ev_now {a : α} (h : a = r) : Ev (fun _ => some a) r := ⟨0, fun _ _ => by rw [h]⟩
theorem ev_bind {a : β} {g : Nat → Option β} {f : Nat → β → Option α} (h : Ev g a) (k : Ev (fun n => f n a) r) : Ev (fun n => (g n).bind (f n)) r := h.bind k
theorem ev_eq {a : β} {x : Option β} {f : Nat → β → Option α} (h : x = some a) (k : Ev (fun n => f n a) r) : Ev (fun n => x.bind (f n)) r := by
  subst h; exact k
end
theorem w64 {x : Int} (h0 : -9223372036854775808 ≤ x) (h1 : x ≤ 9223372036854775807) : wrap64 x = x := by unfold wrap64; omega
theorem wu64 {x : Int} (h0 : 0 ≤ x) (h1 : x ≤ 18446744073709551615) : IntKind.u64.wrap x = x := by
  have e : IntKind.u64.wrap x = x % 18446744073709551616 := by simp [IntKind.wrap, IntKind.bits, IntKind.signed]
  rw [e]; omega
theorem mask32 {x : Int} (h0 : 0 ≤ x) (h1 : x ≤ 18446744073709551615) : Go.bits .and .u64 x 4294967295 = x % 4294967296 := by
  have := bits_mask .u64 64 (by decide) (fun n a b => wu64 a (by omega)) 32 (by decide) x h0 (by omega)
  simpa using this
theorem bit1 {x : Int} (h0 : 0 ≤ x) (h1 : x ≤ 18446744073709551615) : Go.bits .and .u64 x 1 = x % 2 := by
  have := bits_mask .u64 64 (by decide) (fun n a b => wu64 a (by omega)) 1 (by decide) x h0 (by omega)
  simpa using this
theorem wf_u64 {x : Int} (h : (Lit.int .u64 x).wf = true) : 0 ≤ x ∧ x ≤ 18446744073709551615 := by
  simp [Lit.wf, IntKind.min, IntKind.max, IntKind.signed, IntKind.bits] at h; omega
theorem rd_nat (xs : List Int) (i : Nat) : rd xs (i : Int) = xs.getD i 0 := by simp [rd]
theorem rd_append_len (xs : List Int) (y : Int) (zs : List Int) : rd (xs ++ y :: zs) (xs.length : Int) = y := by
  simp [rd, List.getD]
theorem rd_cons_zero (y : Int) (zs : List Int) : rd (y :: zs) 0 = y := by simp [rd]
theorem set_append_len (xs : List Int) (y v : Int) (zs : List Int) : (xs ++ y :: zs).set (xs.length : Int).toNat v = xs ++ v :: zs := by
  simp
def val (b : Int) : List Int → Int
  | [] => 0
  | x :: xs => x + b * val b xs
def Dig (b : Int) (xs : List Int) : Prop := ∀ x ∈ xs, 0 ≤ x ∧ x < b
theorem Dig.nil {b : Int} : Dig b [] := fun _ h => by cases h
theorem Dig.cons {b x : Int} {xs : List Int} (h0 : 0 ≤ x) (h1 : x < b) (h : Dig b xs) : Dig b (x :: xs) := by
  intro y hy
  rcases List.mem_cons.1 hy with rfl | hy
  · exact ⟨h0, h1⟩
  · exact h y hy
theorem Dig.head {b x : Int} {xs : List Int} (h : Dig b (x :: xs)) : 0 ≤ x ∧ x < b := h x (List.mem_cons_self ..)
theorem Dig.tail {b x : Int} {xs : List Int} (h : Dig b (x :: xs)) : Dig b xs := fun y hy => h y (List.mem_cons_of_mem _ hy)
theorem Dig.append {b : Int} {xs ys : List Int} (h : Dig b xs) (k : Dig b ys) : Dig b (xs ++ ys) := by
  intro y hy
  rcases List.mem_append.1 hy with hy | hy
  · exact h y hy
  · exact k y hy
theorem Dig.left {b : Int} {xs ys : List Int} (h : Dig b (xs ++ ys)) : Dig b xs := fun y hy => h y (List.mem_append_left _ hy)
theorem Dig.right {b : Int} {xs ys : List Int} (h : Dig b (xs ++ ys)) : Dig b ys := fun y hy => h y (List.mem_append_right _ hy)
theorem Dig.zeros {b : Int} (hb : 0 < b) (n : Nat) : Dig b (List.replicate n 0) := by
  intro y hy
  have := List.eq_of_mem_replicate hy
  omega
theorem Dig.rd {b : Int} {xs : List Int} (h : Dig b xs) {i : Int} (h0 : 0 ≤ i) (h1 : i < xs.length) : 0 ≤ rd xs i ∧ rd xs i < b := by
  obtain ⟨j, rfl⟩ := Int.eq_ofNat_of_zero_le h0
  have hj : j < xs.length := by omega
  rw [rd_nat, List.getD, List.getElem?_eq_getElem hj]
  exact h _ (List.getElem_mem hj)
theorem Dig.take {b : Int} {xs : List Int} (h : Dig b xs) (i : Nat) : Dig b (xs.take i) := fun y hy => h y (List.mem_of_mem_take hy)
theorem Dig.mono {b c : Int} {xs : List Int} (h : Dig b xs) (hc : b ≤ c) : Dig c xs := fun x hx => ⟨(h x hx).1, by have := (h x hx).2; omega⟩
theorem val_append (b : Int) (xs ys : List Int) : val b (xs ++ ys) = val b xs + b ^ xs.length * val b ys := by
  induction xs with
  | nil => simp [val]
  | cons x xs ih =>
    simp only [List.cons_append, val, ih, List.length_cons, Int.pow_succ, Int.mul_add]
    rw [Int.mul_comm (b ^ xs.length) b, Int.mul_assoc, Int.add_assoc]
theorem val_zeros (b : Int) (n : Nat) : val b (List.replicate n 0) = 0 := by
  induction n with
  | zero => rfl
  | succ n ih => simp [List.replicate_succ, val, ih]
theorem val_nonneg {b : Int} (hb : 0 ≤ b) : ∀ {xs : List Int}, Dig b xs → 0 ≤ val b xs
  | [], _ => Int.le_refl _
  | x :: xs, h => by
    have := val_nonneg hb h.tail
    have := Int.mul_nonneg hb this
    have := h.head.1
    simp only [val]; omega
theorem val_lt {b : Int} (hb : 0 < b) : ∀ {xs : List Int}, Dig b xs → val b xs < b ^ xs.length
  | [], _ => by simp [val]
  | x :: xs, h => by
    have h1 := val_lt hb h.tail
    have h2 : b * (val b xs + 1) ≤ b * b ^ xs.length := Int.mul_le_mul_of_nonneg_left (by omega) (by omega)
    have := h.head.2
    rw [Int.mul_add] at h2
    simp only [val, List.length_cons, Int.pow_succ]
    rw [Int.mul_comm (b ^ xs.length) b]
    omega
def dgN (b : Nat) (n : Nat) : List Int := if h : 2 ≤ b ∧ 0 < n then ((n % b : Nat) : Int) :: dgN b (n / b) else []
termination_by n
decreasing_by exact Nat.div_lt_self h.2 h.1
def dg (b n : Int) : List Int := dgN b.toNat n.toNat
theorem dgN_zero (b : Nat) : dgN b 0 = [] := by rw [dgN, dif_neg (by omega)]
theorem dgN_pos {b n : Nat} (hb : 2 ≤ b) (hn : 0 < n) : dgN b n = ((n % b : Nat) : Int) :: dgN b (n / b) := by rw [dgN, dif_pos ⟨hb, hn⟩]
theorem dg_zero (b : Int) : dg b 0 = [] := dgN_zero _
theorem dg_pos {b n : Int} (hb : 2 ≤ b) (hn : 0 < n) : dg b n = n % b :: dg b (n / b) := by
  obtain ⟨c, rfl⟩ := Int.eq_ofNat_of_zero_le (show (0 : Int) ≤ b by omega)
  obtain ⟨m, rfl⟩ := Int.eq_ofNat_of_zero_le (show (0 : Int) ≤ n by omega)
  have e : ((m : Int) / (c : Int)).toNat = m / c := by rw [← Int.natCast_ediv]; rfl
  unfold dg
  rw [e]
  simp only [Int.toNat_natCast]
  rw [dgN_pos (by omega) (by omega)]
  simp
theorem dg_ind {b : Int} (hb : 2 ≤ b) {P : Int → Prop} (h0 : P 0) (h1 : ∀ n, 0 < n → P (n / b) → P n) : ∀ n : Int, 0 ≤ n → P n := by
  have H : ∀ m : Nat, ∀ n : Int, 0 ≤ n → n.toNat = m → P n := by
    intro m
    induction m using Nat.strongRecOn with
    | ind m ih =>
      intro n hn hm
      by_cases hz : n = 0
      · rw [hz]; exact h0
      · have hl : n / b < n := Int.ediv_lt_of_lt_mul (by omega) (by
          have : n * 2 ≤ n * b := Int.mul_le_mul_of_nonneg_left hb hn
          omega)
        have hg : 0 ≤ n / b := Int.ediv_nonneg hn (by omega)
        exact h1 n (by omega) (ih _ (by omega) _ hg rfl)
  exact fun n hn => H _ n hn rfl
theorem dg_dig {b : Int} (hb : 2 ≤ b) (n : Int) (hn : 0 ≤ n) : Dig b (dg b n) := by
  refine dg_ind hb (P := fun n => Dig b (dg b n)) ?_ ?_ n hn
  · rw [dg_zero]; exact Dig.nil
  · intro n hn ih
    rw [dg_pos hb hn]
    exact ih.cons (Int.emod_nonneg _ (by omega)) (Int.emod_lt_of_pos _ (by omega))
theorem val_dg {b : Int} (hb : 2 ≤ b) (n : Int) (hn : 0 ≤ n) : val b (dg b n) = n := by
  refine dg_ind hb (P := fun n => val b (dg b n) = n) ?_ ?_ n hn
  · rw [dg_zero]; rfl
  · intro n hn ih
    rw [dg_pos hb hn]
    simp only [val, ih]
    have := Int.emod_add_mul_ediv n b
    omega
def strip (xs : List Int) : List Int := match xs with
  | [] => []
  | x :: xs => match strip xs with
    | [] => if x = 0 then [] else [x]
    | y :: ys => x :: y :: ys
theorem strip_dg {b : Int} (hb : 2 ≤ b) : ∀ {xs : List Int}, Dig b xs → strip xs = dg b (val b xs)
  | [], _ => by rw [val, dg_zero]; rfl
  | x :: xs, h => by
    have ih := strip_dg hb h.tail
    have hx := h.head
    have hv := val_nonneg (by omega) h.tail
    have hm : 0 ≤ b * val b xs := Int.mul_nonneg (by omega) hv
    have e1 : (x + b * val b xs) % b = x := by rw [Int.add_mul_emod_self_left]; exact Int.emod_eq_of_lt hx.1 hx.2
    have e2 : (x + b * val b xs) / b = val b xs := by rw [Int.add_mul_ediv_left _ _ (by omega), Int.ediv_eq_zero_of_lt hx.1 hx.2]; omega
    rw [strip, val]
    by_cases hz : val b xs = 0
    · rw [hz, dg_zero] at ih
      rw [ih, hz, Int.mul_zero, Int.add_zero]
      by_cases hx0 : x = 0
      · rw [hx0, dg_zero]; rfl
      · rw [dg_pos hb (by omega), Int.emod_eq_of_lt hx.1 hx.2, Int.ediv_eq_zero_of_lt hx.1 hx.2, dg_zero]
        simp [hx0]
    · have hmv : 0 < val b xs := by omega
      have hp : 0 < b * val b xs := Int.mul_pos (by omega) hmv
      rw [dg_pos hb (show 0 < x + b * val b xs by omega), e1, e2, ih, dg_pos hb hmv]
theorem dg_len_le {b : Int} (hb : 2 ≤ b) (k : Nat) : ∀ n : Int, 0 ≤ n → n < b ^ k → (dg b n).length ≤ k := by
  induction k with
  | zero => intro n h0 h1; have : n = 0 := by simp at h1; omega
            rw [this, dg_zero]; simp
  | succ k ih =>
    intro n h0 h1
    by_cases hz : n = 0
    · rw [hz, dg_zero]; simp
    · rw [dg_pos hb (by omega), List.length_cons]
      have := ih (n / b) (Int.ediv_nonneg h0 (by omega)) (Int.ediv_lt_of_lt_mul (by omega) (by rw [← Int.pow_succ]; exact h1))
      omega
theorem pow_mono {b : Int} (hb : 1 ≤ b) {m n : Nat} (h : m ≤ n) : b ^ m ≤ b ^ n := by
  obtain ⟨d, rfl⟩ := Nat.exists_eq_add_of_le h
  rw [Int.pow_add]
  have h1 : 0 < b ^ m := Int.pow_pos (by omega)
  have h2 : 0 < b ^ d := Int.pow_pos (by omega)
  have := Int.mul_le_mul_of_nonneg_left (show 1 ≤ b ^ d by omega) (Int.le_of_lt h1)
  omega
theorem dg_len_ge {b : Int} (hb : 2 ≤ b) (k : Nat) (n : Int) (h0 : 0 ≤ n) (h1 : b ^ k ≤ n) : k < (dg b n).length := by
  have hl := val_lt (b := b) (by omega) (dg_dig hb n h0)
  rw [val_dg hb n h0] at hl
  apply Nat.lt_of_not_le
  intro hle
  have : b ^ (dg b n).length ≤ b ^ k := pow_mono (by omega) hle
  omega
theorem dg_inj {b m n : Int} (hb : 2 ≤ b) (hm : 0 ≤ m) (hn : 0 ≤ n) (h : dg b m = dg b n) : m = n := by
  rw [← val_dg hb m hm, ← val_dg hb n hn, h]
theorem dg_nil_iff {b n : Int} (hb : 2 ≤ b) (hn : 0 ≤ n) : dg b n = [] ↔ n = 0 := by
  constructor
  · intro h
    exact dg_inj hb hn (Int.le_refl _) (by rw [h, dg_zero])
  · rintro rfl; exact dg_zero _
end Go.Proofs.Ytiakcfkcmfmdiaa.A

end
section
namespace Go.Proofs.Ytiakcfkcmfmdiaa.B
set_option linter.unusedVariables false
set_option linter.unusedSimpArgs false
open Go Go.RowKit Go.Proofs.YtiakcfkcmfmdiaaW.PrintWords Go.Proofs.YtiakcfkcmfmdiaaW.PrintLast Go.Proofs.YtiakcfkcmfmdiaaW.PrintMore Go.Proofs.Ytiakcfkcmfmdiaa.F Go.Proofs.Ytiakcfkcmfmdiaa.A
abbrev B : Int := 4294967296
abbrev D : Int := 10000
theorem ev_succ {α : Type} {g : Nat → Option α} {r : α} (h : Ev (fun k => g (k + 1)) r) : Ev g r := by
  obtain ⟨K, hK⟩ := h
  refine ⟨K + 1, fun k hk => ?_⟩
  obtain ⟨m, rfl⟩ : ∃ m, k = m + 1 := ⟨k - 1, by omega⟩
  exact hK m (by omega)
theorem strip_snoc_zero (xs : List Int) : strip (xs ++ [0]) = strip xs := by
  induction xs with
  | nil => rfl
  | cons x xs ih => rw [List.cons_append, strip, strip, ih]
theorem strip_snoc (xs : List Int) {y : Int} (hy : y ≠ 0) : strip (xs ++ [y]) = xs ++ [y] := by
  induction xs with
  | nil => simp [strip, hy]
  | cons x xs ih =>
    rw [List.cons_append, strip, ih]
    cases xs <;> rfl
theorem take_succ_rd (xs : List Int) (i : Nat) (h : i < xs.length) : xs.take (i + 1) = xs.take i ++ [rd xs i] := by
  rw [List.take_succ_eq_append_getElem h, rd_nat, List.getD, List.getElem?_eq_getElem h]; rfl
theorem cast_pred (i : Nat) : ((i + 1 : Nat) : Int) - 1 = i := by omega
theorem cast_succ (i : Nat) : (i : Int) + 1 = ((i + 1 : Nat) : Int) := by omega
theorem trim_l0 (xs : List Int) (hl : xs.length < 17592186044416) : ∀ i : Nat, i ≤ xs.length → Ev (fun k => nat_trim.l0 k xs (i : Int)) (strip (xs.take i)) := by
  intro i
  induction i with
  | zero =>
    intro h
    refine ev_succ ?_
    simp only [nat_trim.l0]
    refine ev_neg (by omega) (ev_pos (by omega) (ev_pos (by omega) (ev_now ?_)))
    rfl
  | succ i ih =>
    intro h
    refine ev_succ ?_
    simp only [nat_trim.l0, cast_pred, Int.toNat_natCast]
    simp (disch := omega) only [w64]
    refine ev_pos (by omega) (ev_pos (by omega) (ev_pos (by omega) ?_))
    rw [take_succ_rd xs i (by omega)]
    refine ev_ite (fun hz => ?_) (fun hz => ?_)
    · rw [hz, strip_snoc_zero]; exact ih (by omega)
    · refine ev_pos (by omega) (ev_pos (by omega) (ev_now ?_))
      rw [strip_snoc _ hz]
theorem trim_ev (xs : List Int) (hl : xs.length < 17592186044416) : Ev (fun k => nat_trim.f k xs) (strip xs) := by
  have := trim_l0 xs hl xs.length (Nat.le_refl _)
  rwa [List.take_length] at this
theorem rtrim_l0 (xs : List Int) (hl : xs.length < 17592186044416) : ∀ i : Nat, i ≤ xs.length → Ev (fun k => triviumref02_Trim.l0 k xs (i : Int)) (strip (xs.take i)) := by
  intro i
  induction i with
  | zero =>
    intro h
    refine ev_succ ?_
    simp only [triviumref02_Trim.l0, Option.bind_some]
    refine ev_neg (by omega) (ev_pos (by omega) (ev_pos (by omega) (ev_pos (by simp; try omega) (ev_now ?_))))
    rfl
  | succ i ih =>
    intro h
    refine ev_succ ?_
    simp only [triviumref02_Trim.l0, Option.bind_some, cast_pred, Int.toNat_natCast]
    simp (disch := omega) only [w64]
    refine ev_pos (by omega) (ev_pos (by omega) (ev_pos (by omega) ?_))
    rw [take_succ_rd xs i (by omega)]
    refine ev_ite (fun hz => ?_) (fun hz => ?_)
    · rw [hz, strip_snoc_zero]; exact ih (by omega)
    · refine ev_pos (by omega) (ev_pos (by omega) (ev_pos (by simp [List.length_take]; omega) (ev_now ?_)))
      rw [strip_snoc _ hz]; rfl
theorem rtrim_ev (xs : List Int) (hl : xs.length < 17592186044416) : Ev (fun k => triviumref02_Trim.f k xs) (strip xs) := by
  have := rtrim_l0 xs hl xs.length (Nat.le_refl _)
  rwa [List.take_length] at this
theorem clean_l1 : ∀ n : Nat, ∀ xs : List Int, xs.length = n → xs.length < 17592186044416 → Ev (fun k => triviumref02_Clean.l1 k xs) (strip xs) := by
  intro n
  induction n with
  | zero =>
    intro xs hn hl
    refine ev_succ ?_
    simp only [triviumref02_Clean.l1]
    refine ev_neg (by omega) (ev_now ?_)
    rw [List.length_eq_zero_iff.1 hn]; rfl
  | succ n ih =>
    intro xs hn hl
    have e : xs = xs.take n ++ [rd xs n] := by rw [← take_succ_rd xs n (by omega), ← hn, List.take_length]
    refine ev_succ ?_
    simp only [triviumref02_Clean.l1]
    rw [hn]
    simp only [cast_pred, Int.toNat_natCast]
    simp (disch := omega) only [w64, Int.toNat_natCast]
    refine ev_pos (by omega) (ev_pos (by omega) (ev_pos (by omega) ?_))
    refine ev_ite (fun hz => ?_) (fun hz => ?_)
    · rw [hz] at e
      refine ev_pos (by omega) ?_
      conv => rhs; rw [e, strip_snoc_zero]
      exact ih _ (by rw [List.length_take]; omega) (by rw [List.length_take]; omega)
    · refine ev_now ?_
      conv => rhs; rw [e, strip_snoc _ hz]
      exact e
def cl (xs : List Int) (m : Nat) : Int := val B ((xs.take m).map (· % B))
theorem dig_map (xs : List Int) : Dig B (xs.map (· % B)) := by
  intro y hy
  obtain ⟨x, -, rfl⟩ := List.mem_map.1 hy
  exact ⟨Int.emod_nonneg _ (by decide), Int.emod_lt_of_pos _ (by decide)⟩
theorem cl_nonneg (xs : List Int) (m : Nat) : 0 ≤ cl xs m := val_nonneg (by decide) (dig_map _)
theorem cl_lt (xs : List Int) (m : Nat) : cl xs m < B ^ m := by
  have h := val_lt (b := B) (by decide) (dig_map (xs.take m))
  have h2 : ((xs.take m).map (· % B)).length ≤ m := by rw [List.length_map, List.length_take]; omega
  exact Int.lt_of_lt_of_le h (pow_mono (by decide) h2)
theorem clean_l0 (xs : List Int) (m : Nat) (hu : ∀ x ∈ xs, 0 ≤ x) (hl : xs.length < 17592186044416) : ∀ d i : Nat, min xs.length m - i = d → i ≤ min xs.length m →
    Ev (fun k => triviumref02_Clean.l0 k xs m ((xs.take i).map (· % B)) i) (strip ((xs.take m).map (· % B))) := by
  intro d
  induction d with
  | zero =>
    intro i hd hi
    have e : xs.take i = xs.take m := by
      rcases Nat.le_total xs.length m with h | h
      · rw [List.take_of_length_le (show xs.length ≤ i by omega), List.take_of_length_le h]
      · rw [show i = m by omega]
    have key : Ev (fun k => triviumref02_Clean.j1 k ((xs.take i).map (· % B))) (strip ((xs.take m).map (· % B))) := by
      refine ev_succ ?_
      simp only [triviumref02_Clean.j1]
      rw [e]
      exact clean_l1 _ _ rfl (by rw [List.length_map, List.length_take]; omega)
    refine ev_succ ?_
    simp only [triviumref02_Clean.l0]
    refine ev_ite (fun h1 => ?_) (fun h1 => key)
    exact ev_neg (by omega) key
  | succ d ih =>
    intro i hd hi
    refine ev_succ ?_
    simp only [triviumref02_Clean.l0]
    simp (disch := omega) only [w64]
    have hr : 0 ≤ rd xs i := by
      rw [rd_nat, List.getD, List.getElem?_eq_getElem (show i < xs.length by omega)]
      exact hu _ (List.getElem_mem _)
    refine ev_pos (by omega) (ev_pos (by omega) (ev_pos (by omega) (ev_pos (by rw [List.length_map, List.length_take]; omega) ?_)))
    have := ih (i + 1) (by omega) (by omega)
    rw [take_succ_rd xs i (by omega), List.map_append] at this
    rw [cast_succ, Int.tmod_eq_emod_of_nonneg hr]
    exact this
theorem clean_ev (xs : List Int) (m : Nat) (hu : ∀ x ∈ xs, 0 ≤ x) (hl : xs.length < 17592186044416) : Ev (fun k => triviumref02_Clean.f k xs m) (dg B (cl xs m)) := by
  have := clean_l0 xs m hu hl _ 0 rfl (by omega)
  rw [strip_dg (by decide) (dig_map _)] at this
  exact this
theorem same_l0 (xs ys : List Int) (hl : xs.length < 17592186044416) (he : xs.length = ys.length) : ∀ d i : Nat, xs.length - i = d → i ≤ xs.length → xs.take i = ys.take i →
    Ev (fun k => triviumref02_Same.l0 k xs ys i) (decide (xs = ys)) := by
  intro d
  induction d with
  | zero =>
    intro i hd hi hp
    refine ev_succ ?_
    simp only [triviumref02_Same.l0]
    refine ev_neg (by omega) (ev_now ?_)
    rw [List.take_of_length_le (by omega), List.take_of_length_le (by omega)] at hp
    simp [hp]
  | succ d ih =>
    intro i hd hi hp
    refine ev_succ ?_
    simp only [triviumref02_Same.l0]
    simp (disch := omega) only [w64]
    refine ev_pos (by omega) (ev_pos (by omega) (ev_pos (by omega) ?_))
    refine ev_ite (fun hr => ?_) (fun hr => ev_now ?_)
    · rw [cast_succ]
      exact ih (i + 1) (by omega) (by omega) (by rw [take_succ_rd xs i (by omega), take_succ_rd ys i (by omega), hp, hr])
    · have : xs ≠ ys := fun h => hr (by rw [h])
      simp [this]
theorem same_ev (xs ys : List Int) (hl : xs.length < 17592186044416) : Ev (fun k => triviumref02_Same.f k xs ys) (decide (xs = ys)) := by
  unfold triviumref02_Same.f
  refine ev_ite (fun h => ?_) (fun h => ev_now ?_)
  · exact same_l0 xs ys hl (by omega) _ 0 rfl (by omega) rfl
  · have : xs ≠ ys := fun e => h (by rw [e])
    simp [this]
def cmpI (x y : Int) : Int := if x < y then -1 else if y < x then 1 else 0
theorem val_lt_top {b : Int} (hb : 2 ≤ b) {p q s : List Int} {x y : Int} (hp : Dig b p) (hq : Dig b q) (hl : p.length = q.length) (hxy : x < y) :
    val b (p ++ x :: s) < val b (q ++ y :: s) := by
  rw [val_append, val_append, hl]
  have h1 := val_lt (b := b) (by omega) hp
  have h2 := val_nonneg (b := b) (by omega) hq
  have hpw : 0 < b ^ q.length := Int.pow_pos (by omega)
  have h3 : b ^ q.length * (val b (x :: s) + 1) ≤ b ^ q.length * val b (y :: s) := Int.mul_le_mul_of_nonneg_left (by simp only [val]; omega) (Int.le_of_lt hpw)
  rw [hl] at h1
  rw [Int.mul_add] at h3
  omega
theorem split_at (xs : List Int) (i : Nat) (h : i < xs.length) : xs = xs.take i ++ rd xs i :: xs.drop (i + 1) := by
  conv => lhs; rw [← List.take_append_drop (i + 1) xs, take_succ_rd xs i h]
  simp
theorem cmp_l0 {b : Int} (hb : 2 ≤ b) (f : Nat → List Int → List Int → Int → Option Int)
    (hf : ∀ k x0 x1 x5, f (k + 1) x0 x1 x5 = if x5 ≥ 0 then (if 0 ≤ x5 then (if x5 < (x0.length : Int) then (if x5 < (x1.length : Int) then (if (rd x0 x5) < (rd x1 x5) then (some (-1)) else (if (rd x0 x5) > (rd x1 x5) then (some 1) else (f k x0 x1 (wrap64 (x5 - 1))))) else (none)) else (none)) else (none)) else (some 0))
    (xs ys : List Int) (hx : Dig b xs) (hy : Dig b ys) (hl : xs.length < 17592186044416) (he : xs.length = ys.length) : ∀ i : Nat, i ≤ xs.length → xs.drop i = ys.drop i →
    Ev (fun k => f k xs ys ((i : Int) - 1)) (cmpI (val b xs) (val b ys)) := by
  intro i
  induction i with
  | zero =>
    intro hi hp
    refine ev_succ ?_
    simp only [hf]
    refine ev_neg (by omega) (ev_now ?_)
    simp only [List.drop_zero] at hp
    simp [cmpI, hp]
  | succ i ih =>
    intro hi hp
    refine ev_succ ?_
    simp only [hf, cast_pred]
    simp (disch := omega) only [w64]
    refine ev_pos (by omega) (ev_pos (by omega) (ev_pos (by omega) (ev_pos (by omega) ?_)))
    have ex := split_at xs i (by omega)
    have ey := split_at ys i (by omega)
    rw [← hp] at ey
    refine ev_ite (fun hr => ev_now ?_) (fun hr => ev_ite (fun hr' => ev_now ?_) (fun hr' => ?_))
    · have := val_lt_top hb (s := xs.drop (i + 1)) (hx.take i) (hy.take i) (by simp; omega) hr
      rw [← ex, ← ey] at this
      simp [cmpI, this]
    · have := val_lt_top hb (s := xs.drop (i + 1)) (hy.take i) (hx.take i) (by simp; omega) hr'
      rw [← ex, ← ey] at this
      simp [cmpI, this, Int.not_lt.2 (Int.le_of_lt this)]
    · refine ih (by omega) ?_
      have e : rd xs i = rd ys i := by omega
      have gx : xs.drop i = rd xs i :: xs.drop (i + 1) := by
        rw [List.drop_eq_getElem_cons (show i < xs.length by omega), rd_nat, List.getD, List.getElem?_eq_getElem (show i < xs.length by omega)]; rfl
      have gy : ys.drop i = rd ys i :: ys.drop (i + 1) := by
        rw [List.drop_eq_getElem_cons (show i < ys.length by omega), rd_nat, List.getD, List.getElem?_eq_getElem (show i < ys.length by omega)]; rfl
      rw [gx, gy, e, hp]
theorem dg_lt_of_len {b x y : Int} (hb : 2 ≤ b) (hx : 0 ≤ x) (hy : 0 ≤ y) (h : (dg b x).length < (dg b y).length) : x < y := by
  apply Int.lt_of_not_ge
  intro hge
  have h1 := val_lt (b := b) (by omega) (dg_dig hb x hx)
  rw [val_dg hb x hx] at h1
  have := dg_len_le hb _ y hy (Int.lt_of_le_of_lt hge h1)
  omega
theorem cmp_ev {x y : Int} (hx : 0 ≤ x) (hy : 0 ≤ y) (hl : (dg B x).length < 17592186044416) : Ev (fun k => nat_Cmp.f k (dg B x) (dg B y)) (cmpI x y) := by
  have hb : (2 : Int) ≤ B := by decide
  unfold nat_Cmp.f
  refine ev_ite (fun h => ev_now ?_) (fun h => ev_ite (fun h' => ev_now ?_) (fun h' => ?_))
  · have := dg_lt_of_len hb hx hy (by omega)
    simp [cmpI, this]
  · have := dg_lt_of_len hb hy hx (by omega)
    simp [cmpI, this, Int.not_lt.2 (Int.le_of_lt this)]
  · simp (disch := omega) only [w64]
    have := cmp_l0 hb nat_Cmp.l0 (fun _ _ _ _ => rfl) (dg B x) (dg B y) (dg_dig hb x hx) (dg_dig hb y hy) hl (by omega) _ (Nat.le_refl _) (by rw [List.drop_length, List.drop_eq_nil_of_le (by omega)])
    rwa [val_dg hb x hx, val_dg hb y hy] at this
theorem rcmp_ev {x y : Int} (hx : 0 ≤ x) (hy : 0 ≤ y) (hl : (dg D x).length < 17592186044416) : Ev (fun k => triviumref02_Cmp.f k (dg D x) (dg D y)) (cmpI x y) := by
  have hb : (2 : Int) ≤ D := by decide
  unfold triviumref02_Cmp.f
  refine ev_ite (fun h => ?_) (fun h => ev_ite (fun h' => ev_now ?_) (fun h' => ev_now ?_))
  · simp (disch := omega) only [w64]
    have := cmp_l0 hb triviumref02_Cmp.l0 (fun _ _ _ _ => rfl) (dg D x) (dg D y) (dg_dig hb x hx) (dg_dig hb y hy) hl (by omega) _ (Nat.le_refl _) (by rw [List.drop_length, List.drop_eq_nil_of_le (by omega)])
    rwa [val_dg hb x hx, val_dg hb y hy] at this
  · have := dg_lt_of_len hb hx hy (by omega)
    simp [cmpI, this]
  · have := dg_lt_of_len hb hy hx (by omega)
    simp [cmpI, this, Int.not_lt.2 (Int.le_of_lt this)]
end Go.Proofs.Ytiakcfkcmfmdiaa.B

end
section
namespace Go.Proofs.Ytiakcfkcmfmdiaa.B
set_option linter.unusedVariables false
set_option linter.unusedSimpArgs false
open Go Go.RowKit Go.Proofs.YtiakcfkcmfmdiaaW.PrintWords Go.Proofs.YtiakcfkcmfmdiaaW.PrintLast Go.Proofs.YtiakcfkcmfmdiaaW.PrintMore Go.Proofs.Ytiakcfkcmfmdiaa.F Go.Proofs.Ytiakcfkcmfmdiaa.A
theorem hD : (2 : Int) ≤ D := by decide
theorem hB : (2 : Int) ≤ B := by decide
theorem pow_base_mono {a b : Int} (ha : 0 ≤ a) (h : a ≤ b) : ∀ k : Nat, a ^ k ≤ b ^ k
  | 0 => by simp
  | k + 1 => by
    rw [Int.pow_succ, Int.pow_succ]
    have h1 : 0 ≤ a ^ k := Int.pow_nonneg ha
    exact Int.mul_le_mul (pow_base_mono ha h k) h ha (by have := pow_base_mono ha h k; omega)
theorem len_le {b x : Int} (hb : 2 ≤ b) {K : Nat} (h0 : 0 ≤ x) (h1 : x < 2 ^ K) : (dg b x).length ≤ K :=
  dg_len_le hb K x h0 (Int.lt_of_lt_of_le h1 (pow_base_mono (by decide) hb K))
theorem ediv_tdiv {a b : Int} (h : 0 ≤ a) : Int.tdiv a b = a / b := Int.tdiv_eq_ediv_of_nonneg h
theorem emod_tmod {a b : Int} (h : 0 ≤ a) : Int.tmod a b = a % b := Int.tmod_eq_emod_of_nonneg h
theorem drop_rd (xs : List Int) (i : Nat) (h : i < xs.length) : xs.drop i = rd xs i :: xs.drop (i + 1) := by
  rw [List.drop_eq_getElem_cons h, rd_nat, List.getD, List.getElem?_eq_getElem h]; rfl
theorem rd_nonneg_lt {b : Int} {xs : List Int} (h : Dig b xs) {i : Nat} (hi : i < xs.length) : 0 ≤ rd xs i ∧ rd xs i < b := h.rd (by omega) (by omega)
theorem muladd_l1 : ∀ c : Int, 0 ≤ c → ∀ out : List Int, Dig D out → c ≤ 9223372036854775807 → out.length + (dg D c).length < 17592186044416 →
    Ev (fun k => triviumref02_MulAdd.l1 k c out) (dg D (val D out + D ^ out.length * c)) := by
  refine dg_ind hD ?_ ?_
  · intro out ho hc hl
    refine ev_succ ?_
    simp only [triviumref02_MulAdd.l1]
    refine ev_neg (by omega) (ev_bind (rtrim_ev out (by omega)) (ev_now ?_))
    rw [strip_dg hD ho, Int.mul_zero, Int.add_zero]
  · intro c hc ih out ho hc2 hl
    have e : (dg D c).length = (dg D (c / D)).length + 1 := by rw [dg_pos hD hc]; rfl
    simp only [D] at *
    refine ev_succ ?_
    simp only [triviumref02_MulAdd.l1]
    rw [ediv_tdiv (by omega), emod_tmod (by omega)]
    simp (disch := omega) only [w64]
    refine ev_pos hc (ev_pos (by omega) ?_)
    have := ih (out ++ [c % 10000]) (ho.append (Dig.nil.cons (by omega) (by omega))) (by omega) (by rw [List.length_append]; simp; omega)
    rw [val_append, List.length_append] at this
    have ev : val 10000 out + 10000 ^ out.length * val 10000 [c % 10000] + 10000 ^ (out.length + [c % 10000].length) * (c / 10000) = val 10000 out + 10000 ^ out.length * c := by
      have h2 : 10000 ^ (out.length + [c % 10000].length) * (c / 10000) = 10000 ^ out.length * (10000 * (c / 10000)) := by
        rw [Int.pow_add, List.length_singleton, Int.pow_one, Int.mul_assoc]
      rw [h2, Int.add_assoc, ← Int.mul_add]
      congr 2
      simp only [val]; omega
    rw [ev] at this
    exact this
theorem muladd_l0 (xs : List Int) (m : Int) (hx : Dig D xs) (hm0 : 0 ≤ m) (hm : m ≤ B) (hl : xs.length < 1099511627776) : ∀ d i : Nat, xs.length - i = d → i ≤ xs.length → ∀ (c : Int) (out : List Int), 0 ≤ c → c ≤ B → Dig D out → out.length = i →
    Ev (fun k => triviumref02_MulAdd.l0 k xs m c out i) (dg D (val D out + D ^ out.length * (c + m * val D (xs.drop i)))) := by
  intro d
  induction d with
  | zero =>
    intro i hd hi c out hc0 hc ho hlo
    refine ev_succ ?_
    simp only [triviumref02_MulAdd.l0]
    rw [List.drop_eq_nil_of_le (by omega), val, Int.mul_zero, Int.add_zero]
    have hcl : (dg D c).length ≤ 9 := dg_len_le hD 9 c hc0 (by simp only [D, B] at *; omega)
    exact ev_neg (by omega) (muladd_l1 c hc0 out ho (by simp only [B] at hc; omega) (by omega))
  | succ d ih =>
    intro i hd hi c out hc0 hc ho hlo
    have hr := rd_nonneg_lt hx (show i < xs.length by omega)
    have hp0 : 0 ≤ rd xs i * m := Int.mul_nonneg hr.1 hm0
    have hp1 : rd xs i * m ≤ 9999 * m := Int.mul_le_mul_of_nonneg_right (by simp only [D] at hr; omega) hm0
    refine ev_succ ?_
    simp only [triviumref02_MulAdd.l0]
    simp only [B, D] at *
    simp (disch := omega) only [w64, ediv_tdiv, emod_tmod]
    refine ev_pos (by omega) (ev_pos (by omega) (ev_pos (by omega) ?_))
    have hq0 : 0 ≤ c + rd xs i * m := by omega
    generalize hp : rd xs i * m = p at *
    have := ih (i + 1) (by omega) (by omega) ((c + p) / 10000) (out ++ [(c + p) % 10000]) (by omega) (by omega) (ho.append (Dig.nil.cons (by omega) (by omega))) (by rw [List.length_append, hlo]; rfl)
    rw [cast_succ]
    have ev : val 10000 (out ++ [(c + p) % 10000]) + 10000 ^ (out ++ [(c + p) % 10000]).length * ((c + p) / 10000 + m * val 10000 (xs.drop (i + 1))) = val 10000 out + 10000 ^ out.length * (c + m * val 10000 (xs.drop i)) := by
      rw [val_append, List.length_append, Int.pow_add, drop_rd xs i (by omega)]
      simp only [val, List.length_cons, List.length_nil, Int.mul_zero, Int.add_zero, Nat.zero_add, Int.pow_succ, Int.pow_zero, Int.one_mul]
      rw [Int.mul_assoc, Int.add_assoc, ← Int.mul_add]
      congr 2
      have : m * (rd xs ↑i + 10000 * val 10000 (xs.drop (i + 1))) = p + 10000 * (m * val 10000 (xs.drop (i + 1))) := by
        rw [Int.mul_add, Int.mul_comm m, hp, ← Int.mul_assoc, Int.mul_comm m 10000, Int.mul_assoc]
      rw [this]
      omega
    rw [ev] at this
    exact this
theorem muladd_ev {x m c : Int} (hx : 0 ≤ x) (hm0 : 0 ≤ m) (hm : m ≤ B) (hc0 : 0 ≤ c) (hc : c ≤ B) (hl : (dg D x).length < 1099511627776) :
    Ev (fun k => triviumref02_MulAdd.f k (dg D x) m c) (dg D (x * m + c)) := by
  have := muladd_l0 (dg D x) m (dg_dig hD x hx) hm0 hm hl _ 0 rfl (by omega) c [] hc0 hc Dig.nil rfl
  rw [List.drop_zero, val_dg hD x hx] at this
  have e : val D [] + D ^ ([] : List Int).length * (c + m * x) = x * m + c := by
    simp [val, Int.mul_comm m x]; omega
  rw [e] at this
  exact this
theorem set_zeros (i : Nat) (q : List Int) (v : Int) : (List.replicate (i + 1) 0 ++ q).set i v = List.replicate i 0 ++ v :: q := by
  induction i with
  | zero => rfl
  | succ i ih => rw [List.replicate_succ, List.cons_append, List.set_cons_succ, ih]; rfl
theorem divsmall_l0 (xs : List Int) (d : Int) (hx : Dig D xs) (hd0 : 0 < d) (hd : d ≤ B) (hl : xs.length < 1099511627776) : ∀ i : Nat, i ≤ xs.length → ∀ (q : List Int) (r : Int), Dig D q → 0 ≤ r → r < d →
    d * val D q + r = val D (xs.drop i) → q.length + i = xs.length →
    Ev (fun k => triviumref02_DivSmall.l0 k xs d (List.replicate i 0 ++ q) r ((i : Int) - 1)) (dg D (val D xs / d), val D xs % d) := by
  intro i
  induction i with
  | zero =>
    intro hi q r hq hr0 hr he hlq
    refine ev_succ ?_
    simp only [triviumref02_DivSmall.l0]
    refine ev_neg (by omega) (ev_bind (rtrim_ev _ (by simp; omega)) (ev_now ?_))
    rw [List.drop_zero] at he
    have e1 : val D xs / d = val D q := by
      rw [← he, Int.mul_add_ediv_left _ _ (by omega), Int.ediv_eq_zero_of_lt hr0 hr]; omega
    have e2 : val D xs % d = r := by
      rw [← he, Int.mul_add_emod_self_left, Int.emod_eq_of_lt hr0 hr]
    rw [e1, e2]
    simp only [List.replicate_zero, List.nil_append]
    rw [strip_dg hD hq]
  | succ i ih =>
    intro hi q r hq hr0 hr he hlq
    have ha := rd_nonneg_lt hx (show i < xs.length by omega)
    simp only [B, D] at *
    refine ev_succ ?_
    simp only [triviumref02_DivSmall.l0, cast_pred]
    have ht0 : 0 ≤ 10000 * r + rd xs i := by omega
    simp (disch := omega) only [w64]
    rw [ediv_tdiv ht0, emod_tmod ht0]
    have hqd : (10000 * r + rd xs i) / d < 10000 := Int.ediv_lt_of_lt_mul hd0 (by omega)
    have hqd0 : 0 ≤ (10000 * r + rd xs i) / d := Int.ediv_nonneg ht0 (by omega)
    have hm0 : 0 ≤ (10000 * r + rd xs i) % d := Int.emod_nonneg _ (by omega)
    have hm1 : (10000 * r + rd xs i) % d < d := Int.emod_lt_of_pos _ hd0
    have hdm := Int.mul_ediv_add_emod (10000 * r + rd xs i) d
    simp (disch := omega) only [w64]
    refine ev_pos (by omega) (ev_pos (by omega) (ev_pos (by omega) (ev_neg (by omega) (ev_pos (by simp; omega) ?_))))
    rw [Int.toNat_natCast, set_zeros]
    refine ih (by omega) _ _ (hq.cons hqd0 hqd) hm0 hm1 ?_ (by simp; omega)
    rw [drop_rd xs i (by omega)]
    simp only [val]
    rw [← he]
    generalize (10000 * r + rd xs i) / d = s at *
    generalize (10000 * r + rd xs i) % d = u at *
    rw [Int.mul_add, Int.mul_left_comm d 10000]
    omega
theorem divsmall_ev {x d : Int} (hx : 0 ≤ x) (hd0 : 0 < d) (hd : d ≤ B) (hl : (dg D x).length < 1099511627776) :
    Ev (fun k => triviumref02_DivSmall.f k (dg D x) d) (dg D (x / d), x % d) := by
  have := divsmall_l0 (dg D x) d (dg_dig hD x hx) hd0 hd hl _ (Nat.le_refl _) [] 0 Dig.nil (by omega) hd0 (by rw [List.drop_length]; simp [val]) (by simp)
  rw [val_dg hD x hx, List.append_nil] at this
  unfold triviumref02_DivSmall.f
  simp (disch := omega) only [w64, Int.toNat_natCast]
  exact ev_pos (by omega) (ev_pos (by omega) this)
theorem back_l0 : ∀ x : Int, 0 ≤ x → ∀ out : List Int, (dg D x).length < 1099511627776 → out.length + (dg B x).length < 17592186044416 → Ev (fun k => triviumref02_Back.l0 k (dg D x) out) (out ++ dg B x) := by
  refine dg_ind hB ?_ ?_
  · intro out hl ho
    refine ev_succ ?_
    simp only [triviumref02_Back.l0, dg_zero]
    exact ev_neg (by simp) (ev_now (by simp))
  · intro x hx ih out hl ho
    refine ev_succ ?_
    simp only [triviumref02_Back.l0]
    have hne : (dg D x).length ≠ 0 := by
      intro h
      have := (dg_nil_iff hD (Int.le_of_lt hx)).1 (List.length_eq_zero_iff.1 h)
      omega
    have e : (dg B x).length = (dg B (x / B)).length + 1 := by rw [dg_pos hB hx]; rfl
    refine ev_pos (by omega) (ev_bind (divsmall_ev (by omega) (by decide) (Int.le_refl _) hl) (ev_pos (by omega) ?_))
    have hm0 : 0 ≤ x % B := by simp only [B]; omega
    have hm1 : x % B < B := by simp only [B]; omega
    dsimp only
    rw [wu64 hm0 (by simp only [B] at hm1 ⊢; omega)]
    have hle : (dg D (x / B)).length ≤ (dg D x).length := by
      apply dg_len_le hD _ _ (by simp only [B]; omega)
      have h1 := val_lt (b := D) (by decide) (dg_dig hD x (by omega))
      rw [val_dg hD x (by omega)] at h1
      have : x / B ≤ x := by simp only [B]; omega
      omega
    have := ih (out ++ [x % B]) (by omega) (by simp; omega)
    rw [dg_pos hB hx]
    simpa using this
theorem back_ev {x : Int} (hx : 0 ≤ x) (hl : (dg D x).length < 1099511627776) : Ev (fun k => triviumref02_Back.f k (dg D x)) (dg B x) := by
  have hle : (dg B x).length ≤ (dg D x).length := by
    apply dg_len_le hB _ _ hx
    have h1 := val_lt (b := D) (by decide) (dg_dig hD x (by omega))
    rw [val_dg hD x (by omega)] at h1
    exact Int.lt_of_lt_of_le h1 (pow_base_mono (by decide) (by decide) _)
  have := back_l0 x hx [] hl (by simp; omega)
  rw [List.nil_append] at this
  exact this
theorem of_l0 (xs : List Int) (hx : Dig B xs) (hl : xs.length < 1000000000) : ∀ i : Nat, i ≤ xs.length → ∀ acc : Int, 0 ≤ acc → acc < B ^ (xs.length - i) →
    Ev (fun k => triviumref02_Of.l0 k xs (dg D acc) ((i : Int) - 1)) (dg D (acc * B ^ i + val B (xs.take i))) := by
  intro i
  induction i with
  | zero =>
    intro hi acc h0 h1
    refine ev_succ ?_
    simp only [triviumref02_Of.l0]
    refine ev_neg (by omega) (ev_now ?_)
    simp [val]
  | succ i ih =>
    intro hi acc h0 h1
    have ha := rd_nonneg_lt hx (show i < xs.length by omega)
    have hal : (dg D acc).length < 1099511627776 := by
      have : (dg D acc).length ≤ 32 * (xs.length - (i + 1)) := len_le hD h0 (by
        have e : (B : Int) = 2 ^ 32 := by decide
        rw [e, ← Int.pow_mul] at h1; exact h1)
      omega
    refine ev_succ ?_
    simp only [triviumref02_Of.l0, cast_pred]
    have e1 : wrap64 (Int.tmod (rd xs i) 4294967296) = rd xs i := by
      rw [emod_tmod ha.1, Int.emod_eq_of_lt ha.1 ha.2, w64 (by omega) (by have := ha.2; simp only [B] at this; omega)]
    rw [e1]
    simp (disch := omega) only [w64]
    refine ev_pos (by omega) (ev_pos (by omega) (ev_pos (by omega) (ev_bind (muladd_ev h0 (by decide) (Int.le_refl _) ha.1 (by omega) hal) ?_)))
    have h2 : acc * B + rd xs i < B ^ (xs.length - i) := by
      have e : xs.length - i = (xs.length - (i + 1)) + 1 := by omega
      rw [e, Int.pow_succ]
      have h3 : (acc + 1) * B ≤ B ^ (xs.length - (i + 1)) * B := Int.mul_le_mul_of_nonneg_right (by omega) (by decide)
      rw [Int.add_mul] at h3
      omega
    have := ih (by omega) (acc * B + rd xs i) (by have := Int.mul_nonneg h0 (show (0 : Int) ≤ B by decide); omega) h2
    have e3 : (acc * B + rd xs i) * B ^ i + val B (xs.take i) = acc * B ^ (i + 1) + val B (xs.take (i + 1)) := by
      rw [take_succ_rd xs i (by omega), val_append, List.length_take, Nat.min_eq_left (by omega), Int.pow_succ, Int.add_mul]
      simp only [val, Int.mul_zero, Int.add_zero]
      rw [Int.mul_comm (rd xs ↑i) (B ^ i), Int.mul_assoc acc, Int.mul_comm B]
      omega
    rw [e3] at this
    exact this
theorem of_dig (xs : List Int) (hx : Dig B xs) (hl : xs.length < 1000000000) : Ev (fun k => triviumref02_Of.f k xs) (dg D (val B xs)) := by
  have := of_l0 xs hx hl _ (Nat.le_refl _) 0 (Int.le_refl _) (by rw [Nat.sub_self]; decide)
  rw [dg_zero, List.take_length, Int.zero_mul, Int.zero_add] at this
  unfold triviumref02_Of.f
  simp (disch := omega) only [w64]
  exact this
theorem of_ev {x : Int} (hx : 0 ≤ x) (hl : (dg B x).length < 1000000000) : Ev (fun k => triviumref02_Of.f k (dg B x)) (dg D x) := by
  have := of_dig (dg B x) (dg_dig hB x hx) hl
  rwa [val_dg hB x hx] at this
end Go.Proofs.Ytiakcfkcmfmdiaa.B

end
section
namespace Go.Proofs.Ytiakcfkcmfmdiaa.B
set_option linter.unusedVariables false
set_option linter.unusedSimpArgs false
open Go Go.RowKit Go.Proofs.YtiakcfkcmfmdiaaW.PrintWords Go.Proofs.YtiakcfkcmfmdiaaW.PrintLast Go.Proofs.YtiakcfkcmfmdiaaW.PrintMore Go.Proofs.Ytiakcfkcmfmdiaa.F Go.Proofs.Ytiakcfkcmfmdiaa.A
theorem limb_add {a b c : Int} (ha0 : 0 ≤ a) (ha : a < B) (hb0 : 0 ≤ b) (hb : b < B) (hc0 : 0 ≤ c) (hc : c < B) : limb_Add.f a b c = some ((a + b + c) % B, (a + b + c) / B) := by
  simp only [B] at *
  unfold limb_Add.f
  rw [mask32 ha0 (by omega), mask32 hb0 (by omega), mask32 hc0 (by omega), Int.emod_eq_of_lt ha0 ha, Int.emod_eq_of_lt hb0 hb, Int.emod_eq_of_lt hc0 hc]
  simp (disch := omega) only [wu64]
  rw [mask32 (by omega) (by omega)]
theorem limb_sub {a b c : Int} (ha0 : 0 ≤ a) (ha : a < B) (hb0 : 0 ≤ b) (hb : b < B) (hc0 : 0 ≤ c) (hc : c ≤ 1) :
    limb_Sub.f a b c = some (if a < b + c then (a + B - (b + c), 1) else (a - (b + c), 0)) := by
  simp only [B] at *
  unfold limb_Sub.f
  rw [mask32 ha0 (by omega), mask32 hb0 (by omega), mask32 hc0 (by omega), Int.emod_eq_of_lt ha0 ha, Int.emod_eq_of_lt hb0 hb, Int.emod_eq_of_lt hc0 (show c < 4294967296 by omega)]
  by_cases h : a < b + c
  · rw [wu64 (x := b + c) (by omega) (by omega), if_pos h, if_pos h, wu64 (x := b + c - a) (by omega) (by omega), wu64 (x := b + c - a + 4294967295) (by omega) (by omega)]
    have e : (b + c - a + 4294967295) / 4294967296 = 1 := by omega
    rw [e, Int.one_mul, wu64 (x := (4294967296 : Int)) (by omega) (by omega), wu64 (x := a + 4294967296) (by omega) (by omega), wu64 (by omega) (by omega)]
  · rw [wu64 (x := b + c) (by omega) (by omega), if_neg h, if_neg h]
    simp (disch := omega) only [wu64, Int.zero_mul, Int.add_zero]
theorem rd_ge (xs : List Int) {i : Int} (h : (xs.length : Int) ≤ i) : rd xs i = 0 := by
  unfold rd
  rw [List.getD, List.getElem?_eq_none (by omega)]; rfl
theorem at_eq (xs : List Int) {i : Int} (h : 0 ≤ i) : nat_at.f xs i = some (rd xs i) := by
  unfold nat_at.f
  by_cases hi : i ≥ (xs.length : Int)
  · rw [if_pos hi, rd_ge xs hi]
  · rw [if_neg hi, if_pos h, if_pos (by omega)]
theorem val_drop (b : Int) (xs : List Int) (i : Nat) : val b (xs.drop i) = rd xs i + b * val b (xs.drop (i + 1)) := by
  by_cases h : i < xs.length
  · rw [drop_rd xs i h]; rfl
  · rw [List.drop_eq_nil_of_le (by omega), List.drop_eq_nil_of_le (by omega), rd_ge xs (by omega)]; simp [val]
theorem dig_rd0 {b : Int} (hb : 0 < b) {xs : List Int} (h : Dig b xs) (i : Nat) : 0 ≤ rd xs i ∧ rd xs i < b := by
  by_cases hi : i < xs.length
  · exact rd_nonneg_lt h hi
  · rw [rd_ge xs (by omega)]; omega
theorem set_pre (pre : List Int) (m : Nat) (v : Int) {i : Nat} (h : pre.length = i) : (pre ++ List.replicate (m + 1) 0).set i v = (pre ++ [v]) ++ List.replicate m 0 := by
  subst h
  rw [List.set_append_right _ _ (Nat.le_refl _), Nat.sub_self, List.replicate_succ, List.set_cons_zero]
  simp
theorem dg_len_mono {b x y : Int} (hb : 2 ≤ b) (hx : 0 ≤ x) (h : x ≤ y) : (dg b x).length ≤ (dg b y).length := by
  apply dg_len_le hb _ _ hx
  have h1 := val_lt (b := b) (by omega) (dg_dig hb y (by omega))
  rw [val_dg hb y (by omega)] at h1
  omega
theorem rsub_l0 (xs ys : List Int) (hx : Dig D xs) (hy : Dig D ys) (hle : ys.length ≤ xs.length) (hv : val D ys ≤ val D xs) (hl : xs.length < 1099511627776) : ∀ d i : Nat, xs.length - i = d → i ≤ xs.length → ∀ (pre : List Int) (c : Int), Dig D pre → pre.length = i → 0 ≤ c → c ≤ 1 →
    val D pre + D ^ i * (val D (xs.drop i) - val D (ys.drop i) - c) = val D xs - val D ys →
    Ev (fun k => triviumref02_Sub.l0 k xs ys pre c i) (dg D (val D xs - val D ys)) := by
  intro d
  induction d with
  | zero =>
    intro i hd hi pre c hp hpl hc0 hc he
    have hin : i = xs.length := by omega
    subst hin
    refine ev_succ ?_
    simp only [triviumref02_Sub.l0]
    refine ev_neg (by omega) (ev_bind (rtrim_ev _ (by omega)) (ev_now ?_))
    rw [List.drop_eq_nil_of_le (by omega), List.drop_eq_nil_of_le (by omega)] at he
    simp only [val, Int.sub_self, Int.zero_sub] at he
    have h1 := val_lt (b := D) (by decide) hp
    rw [hpl] at h1
    have hc : c = 0 := by
      rcases (show c = 0 ∨ c = 1 by omega) with h | h
      · exact h
      · rw [h, Int.mul_neg, Int.mul_one] at he; omega
    rw [hc, Int.neg_zero, Int.mul_zero, Int.add_zero] at he
    rw [strip_dg hD hp, he]
  | succ d ih =>
    intro i hd hi pre c hp hpl hc0 hc he
    have h1 := dig_rd0 (by decide) hx i
    have h2 := dig_rd0 (by decide) hy i
    have step : ∀ v c' : Int, 0 ≤ v → v < D → v - D * c' = rd xs i - rd ys i - c → 0 ≤ c' → c' ≤ 1 → Ev (fun k => triviumref02_Sub.l0 k xs ys (pre ++ [v]) c' ((i : Int) + 1)) (dg D (val D xs - val D ys)) := by
      intro v c' hv0 hv1 hvc hc0' hc'
      rw [cast_succ]
      refine ih (i + 1) (by omega) (by omega) (pre ++ [v]) c' (hp.append (Dig.nil.cons hv0 hv1)) (by simp [hpl]) hc0' hc' ?_
      rw [← he, val_append, hpl, val_drop D xs i, val_drop D ys i, Int.pow_succ, Int.mul_assoc, Int.add_assoc, ← Int.mul_add]
      congr 2
      simp only [val, D, Int.mul_zero, Int.add_zero] at *
      omega
    refine ev_succ ?_
    simp only [triviumref02_Sub.l0]
    simp only [D] at h1 h2 step
    simp (disch := omega) only [w64]
    refine ev_pos (by omega) (ev_pos (by omega) (ev_ite (fun ha => ev_ite (fun hb => ev_pos (by omega) (step _ _ ?_ ?_ ?_ ?_ ?_)) (fun hb => ev_pos (by omega) (step _ _ ?_ ?_ ?_ ?_ ?_))) (fun ha => ?_)))
    all_goals first
      | omega
      | (have hz := rd_ge ys (i := (i : Int)) (by omega)
         refine ev_ite (fun hb => ev_pos (by omega) (step _ _ ?_ ?_ ?_ ?_ ?_)) (fun hb => ev_pos (by omega) (step _ _ ?_ ?_ ?_ ?_ ?_)) <;> omega)
theorem rsub_ev {x y : Int} (hy : 0 ≤ y) (hxy : y ≤ x) (hl1 : (dg D x).length < 1099511627776) : Ev (fun k => triviumref02_Sub.f k (dg D x) (dg D y)) (dg D (x - y)) := by
  have hx : 0 ≤ x := by omega
  have := rsub_l0 (dg D x) (dg D y) (dg_dig hD x hx) (dg_dig hD y hy) (dg_len_mono hD hy hxy) (by rw [val_dg hD x hx, val_dg hD y hy]; exact hxy) hl1 _ 0 rfl (by omega) [] 0 Dig.nil rfl (Int.le_refl _) (by decide) (by simp [val])
  rw [val_dg hD x hx, val_dg hD y hy] at this
  exact this
end Go.Proofs.Ytiakcfkcmfmdiaa.B

end
section
namespace Go.Proofs.Ytiakcfkcmfmdiaa.B
set_option linter.unusedVariables false
set_option linter.unusedSimpArgs false
open Go Go.RowKit Go.Proofs.YtiakcfkcmfmdiaaW.PrintWords Go.Proofs.YtiakcfkcmfmdiaaW.PrintLast Go.Proofs.YtiakcfkcmfmdiaaW.PrintMore Go.Proofs.Ytiakcfkcmfmdiaa.F Go.Proofs.Ytiakcfkcmfmdiaa.A
theorem val_set (b : Int) : ∀ (xs : List Int) (i : Nat) (v : Int), i < xs.length → val b (xs.set i v) = val b xs + b ^ i * (v - rd xs i)
  | [], i, v, h => by simp at h
  | x :: xs, 0, v, h => by simp [val, rd]; omega
  | x :: xs, i + 1, v, h => by
    have ih := val_set b xs i v (by simpa using h)
    have e : rd (x :: xs) ((i + 1 : Nat) : Int) = rd xs (i : Int) := by simp [rd]
    rw [List.set_cons_succ, val, val, ih, e, Int.pow_succ]
    generalize val b xs = w
    generalize b ^ i = p
    grind
theorem Dig.set {b : Int} {xs : List Int} (h : Dig b xs) (i : Nat) {v : Int} (h0 : 0 ≤ v) (h1 : v < b) : Dig b (xs.set i v) := by
  intro y hy
  rcases List.mem_or_eq_of_mem_set hy with hy | rfl
  · exact h y hy
  · exact ⟨h0, h1⟩
theorem val_take_succ (b : Int) (xs : List Int) (i : Nat) (h : i < xs.length) : val b (xs.take (i + 1)) = val b (xs.take i) + b ^ i * rd xs i := by
  rw [take_succ_rd xs i h, val_append, List.length_take, Nat.min_eq_left (by omega)]
  simp [val]
section
variable (xs ys : List Int) (hx : Dig D xs) (hy : Dig D ys) (hl : xs.length + ys.length < 1099511627776)
include hx hy hl
end
theorem div_uniq {a b q r : Int} (hb : 0 < b) (hr0 : 0 ≤ r) (hr : r < b) (h : b * q + r = a) : a / b = q ∧ a % b = r := by
  subst h
  exact ⟨by rw [Int.mul_add_ediv_left _ _ (by omega), Int.ediv_eq_zero_of_lt hr0 hr, Int.add_zero], by rw [Int.mul_add_emod_self_left, Int.emod_eq_of_lt hr0 hr]⟩
set_option linter.unusedSectionVars false
section
variable (xs : List Int) (hx : Dig D xs) (y : Int) (hy : 0 < y) (hl : xs.length < 549755813887) (hyl : (dg D y).length < 549755813887)
include hx hy hl hyl
theorem div_l1 (i : Nat) (hi : i < xs.length) (res : List Int × List Int) (q : List Int) (r' : Int) (hr0 : 0 ≤ r') (hr : r' < D * y)
    (K : ∀ lo : Int, 0 ≤ lo → lo < D → lo * y ≤ r' → r' < (lo + 1) * y → Ev (fun k => triviumref02_Div.l0 k xs (dg D y) (List.replicate i 0 ++ lo :: q) (dg D (r' - lo * y)) ((i : Int) - 1)) res) :
    ∀ (n : Nat) (lo hi : Int), (hi - lo).toNat = n → 0 ≤ lo → lo < hi → hi ≤ 10000 → lo * y ≤ r' → r' < hi * y →
    Ev (fun k => triviumref02_Div.l1 k xs (dg D y) (List.replicate (i + 1) 0 ++ q) (dg D r') (i : Int) lo hi) res := by
  have hrl : (dg D r').length ≤ (dg D y).length + 1 := by
    refine dg_len_le hD _ _ hr0 ?_
    have h1 := val_lt (b := D) (by decide) (dg_dig hD y (by omega))
    rw [val_dg hD y (by omega)] at h1
    rw [Int.pow_succ, Int.mul_comm]
    exact Int.lt_of_lt_of_le hr (Int.mul_le_mul_of_nonneg_left (Int.le_of_lt h1) (by decide))
  intro n
  induction n using Nat.strongRecOn with
  | ind n ih =>
    intro lo hi' hn h0 hlh hh hlo hhi
    refine ev_succ ?_
    simp only [triviumref02_Div.l1]
    have hB' : (10000 : Int) ≤ B := by decide
    simp (disch := omega) only [w64, ediv_tdiv]
    refine ev_ite (fun hgt => ?_) (fun hle => ?_)
    · have hm0 : 0 ≤ (lo + hi') / 2 := by omega
      refine ev_bind (muladd_ev (by omega) hm0 (by omega) (Int.le_refl _) (by decide) (by omega)) ?_
      rw [Int.add_zero, Int.mul_comm y]
      have hmy : 0 ≤ (lo + hi') / 2 * y := Int.mul_nonneg hm0 (by omega)
      have hml : (dg D ((lo + hi') / 2 * y)).length < 17592186044416 := by
        have : (dg D ((lo + hi') / 2 * y)).length ≤ (dg D y).length + 1 := by
          refine dg_len_le hD _ _ hmy ?_
          have h1 := val_lt (b := D) (by decide) (dg_dig hD y (by omega))
          rw [val_dg hD y (by omega)] at h1
          rw [Int.pow_succ, Int.mul_comm _ (D : Int)]
          have h2 : (lo + hi') / 2 * y ≤ (D - 1) * y := Int.mul_le_mul_of_nonneg_right (by simp only [D]; omega) (by omega)
          have h3 : (D : Int) * y ≤ D * D ^ (dg D y).length := Int.mul_le_mul_of_nonneg_left (Int.le_of_lt h1) (by decide)
          rw [Int.sub_mul, Int.one_mul] at h2
          omega
        omega
      refine ev_bind (rcmp_ev hmy hr0 hml) (ev_ite (fun hc => ?_) (fun hc => ?_))
      · refine ih _ ?_ _ _ rfl hm0 (by omega) hh ?_ hhi
        · omega
        · unfold cmpI at hc; split at hc
          · omega
          · split at hc <;> omega
      · refine ih _ ?_ _ _ rfl h0 (by omega) (by omega) hlo ?_
        · omega
        · unfold cmpI at hc; split at hc
          · omega
          · split at hc <;> omega
    · have he : hi' = lo + 1 := by omega
      subst he
      refine ev_pos (by omega) (ev_pos (by simp; omega) (ev_bind (muladd_ev (by omega) h0 (by omega) (Int.le_refl _) (by decide) (by omega)) ?_))
      rw [Int.add_zero, Int.mul_comm y]
      refine ev_bind (rsub_ev (Int.mul_nonneg h0 (by omega)) hlo (by omega)) ?_
      rw [Int.toNat_natCast, set_zeros]
      exact K lo h0 (by simp only [D]; omega) hlo hhi
theorem div_l0 : ∀ i : Nat, i ≤ xs.length → ∀ (q : List Int) (r : Int), Dig D q → 0 ≤ r → r < y → y * val D q + r = val D (xs.drop i) → q.length + i = xs.length →
    Ev (fun k => triviumref02_Div.l0 k xs (dg D y) (List.replicate i 0 ++ q) (dg D r) ((i : Int) - 1)) (dg D (val D xs / y), dg D (val D xs % y)) := by
  intro i
  induction i with
  | zero =>
    intro hi q r hq hr0 hr he hlq
    refine ev_succ ?_
    simp only [triviumref02_Div.l0]
    refine ev_neg (by omega) (ev_bind (rtrim_ev _ (by simp; omega)) (ev_now ?_))
    rw [List.drop_zero] at he
    obtain ⟨e1, e2⟩ := div_uniq hy hr0 hr he
    rw [e1, e2]
    simp only [List.replicate_zero, List.nil_append]
    rw [strip_dg hD hq]
  | succ i ih =>
    intro hi q r hq hr0 hr he hlq
    have ha := rd_nonneg_lt hx (show i < xs.length by omega)
    refine ev_succ ?_
    simp only [triviumref02_Div.l0, cast_pred, Option.bind_some]
    have hrl := dg_len_mono hD hr0 (Int.le_of_lt hr)
    have hr'0 : 0 ≤ rd xs i + D * r := by have := Int.mul_nonneg (show (0 : Int) ≤ D by decide) hr0; omega
    have hr' : rd xs i + D * r < D * y := by
      have := Int.mul_le_mul_of_nonneg_left (show r + 1 ≤ y by omega) (show (0 : Int) ≤ D by decide)
      rw [Int.mul_add] at this
      omega
    have hdr : Dig D ([rd xs i] ++ dg D r) := (dg_dig hD r hr0).cons ha.1 ha.2
    have hev : strip ([rd xs i] ++ dg D r) = dg D (rd xs i + D * r) := by
      rw [strip_dg hD hdr]
      simp only [List.cons_append, List.nil_append, val, val_dg hD r hr0]
    refine ev_pos (by omega) (ev_pos (by omega) (ev_pos (by omega) (ev_pos (by simp; omega) (ev_bind (rtrim_ev _ (by simp; omega)) ?_))))
    rw [hev]
    refine div_l1 xs hx y hy hl hyl i (by omega) _ q _ hr'0 hr' ?_ _ 0 10000 rfl (by omega) (by omega) (by omega) (by omega) hr'
    intro lo h0 h1 h2 h3
    refine ih (by omega) _ _ (hq.cons h0 h1) (by omega) (by rw [Int.add_mul, Int.one_mul] at h3; omega) ?_ (by simp; omega)
    rw [drop_rd xs i (by omega)]
    simp only [val]
    rw [← he]
    generalize val D q = s
    generalize (D : Int) = dd
    grind
end
theorem rdiv_ev {x y : Int} (hx : 0 ≤ x) (hy : 0 < y) (hl1 : (dg D x).length < 549755813887) (hl2 : (dg D y).length < 549755813887) : Ev (fun k => triviumref02_Div.f k (dg D x) (dg D y)) (dg D (x / y), dg D (x % y)) := by
  have := div_l0 (dg D x) (dg_dig hD x hx) y hy hl1 hl2 _ (Nat.le_refl _) [] 0 Dig.nil (by omega) hy (by rw [List.drop_length]; simp [val]) (by simp)
  rw [val_dg hD x hx, List.append_nil, dg_zero] at this
  unfold triviumref02_Div.f
  simp (disch := omega) only [w64, Int.toNat_natCast]
  exact ev_pos (by omega) (ev_pos (by omega) this)
end Go.Proofs.Ytiakcfkcmfmdiaa.B

end
section
namespace Go.Proofs.Ytiakcfkcmfmdiaa.B
set_option linter.unusedVariables false
set_option linter.unusedSimpArgs false
open Go Go.RowKit Go.Proofs.YtiakcfkcmfmdiaaW.PrintWords Go.Proofs.YtiakcfkcmfmdiaaW.PrintLast Go.Proofs.YtiakcfkcmfmdiaaW.PrintMore Go.Proofs.Ytiakcfkcmfmdiaa.F Go.Proofs.Ytiakcfkcmfmdiaa.A
theorem len2_eq {x : Int} {n : Nat} (h0 : 2 ^ n ≤ x) (h1 : x < 2 ^ (n + 1)) : (dg 2 x).length = n + 1 := by
  have hp : (0 : Int) < 2 ^ n := Int.pow_pos (by decide)
  have a := dg_len_le (b := 2) (by decide) (n + 1) x (by omega) h1
  have c := dg_len_ge (b := 2) (by decide) n x (by omega) h0
  omega
theorem emod_pow_succ (x : Int) (k : Nat) : x % 2 ^ (k + 1) = x % 2 ^ k + 2 ^ k * (x / 2 ^ k % 2) := by
  have hp : (0 : Int) < 2 ^ k := Int.pow_pos (by decide)
  have h1 := Int.mul_ediv_add_emod x (2 ^ k)
  have h2 := Int.mul_ediv_add_emod (x / 2 ^ k) 2
  have h3 : (0 : Int) ≤ x % 2 ^ k := Int.emod_nonneg _ (by omega)
  have h4 : x % 2 ^ k < 2 ^ k := Int.emod_lt_of_pos _ hp
  have h5 : (x / 2 ^ k % 2) = 0 ∨ (x / 2 ^ k % 2) = 1 := by omega
  have e : x = 2 ^ (k + 1) * (x / 2 ^ k / 2) + (x % 2 ^ k + 2 ^ k * (x / 2 ^ k % 2)) := by
    have : (2 : Int) ^ (k + 1) * (x / 2 ^ k / 2) = 2 ^ k * (2 * (x / 2 ^ k / 2)) := by rw [Int.pow_succ, Int.mul_assoc]
    rw [this]
    have : 2 ^ k * (2 * (x / 2 ^ k / 2)) + 2 ^ k * (x / 2 ^ k % 2) = 2 ^ k * (x / 2 ^ k) := by rw [← Int.mul_add, h2]
    omega
  conv => lhs; rw [e]
  rw [Int.mul_add_emod_self_left, Int.emod_eq_of_lt]
  · rcases h5 with h | h <;> rw [h] <;> omega
  · rw [Int.pow_succ]
    rcases h5 with h | h <;> rw [h] <;> omega
theorem shr_eq {x : Int} (i : Nat) (hi : i ≤ 64) : shr .u64 x (i : Int) = x / 2 ^ i := by
  unfold shr
  rw [Int.toNat_natCast, show min i IntKind.u64.bits = i by simp [IntKind.bits]; omega]
theorem shl_eq {x : Int} (i : Nat) (hi : i ≤ 64) (h0 : 0 ≤ x * 2 ^ i) (h1 : x * 2 ^ i ≤ 18446744073709551615) : shl .u64 x (i : Int) = x * 2 ^ i := by
  unfold shl
  rw [Int.toNat_natCast, show min i IntKind.u64.bits = i by simp [IntKind.bits]; omega, wu64 h0 h1]
theorem ediv_le_self' {x : Int} (h : 0 ≤ x) (k : Nat) : 0 ≤ x / 2 ^ k ∧ x / 2 ^ k ≤ x := by
  have hp : (0 : Int) < 2 ^ k := Int.pow_pos (by decide)
  exact ⟨Int.ediv_nonneg h (by omega), Int.ediv_le_self _ h⟩
theorem limb_bits_l0 {x : Int} (h0 : 0 ≤ x) (h1 : x < B) : ∀ d i : Nat, 32 - i = d → i ≤ 32 → Ev (fun k => limb_Bits.l0 k x ((dg 2 (x % 2 ^ i)).length : Int) i) ((dg 2 x).length : Int) := by
  intro d
  induction d with
  | zero =>
    intro i hd hi
    have : i = 32 := by omega
    subst this
    refine ev_succ ?_
    simp only [limb_Bits.l0]
    refine ev_neg (by omega) (ev_now ?_)
    rw [Int.emod_eq_of_lt h0 (by simp only [B] at h1; omega)]
  | succ d ih =>
    intro i hd hi
    have hs := ediv_le_self' h0 i
    simp only [B] at h1
    refine ev_succ ?_
    simp only [limb_Bits.l0]
    rw [shr_eq i (by omega), bit1 hs.1 (by omega)]
    simp (disch := omega) only [w64]
    refine ev_pos (by omega) (ev_pos (by omega) ?_)
    have hp : (0 : Int) < 2 ^ i := Int.pow_pos (by decide)
    have a3 : (0 : Int) ≤ x % 2 ^ i := Int.emod_nonneg _ (by omega)
    have a4 : x % 2 ^ i < 2 ^ i := Int.emod_lt_of_pos _ hp
    have := ih (i + 1) (by omega) (by omega)
    rw [emod_pow_succ] at this
    refine ev_ite (fun hb => ?_) (fun hb => ?_)
    · rw [hb, Int.mul_one, len2_eq (n := i) (by omega) (by rw [Int.pow_succ]; omega)] at this
      exact this
    · rw [show x / 2 ^ i % 2 = 0 by omega, Int.mul_zero, Int.add_zero] at this
      exact this
theorem limb_bits {x : Int} (h0 : 0 ≤ x) (h1 : x < B) : Ev (fun k => limb_Bits.f k x) ((dg 2 x).length : Int) := by
  have := limb_bits_l0 h0 h1 _ 0 rfl (by omega)
  rw [show x % 2 ^ 0 = 0 by simp [Int.emod_one], dg_zero] at this
  exact this
theorem rd_last_ne {b n : Int} (hb : 2 ≤ b) : ∀ n : Int, 0 ≤ n → 0 < n → rd (dg b n) (((dg b n).length : Int) - 1) ≠ 0 := by
  refine dg_ind hb ?_ ?_
  · intro h; omega
  · intro n hn ih _
    rw [dg_pos hb hn]
    by_cases hz : n / b = 0
    · rw [hz, dg_zero]
      simp only [List.length_cons, List.length_nil]
      have : n % b = n := by have := Int.mul_ediv_add_emod n b; rw [hz] at this; omega
      rw [this]
      simp [rd]; omega
    · have hq : 0 < n / b := by have : 0 ≤ n / b := Int.ediv_nonneg (by omega) (by omega); omega
      have := ih hq
      have hne : (dg b (n / b)).length ≠ 0 := by
        intro h
        have := (dg_nil_iff hb (Int.le_of_lt hq)).1 (List.length_eq_zero_iff.1 h)
        omega
      obtain ⟨m, hm⟩ : ∃ m, (dg b (n / b)).length = m + 1 := ⟨_, (Nat.succ_pred_eq_of_ne_zero hne).symm⟩
      rw [hm] at this
      rw [List.length_cons, hm]
      simp only [rd] at *
      rw [show (((m + 1 + 1 : Nat) : Int) - 1).toNat = m + 1 by omega]
      rw [show (((m + 1 : Nat) : Int) - 1).toNat = m by omega] at this
      simpa using this
def Tz (x : Int) (z : Nat) : Prop := ∃ o : Int, 0 ≤ o ∧ x = 2 ^ z * (2 * o + 1)
theorem Tz.ex {x : Int} (hx : 0 < x) : ∃ z, Tz x z := by
  refine dg_ind (b := 2) (by decide) (P := fun x => 0 < x → ∃ z, Tz x z) (by intro h; omega) ?_ x (by omega) hx
  intro n hn ih _
  by_cases h : n % 2 = 1
  · exact ⟨0, n / 2, by omega, by simp; omega⟩
  · obtain ⟨z, o, ho, e⟩ := ih (by omega)
    refine ⟨z + 1, o, ho, ?_⟩
    rw [Int.pow_succ, Int.mul_comm (2 ^ z) 2, Int.mul_assoc, ← e]
    omega
end Go.Proofs.Ytiakcfkcmfmdiaa.B

end
section
namespace Go.Proofs.Ytiakcfkcmfmdiaa.B
set_option linter.unusedVariables false
set_option linter.unusedSimpArgs false
open Go Go.RowKit Go.Proofs.YtiakcfkcmfmdiaaW.PrintWords Go.Proofs.YtiakcfkcmfmdiaaW.PrintLast Go.Proofs.YtiakcfkcmfmdiaaW.PrintMore Go.Proofs.Ytiakcfkcmfmdiaa.F Go.Proofs.Ytiakcfkcmfmdiaa.A
theorem make_l0 (xs : List Int) (hx : Dig B xs) (hl : xs.length < 17592186044416) : ∀ d i : Nat, xs.length - i = d → i ≤ xs.length → Ev (fun k => nat_Make.l0 k (xs.take i) xs xs.length i) (dg B (val B xs), 0) := by
  intro d
  induction d with
  | zero =>
    intro i hd hi
    refine ev_succ ?_
    simp only [nat_Make.l0]
    refine ev_neg (by omega) (ev_bind (trim_ev _ (by rw [List.length_take]; omega)) (ev_now ?_))
    rw [List.take_of_length_le (by omega), strip_dg hB hx]
  | succ d ih =>
    intro i hd hi
    have ha := rd_nonneg_lt hx (show i < xs.length by omega)
    refine ev_succ ?_
    simp only [nat_Make.l0]
    simp (disch := omega) only [w64]
    refine ev_pos (by omega) (ev_pos (by omega) (ev_pos (by omega) (ev_neg (by have := ha.2; simp only [B] at this; omega) (ev_pos (by rw [List.length_take]; omega) ?_))))
    rw [← take_succ_rd xs i (by omega), cast_succ]
    exact ih (i + 1) (by omega) (by omega)
theorem make_dig (xs : List Int) (hx : Dig B xs) (hl : xs.length < 17592186044416) : Ev (fun k => nat_Make.f k xs) (dg B (val B xs), 0) := by
  have := make_l0 xs hx hl _ 0 rfl (by omega)
  unfold nat_Make.f
  exact ev_pos (by omega) (ev_pos (by omega) this)
theorem make_ev {x : Int} (hx : 0 ≤ x) (hl : (dg B x).length < 17592186044416) : Ev (fun k => nat_Make.f k (dg B x)) (dg B x, 0) := by
  have := make_dig _ (dg_dig hB x hx) hl
  rwa [val_dg hB x hx] at this
def MayB (xs : List Int) : Bool := decide (∀ x ∈ xs, x < 4294967296) && (decide (xs.length = 0) || rd xs ((xs.length : Int) - 1) != 0)
theorem all_take (xs : List Int) (i : Nat) (h : i < xs.length) (hi : ∀ x ∈ xs.take i, x < 4294967296) (h2 : rd xs i < 4294967296) : ∀ x ∈ xs.take (i + 1), x < 4294967296 := by
  rw [take_succ_rd xs i h]
  intro x hx
  rcases List.mem_append.1 hx with hx | hx
  · exact hi x hx
  · rw [List.mem_singleton.1 hx]; exact h2
theorem rd_mem (xs : List Int) (i : Nat) (h : i < xs.length) : rd xs i ∈ xs := by
  rw [rd_nat, List.getD, List.getElem?_eq_getElem h]; exact List.getElem_mem h
theorem may_l0 (xs : List Int) (hl : xs.length < 17592186044416) : ∀ d i : Nat, xs.length - i = d → i ≤ xs.length → (∀ x ∈ xs.take i, x < 4294967296) → Ev (fun k => nat_May.l0 k xs xs xs.length i) (MayB xs) := by
  intro d
  induction d with
  | zero =>
    intro i hd hi ha
    rw [List.take_of_length_le (by omega)] at ha
    refine ev_succ ?_
    simp only [nat_May.l0]
    simp (disch := omega) only [w64]
    refine ev_neg (by omega) (ev_ite (fun h => ev_now ?_) (fun h => ev_pos (by omega) (ev_pos (by omega) (ev_now ?_))))
    · have : xs.length = 0 := by omega
      unfold MayB; rw [decide_eq_true ha, decide_eq_true this]; rfl
    · have : ¬ xs.length = 0 := by omega
      unfold MayB; rw [decide_eq_true ha, decide_eq_false this]; rfl
  | succ d ih =>
    intro i hd hi ha
    refine ev_succ ?_
    simp only [nat_May.l0]
    simp (disch := omega) only [w64]
    refine ev_pos (by omega) (ev_pos (by omega) (ev_pos (by omega) (ev_ite (fun h => ev_now ?_) (fun h => ?_))))
    · have : ¬ (∀ x ∈ xs, x < 4294967296) := fun hall => by have := hall _ (rd_mem xs i (by omega)); omega
      unfold MayB; rw [decide_eq_false this]; rfl
    · rw [cast_succ]
      exact ih (i + 1) (by omega) (by omega) (all_take xs i (by omega) ha (by omega))
theorem may_ev (xs : List Int) (hl : xs.length < 17592186044416) : Ev (fun k => nat_May.f k xs) (MayB xs) := may_l0 xs hl _ 0 rfl (by omega) (by simp)
theorem may_dg {x : Int} (hx : 0 ≤ x) : MayB (dg B x) = true := by
  unfold MayB
  have h1 : ∀ y ∈ dg B x, y < 4294967296 := fun y hy => (dg_dig hB x hx y hy).2
  rw [decide_eq_true h1]
  by_cases hz : x = 0
  · subst hz; rw [dg_zero]; rfl
  · have hne : (dg B x).length ≠ 0 := fun h => hz ((dg_nil_iff hB hx).1 (List.length_eq_zero_iff.1 h))
    have := rd_last_ne (n := x) hB x hx (by omega)
    simp [this]
theorem nat_of_ev {x : Int} (h0 : 0 ≤ x) (h1 : x ≤ 18446744073709551615) : Ev (fun k => nat_Of.f k x) (dg B x) := by
  unfold nat_Of.f
  rw [emod_tmod h0]
  refine ev_bind (trim_ev _ (by simp)) (ev_now ?_)
  have hd : Dig B [x % 4294967296, x / 4294967296] := (Dig.nil.cons (by omega) (by simp only [B]; omega)).cons (by omega) (by simp only [B]; omega)
  rw [strip_dg hB hd]
  congr 1
  simp only [val, B]; omega
theorem len2_lt_iff {x : Int} (hx : 0 ≤ x) (n : Nat) : (dg 2 x).length ≤ n ↔ x < 2 ^ n := by
  constructor
  · intro h
    have h1 := val_lt (b := 2) (by decide) (dg_dig (b := 2) (by decide) x hx)
    rw [val_dg (by decide) x hx] at h1
    exact Int.lt_of_lt_of_le h1 (pow_mono (by decide) h)
  · exact fun h => dg_len_le (by decide) n x hx h
theorem val_take_drop' (b : Int) (xs : List Int) (q : Nat) (h : q ≤ xs.length) : val b xs = val b (xs.take q) + b ^ q * val b (xs.drop q) := by
  conv => lhs; rw [← List.take_append_drop q xs]
  rw [val_append, List.length_take, Nat.min_eq_left h]
end Go.Proofs.Ytiakcfkcmfmdiaa.B

end
section
namespace Go.Proofs.Ytiakcfkcmfmdiaa.B
set_option linter.unusedVariables false
set_option linter.unusedSimpArgs false
open Go Go.RowKit Go.Proofs.YtiakcfkcmfmdiaaW.PrintWords Go.Proofs.YtiakcfkcmfmdiaaW.PrintLast Go.Proofs.YtiakcfkcmfmdiaaW.PrintMore Go.Proofs.Ytiakcfkcmfmdiaa.F Go.Proofs.Ytiakcfkcmfmdiaa.A
theorem or_hi {x y : Int} (hx0 : 0 ≤ x) (hx : x < 4294967296) (hy0 : 0 ≤ y) (hy : y < 4294967296) : Go.bits .or .u64 (x * 4294967296) y = x * 4294967296 + y :=
  bits_join .u64 64 (by decide) (fun n a b => wu64 a (by omega)) 32 (x * 4294967296) y (by omega) (by omega) (by omega) hy0 (by omega) (by omega)
theorem limb_div {r a d0 d : Int} (hd0 : 0 ≤ d0) (hd1 : d0 ≤ 18446744073709551615) (hd : d0 % 4294967296 = d) (hr0 : 0 ≤ r) (hr : r < d) (ha0 : 0 ≤ a) (ha : a < 4294967296) :
    limb_Div.f r a d0 = some ((r * 4294967296 + a) / d, (r * 4294967296 + a) % d, 0) := by
  have hdB : d < 4294967296 := by omega
  have ht0 : 0 ≤ r * 4294967296 + a := by omega
  have hq0 : 0 ≤ (r * 4294967296 + a) / d := Int.ediv_nonneg ht0 (by omega)
  have hq1 : (r * 4294967296 + a) / d < 4294967296 := Int.ediv_lt_of_lt_mul (by omega) (by
    have : (r + 1) * 4294967296 ≤ d * 4294967296 := Int.mul_le_mul_of_nonneg_right (by omega) (by decide)
    rw [Int.mul_comm 4294967296 d]
    omega)
  unfold limb_Div.f
  rw [mask32 hd0 hd1, hd, mask32 (x := r) hr0 (by omega), mask32 (x := a) ha0 (by omega), Int.emod_eq_of_lt hr0 (show r < 4294967296 by omega), Int.emod_eq_of_lt ha0 ha, if_neg (by omega), if_neg (by omega), wu64 (x := r * 4294967296) (by omega) (by omega), or_hi hr0 (by omega) ha0 ha, ediv_tdiv ht0, emod_tmod ht0, wu64 hq0 (by omega)]
theorem dsmall_l0 (xs : List Int) (d0 d : Int) (hd00 : 0 ≤ d0) (hd1 : d0 ≤ 18446744073709551615) (hd : d0 % 4294967296 = d) (hdp : 0 < d) (hx : Dig B xs) (hl : xs.length < 1099511627776) : ∀ i : Nat, i ≤ xs.length → ∀ (q : List Int) (r : Int), Dig B q → 0 ≤ r → r < d →
    d * val B q + r = val B (xs.drop i) → q.length + i = xs.length →
    Ev (fun k => divide_Small.l0 k xs d0 (List.replicate i 0 ++ q) r (xs.length : Int) ((xs.length : Int) - i)) (dg B (val B xs / d), val B xs % d, 0) := by
  intro i
  induction i with
  | zero =>
    intro hi q r hq hr0 hr he hlq
    refine ev_succ ?_
    simp only [divide_Small.l0]
    simp only [List.replicate_zero, List.nil_append]
    refine ev_neg (by omega) (ev_bind (make_dig q hq (by omega)) (ev_now ?_))
    rw [List.drop_zero] at he
    have e1 : val B xs / d = val B q := by
      rw [← he, Int.mul_add_ediv_left _ _ (by omega), Int.ediv_eq_zero_of_lt hr0 hr]; omega
    have e2 : val B xs % d = r := by
      rw [← he, Int.mul_add_emod_self_left, Int.emod_eq_of_lt hr0 hr]
    rw [e1, e2]
  | succ i ih =>
    intro hi q r hq hr0 hr he hlq
    have ha := rd_nonneg_lt hx (show i < xs.length by omega)
    simp only [B] at *
    refine ev_succ ?_
    simp only [divide_Small.l0]
    have ei : wrap64 (wrap64 ((xs.length : Int) - 1) - ((xs.length : Int) - ((i + 1 : Nat) : Int))) = (i : Int) := by
      rw [w64 (x := (xs.length : Int) - 1) (by omega) (by omega), w64 (by omega) (by omega)]; omega
    have ec : wrap64 ((xs.length : Int) - ((i + 1 : Nat) : Int) + 1) = (xs.length : Int) - (i : Int) := by
      rw [w64 (by omega) (by omega)]; omega
    rw [ei, ec]
    have ht0 : 0 ≤ r * 4294967296 + rd xs i := by omega
    have hm0 : 0 ≤ (r * 4294967296 + rd xs i) % d := Int.emod_nonneg _ (by omega)
    have hm1 : (r * 4294967296 + rd xs i) % d < d := Int.emod_lt_of_pos _ hdp
    have hqd0 : 0 ≤ (r * 4294967296 + rd xs i) / d := Int.ediv_nonneg ht0 (by omega)
    have hqd : (r * 4294967296 + rd xs i) / d < 4294967296 := Int.ediv_lt_of_lt_mul hdp (by
      have : (r + 1) * 4294967296 ≤ d * 4294967296 := Int.mul_le_mul_of_nonneg_right (by omega) (by decide)
      rw [Int.mul_comm 4294967296 d]
      omega)
    have hdm := Int.mul_ediv_add_emod (r * 4294967296 + rd xs i) d
    refine ev_pos (by omega) (ev_pos (by omega) (ev_pos (by omega) (ev_eq (limb_div hd00 hd1 hd hr0 hr ha.1 ha.2) (ev_pos (by simp; omega) ?_))))
    simp only []
    rw [Int.toNat_natCast, set_zeros]
    refine ih (by omega) _ _ (hq.cons hqd0 hqd) hm0 hm1 ?_ (by simp; omega)
    rw [drop_rd xs i (by omega)]
    simp only [val]
    rw [← he]
    generalize (r * 4294967296 + rd xs i) / d = s at *
    generalize (r * 4294967296 + rd xs i) % d = u at *
    rw [Int.mul_add, Int.mul_left_comm d 4294967296, Int.mul_comm r] at *
    omega
theorem dsmall_ev {x d0 : Int} (hx : 0 ≤ x) (hd0 : 0 ≤ d0) (hd1 : d0 ≤ 18446744073709551615) (hd : d0 % 4294967296 ≠ 0) (hl : (dg B x).length < 1099511627776) :
    Ev (fun k => divide_Small.f k (dg B x) d0) (dg B (x / (d0 % 4294967296)), x % (d0 % 4294967296), 0) := by
  have := dsmall_l0 (dg B x) d0 _ hd0 hd1 rfl (by omega) (dg_dig hB x hx) hl _ (Nat.le_refl _) [] 0 Dig.nil (by omega) (by omega) (by rw [List.drop_length]; simp [val]) (by simp)
  rw [val_dg hB x hx, List.append_nil, Int.sub_self] at this
  unfold divide_Small.f
  rw [emod_tmod hd0]
  simp only [Int.toNat_natCast]
  exact ev_neg hd (ev_pos (by omega) (ev_pos (by omega) this))
end Go.Proofs.Ytiakcfkcmfmdiaa.B

end
section
namespace Go.Proofs.Ytiakcfkcmfmdiaa.B
set_option linter.unusedVariables false
set_option linter.unusedSimpArgs false
open Go Go.RowKit Go.Proofs.YtiakcfkcmfmdiaaW.PrintWords Go.Proofs.YtiakcfkcmfmdiaaW.PrintLast Go.Proofs.YtiakcfkcmfmdiaaW.PrintMore Go.Proofs.Ytiakcfkcmfmdiaa.F Go.Proofs.Ytiakcfkcmfmdiaa.A
theorem or_join {x y : Int} (r : Nat) (hr : r ≤ 32) (hx0 : 0 ≤ x) (hx : x % 2 ^ r = 0) (hx1 : x < B) (hy0 : 0 ≤ y) (hy : y < 2 ^ r) : Go.bits .or .u64 y x = x + y := by
  have hp : (2 : Int) ^ r ≤ 2 ^ 32 := pow_mono (by decide) hr
  simp only [B] at hx1
  have := bits_join .u64 64 (by decide) (fun n a b => wu64 a (by omega)) r x y hx0 hx (by omega) hy0 hy (by omega)
  rw [← this]
  unfold Go.bits
  simp [BitVec.or_comm]
theorem set_mid (q : Nat) (pre : List Int) (c v u : Int) (m : Nat) {i : Nat} (h : pre.length = i) :
    ((List.replicate q 0 ++ pre ++ c :: List.replicate (m + 1) 0).set (i + q) v).set (i + q + 1) u = List.replicate q 0 ++ (pre ++ [v]) ++ u :: List.replicate m 0 := by
  subst h
  have e1 : (List.replicate q (0 : Int) ++ pre).length = pre.length + q := by simp; omega
  rw [List.set_append_right _ _ (by omega), e1, Nat.sub_self, List.set_cons_zero, List.set_append_right _ _ (by omega), e1,
    show pre.length + q + 1 - (pre.length + q) = 0 + 1 by omega, List.set_cons_succ, List.replicate_succ, List.set_cons_zero]
  simp
theorem rd_mid (q : Nat) (pre : List Int) (c : Int) (ys : List Int) {i : Nat} (h : pre.length = i) : rd (List.replicate q 0 ++ pre ++ c :: ys) ((i + q : Nat) : Int) = c := by
  have := rd_append_len (List.replicate q 0 ++ pre) c ys
  rwa [show (List.replicate q (0 : Int) ++ pre).length = i + q by simp; omega] at this
theorem shl_l0 (xs : List Int) (hx : Dig B xs) (hl : xs.length < 1099511627776) (n : Int) (hn0 : 0 ≤ n) (q r : Nat) (hq : n / 32 = q) (hr : n % 32 = r) (hn : n ≤ 100000) : ∀ d i : Nat, xs.length - i = d → i ≤ xs.length → ∀ (pre : List Int) (c : Int), Dig B pre → pre.length = i → 0 ≤ c → c < 2 ^ r →
    Ev (fun k => nat_Shl.l0 k n (List.replicate q 0 ++ pre ++ c :: List.replicate (xs.length - i) 0) xs xs.length i) (dg B (B ^ q * (val B pre + B ^ i * (c + 2 ^ r * val B (xs.drop i)))), 0) := by
  have hr32 : r < 32 := by omega
  have hP : (0 : Int) < 2 ^ r := Int.pow_pos (by decide)
  have hPB : (2 : Int) ^ r * 2 ^ (32 - r) = B := by rw [← Int.pow_add, show r + (32 - r) = 32 by omega]; rfl
  have hQ : (0 : Int) < 2 ^ (32 - r) := Int.pow_pos (by decide)
  have hP31 : (2 : Int) ^ r ≤ 2 ^ 31 := pow_mono (by decide) (by omega)
  intro d
  induction d with
  | zero =>
    intro i hd hi pre c hp hpl hc0 hc
    refine ev_succ ?_
    simp only [nat_Shl.l0]
    refine ev_neg (by omega) (ev_bind (trim_ev _ (by simp; omega)) (ev_now ?_))
    rw [show xs.length - i = 0 by omega, List.replicate_zero, List.drop_eq_nil_of_le (by omega)]
    have hdg : Dig B (List.replicate q 0 ++ pre ++ [c]) := ((Dig.zeros (by decide) q).append hp).append (Dig.nil.cons hc0 (by simp only [B]; omega))
    rw [strip_dg hB hdg, val_append, val_append, val_zeros, List.length_append, List.length_replicate, hpl]
    simp only [val, Int.mul_zero, Int.add_zero, Int.zero_add]
    rw [Int.pow_add, Int.mul_assoc, ← Int.mul_add]
  | succ d ih =>
    intro i hd hi pre c hp hpl hc0 hc
    have ha := rd_nonneg_lt hx (show i < xs.length by omega)
    refine ev_succ ?_
    simp only [nat_Shl.l0]
    rw [ediv_tdiv hn0, emod_tmod hn0, hq, hr]
    have hz0 : 0 ≤ rd xs i * 2 ^ r := Int.mul_nonneg ha.1 (Int.le_of_lt hP)
    have hz1 : rd xs i * 2 ^ r ≤ 4294967295 * 2 ^ r := Int.mul_le_mul_of_nonneg_right (by have := ha.2; simp only [B] at this; omega) (Int.le_of_lt hP)
    rw [shl_eq r (by omega) hz0 (by omega)]
    simp (disch := omega) only [w64, emod_tmod]
    have ei : ((i : Int) + (q : Int)) = ((i + q : Nat) : Int) := by omega
    have hlen : (List.replicate q (0 : Int) ++ pre ++ c :: List.replicate (xs.length - i) 0).length = q + xs.length + 1 := by simp; omega
    rw [hlen, ei, Int.toNat_natCast, show (((i + q : Nat) : Int) + 1).toNat = i + q + 1 by omega, rd_mid q pre c _ hpl]
    refine ev_pos (by omega) (ev_pos (by omega) (ev_pos (by omega) (ev_pos (by omega) (ev_pos (by omega) (ev_pos (by omega) (ev_pos (by omega) (ev_pos (by omega) ?_)))))))
    have hlow0 : 0 ≤ rd xs i * 2 ^ r % B := Int.emod_nonneg _ (by decide)
    have hlow1 : rd xs i * 2 ^ r % B < B := Int.emod_lt_of_pos _ (by decide)
    have hlowr : rd xs i * 2 ^ r % B % 2 ^ r = 0 := by
      rw [Int.emod_emod_of_dvd _ ⟨2 ^ (32 - r), hPB.symm⟩, Int.mul_emod_left]
    rw [or_join r (by omega) hlow0 hlowr hlow1 hc0 hc, show xs.length - i = (xs.length - (i + 1)) + 1 by omega, set_mid q pre c _ _ _ hpl]
    have hsum : rd xs i * 2 ^ r % B + c < B := by
      have h1 := Int.mul_ediv_add_emod (rd xs i * 2 ^ r % B) (2 ^ r)
      rw [hlowr, Int.add_zero] at h1
      have h2 : rd xs i * 2 ^ r % B / 2 ^ r < 2 ^ (32 - r) := Int.ediv_lt_of_lt_mul hP (by rw [Int.mul_comm (2 ^ (32 - r)) (2 ^ r), hPB]; exact hlow1)
      have h3 := Int.mul_le_mul_of_nonneg_left (show rd xs i * 2 ^ r % B / 2 ^ r + 1 ≤ 2 ^ (32 - r) by omega) (Int.le_of_lt hP)
      rw [Int.mul_add, h1, hPB] at h3
      omega
    have hu0 : 0 ≤ rd xs i * 2 ^ r / B := Int.ediv_nonneg hz0 (by decide)
    have hu1 : rd xs i * 2 ^ r / B < 2 ^ r := Int.ediv_lt_of_lt_mul (by decide) (by rw [Int.mul_comm]; exact Int.mul_lt_mul_of_pos_left ha.2 hP)
    have := ih (i + 1) (by omega) (by omega) (pre ++ [rd xs i * 2 ^ r % B + c]) (rd xs i * 2 ^ r / B) (hp.append (Dig.nil.cons (by omega) hsum)) (by simp [hpl]) hu0 hu1
    have e : val B (pre ++ [rd xs i * 2 ^ r % B + c]) + B ^ (i + 1) * (rd xs i * 2 ^ r / B + 2 ^ r * val B (xs.drop (i + 1))) = val B pre + B ^ i * (c + 2 ^ r * val B (xs.drop i)) := by
      rw [val_append, hpl, val_drop B xs i, Int.pow_succ]
      simp only [val, Int.mul_zero, Int.add_zero]
      have h1 := Int.mul_ediv_add_emod (rd xs i * 2 ^ r) B
      generalize rd xs i * 2 ^ r % B = u at *
      generalize rd xs i * 2 ^ r / B = v at *
      generalize val B (xs.drop (i + 1)) = w at *
      generalize rd xs (i : Int) = a at *
      generalize B ^ i = b at *
      generalize (2 : Int) ^ r = p at *
      generalize B = bb at *
      grind
    rw [e] at this
    rw [cast_succ]
    exact this
theorem shift_ok {n : Int} (h0 : 0 ≤ n) (h1 : n ≤ 100000) : nat_shift.f n = some 0 := by unfold nat_shift.f; rw [if_neg (by omega), if_neg (by omega)]
theorem shl_val (x : Int) {n : Int} (hn0 : 0 ≤ n) {q r : Nat} (hq : n / 32 = q) (hr : n % 32 = r) : B ^ q * (2 ^ r * x) = x * 2 ^ n.toNat := by
  have e : n.toNat = 32 * q + r := by omega
  have e2 : (B : Int) ^ q = 2 ^ (32 * q) := by rw [show (B : Int) = 2 ^ 32 by decide, ← Int.pow_mul]
  rw [e2, e, Int.pow_add]
  generalize (2 : Int) ^ (32 * q) = a
  generalize (2 : Int) ^ r = b
  grind
theorem shl_ev {x n : Int} (hx : 0 ≤ x) (hn0 : 0 ≤ n) (hn : n ≤ 100000) (hl : (dg B x).length < 1099511627776) : Ev (fun k => nat_Shl.f k (dg B x) n) (dg B (x * 2 ^ n.toNat), 0) := by
  unfold nat_Shl.f
  refine ev_eq (shift_ok hn0 hn) (ev_pos rfl (ev_succ ?_))
  simp only [nat_Shl.j0]
  by_cases hz : x = 0
  · subst hz
    refine ev_pos (by rw [dg_zero]; rfl) (ev_now ?_)
    rw [Int.zero_mul, dg_zero]
  · have hne : (dg B x).length ≠ 0 := fun h => hz ((dg_nil_iff hB hx).1 (List.length_eq_zero_iff.1 h))
    obtain ⟨q, hq⟩ : ∃ q : Nat, n / 32 = q := ⟨(n / 32).toNat, by omega⟩
    obtain ⟨r, hr⟩ : ∃ r : Nat, n % 32 = r := ⟨(n % 32).toNat, by omega⟩
    rw [ediv_tdiv hn0, hq]
    simp (disch := omega) only [w64]
    refine ev_neg (by simpa using hne) (ev_pos (by omega) (ev_pos (by omega) ?_))
    have := shl_l0 (dg B x) (dg_dig hB x hx) hl n hn0 q r hq hr hn _ 0 rfl (by omega) [] 0 Dig.nil rfl (Int.le_refl _) (Int.pow_pos (by decide))
    have el : (((dg B x).length : Int) + (q : Int) + 1).toNat = q + ((dg B x).length + 1) := by omega
    rw [el]
    have er : List.replicate (q + ((dg B x).length + 1)) (0 : Int) = List.replicate q 0 ++ [] ++ 0 :: List.replicate ((dg B x).length - 0) 0 := by
      rw [Nat.sub_zero, ← List.replicate_succ, List.append_nil, List.replicate_append_replicate]
    rw [er]
    rw [List.drop_zero, val_dg hB x hx, Int.pow_zero, Int.one_mul, Int.zero_add, val, Int.zero_add, shl_val x hn0 hq hr] at this
    exact this
theorem shr_digit (a b w : Int) (ha0 : 0 ≤ a) (ha : a < B) (hb0 : 0 ≤ b) (hb : b < B) (r : Nat) (hr : r < 32) :
    Int.tmod (shr .u64 (Go.bits .or .u64 a (IntKind.u64.wrap (b * 4294967296))) (r : Int)) 4294967296 = (a + B * (b + B * w)) / 2 ^ r % B := by
  have hP : (0 : Int) < 2 ^ r := Int.pow_pos (by decide)
  have hPB : (2 : Int) ^ r * 2 ^ (32 - r) = B := by rw [← Int.pow_add, show r + (32 - r) = 32 by omega]; rfl
  simp only [B] at *
  rw [wu64 (by omega) (by omega)]
  have hor : Go.bits .or .u64 a (b * 4294967296) = b * 4294967296 + a := by
    have := bits_join .u64 64 (by decide) (fun n a b => wu64 a (by omega)) 32 (b * 4294967296) a (by omega) (by omega) (by omega) ha0 (by omega) (by omega)
    rw [← this]
    unfold Go.bits
    simp [BitVec.or_comm]
  rw [hor, shr_eq r (by omega), emod_tmod (Int.ediv_nonneg (by omega) (by omega))]
  have e : a + 4294967296 * (b + 4294967296 * w) = (b * 4294967296 + a) + 2 ^ r * (4294967296 * (2 ^ (32 - r) * w)) := by
    generalize (2 : Int) ^ r = p at *
    generalize (2 : Int) ^ (32 - r) = q at *
    grind
  rw [e, Int.add_mul_ediv_left _ _ (by omega), Int.add_mul_emod_self_left]
theorem shr_l0 (xs : List Int) (hx : Dig B xs) (hl : xs.length < 1099511627776) (n : Int) (hn0 : 0 ≤ n) (q r : Nat) (hq : n / 32 = q) (hr : n % 32 = r) (hn : n ≤ 100000) (hql : q ≤ xs.length) : ∀ d i : Nat, xs.length - q - i = d → i ≤ xs.length - q → ∀ (pre : List Int), Dig B pre → pre.length = i →
    val B pre + B ^ i * (val B (xs.drop (q + i)) / 2 ^ r) = val B (xs.drop q) / 2 ^ r →
    Ev (fun k => nat_Shr.l0 k xs n (pre ++ List.replicate (xs.length - q - i) 0) ((xs.length - q : Nat) : Int) i) (dg B (val B (xs.drop q) / 2 ^ r), 0) := by
  have hP : (0 : Int) < 2 ^ r := Int.pow_pos (by decide)
  intro d
  induction d with
  | zero =>
    intro i hd hi pre hp hpl he
    refine ev_succ ?_
    simp only [nat_Shr.l0]
    refine ev_neg (by omega) (ev_bind (trim_ev _ (by simp; omega)) (ev_now ?_))
    rw [show xs.length - q - i = 0 by omega, List.replicate_zero, List.append_nil, strip_dg hB hp, ← he, List.drop_eq_nil_of_le (show xs.length ≤ q + i by omega), val, Int.zero_ediv, Int.mul_zero, Int.add_zero]
  | succ d ih =>
    intro i hd hi pre hp hpl he
    have ha := dig_rd0 (by decide) hx (q + i)
    have hb := dig_rd0 (by decide) hx (q + i + 1)
    refine ev_succ ?_
    simp only [nat_Shr.l0]
    rw [ediv_tdiv hn0, emod_tmod hn0, hq, hr]
    simp (disch := omega) only [w64]
    have ei : ((i : Int) + (q : Int)) = ((q + i : Nat) : Int) := by omega
    rw [ei, cast_succ, Int.toNat_natCast]
    refine ev_pos (by omega) (ev_pos (by omega) (ev_pos (by omega) (ev_eq (at_eq xs (by omega)) (ev_pos (by omega) (ev_pos (by omega) (ev_pos (by simp; omega) ?_))))))
    rw [shr_digit _ _ (val B (xs.drop (q + i + 1 + 1))) ha.1 ha.2 hb.1 hb.2 r (by omega), show xs.length - q - i = (xs.length - q - (i + 1)) + 1 by omega, set_pre pre _ _ hpl]
    rw [← val_drop B xs (q + i + 1), ← val_drop B xs (q + i)]
    have hd0 : (0 : Int) ≤ val B (xs.drop (q + i)) / 2 ^ r % B := Int.emod_nonneg _ (by decide)
    have hd1 : val B (xs.drop (q + i)) / 2 ^ r % B < B := Int.emod_lt_of_pos _ (by decide)
    rw [cast_succ]
    refine ih (i + 1) (by omega) (by omega) _ (hp.append (Dig.nil.cons hd0 hd1)) (by simp [hpl]) ?_
    rw [← he, val_append, hpl, Int.pow_succ]
    have e1 : val B (xs.drop (q + (i + 1))) / 2 ^ r = val B (xs.drop (q + i)) / 2 ^ r / B := by
      have h1 : val B (xs.drop (q + i)) / B = val B (xs.drop (q + (i + 1))) := by
        rw [val_drop B xs (q + i), Int.add_mul_ediv_left _ _ (by decide), Int.ediv_eq_zero_of_lt ha.1 ha.2]
        rw [Int.zero_add]; rfl
      rw [← h1, Int.ediv_ediv_of_nonneg (by decide), Int.ediv_ediv_of_nonneg (by omega), Int.mul_comm]
    rw [e1]
    have h2 := Int.mul_ediv_add_emod (val B (xs.drop (q + i)) / 2 ^ r) B
    simp only [val, Int.mul_zero, Int.add_zero]
    generalize val B (xs.drop (q + i)) / 2 ^ r % B = u at *
    generalize val B (xs.drop (q + i)) / 2 ^ r / B = v at *
    generalize val B (xs.drop (q + i)) / 2 ^ r = w at *
    generalize B ^ i = b at *
    generalize B = bb at *
    grind
theorem val_take_drop (b : Int) (xs : List Int) (q : Nat) (h : q ≤ xs.length) : val b xs = val b (xs.take q) + b ^ q * val b (xs.drop q) := by
  conv => lhs; rw [← List.take_append_drop q xs]
  rw [val_append, List.length_take, Nat.min_eq_left h]
theorem shr_ev {x n : Int} (hx : 0 ≤ x) (hn0 : 0 ≤ n) (hn : n ≤ 100000) (hl : (dg B x).length < 1099511627776) : Ev (fun k => nat_Shr.f k (dg B x) n) (dg B (x / 2 ^ n.toNat), 0) := by
  unfold nat_Shr.f
  refine ev_eq (shift_ok hn0 hn) (ev_pos rfl (ev_succ ?_))
  simp only [nat_Shr.j0]
  obtain ⟨q, hq⟩ : ∃ q : Nat, n / 32 = q := ⟨(n / 32).toNat, by omega⟩
  obtain ⟨r, hr⟩ : ∃ r : Nat, n % 32 = r := ⟨(n % 32).toNat, by omega⟩
  have en : n.toNat = 32 * q + r := by omega
  have e2 : (B : Int) ^ q = 2 ^ (32 * q) := by rw [show (B : Int) = 2 ^ 32 by decide, ← Int.pow_mul]
  rw [ediv_tdiv hn0, hq]
  simp (disch := omega) only [w64]
  by_cases hge : (q : Int) ≥ ((dg B x).length : Int)
  · refine ev_pos (by simpa using hge) (ev_now ?_)
    have h1 := val_lt (b := B) (by decide) (dg_dig hB x hx)
    rw [val_dg hB x hx] at h1
    have h2 : x < 2 ^ n.toNat := by
      refine Int.lt_of_lt_of_le h1 (Int.le_trans (pow_mono (by decide) (show (dg B x).length ≤ q by omega)) ?_)
      rw [e2]
      exact pow_mono (by decide) (by omega)
    rw [Int.ediv_eq_zero_of_lt hx h2, dg_zero]
  · refine ev_neg (by simpa using hge) (ev_pos (by omega) (ev_pos (by omega) ?_))
    simp only [Option.bind_some, List.length_replicate]
    rw [show (((dg B x).length : Int) - (q : Int)).toNat = (dg B x).length - q by omega]
    have := shr_l0 (dg B x) (dg_dig hB x hx) hl n hn0 q r hq hr hn (by omega) _ 0 rfl (by omega) [] Dig.nil rfl (by simp [val])
    have ev : val B ((dg B x).drop q) / 2 ^ r = x / 2 ^ n.toNat := by
      have h1 := val_take_drop B (dg B x) q (by omega)
      have h2 := val_nonneg (b := B) (by decide) ((dg_dig hB x hx).take q)
      have h3 := val_lt (b := B) (by decide) ((dg_dig hB x hx).take q)
      rw [List.length_take, Nat.min_eq_left (by omega)] at h3
      rw [val_dg hB x hx] at h1
      have hP : (0 : Int) < B ^ q := Int.pow_pos (by decide)
      have h4 : x / B ^ q = val B ((dg B x).drop q) := by
        conv => lhs; rw [h1]
        rw [Int.add_mul_ediv_left _ _ (by omega), Int.ediv_eq_zero_of_lt h2 h3, Int.zero_add]
      rw [← h4, Int.ediv_ediv_of_nonneg (by omega), e2, ← Int.pow_add, ← en]
    rw [ev] at this
    exact this
end Go.Proofs.Ytiakcfkcmfmdiaa.B

end
section
namespace Go.Proofs.Ytiakcfkcmfmdiaa.B
set_option linter.unusedVariables false
set_option linter.unusedSimpArgs false
open Go Go.RowKit Go.Proofs.YtiakcfkcmfmdiaaW.PrintWords Go.Proofs.YtiakcfkcmfmdiaaW.PrintLast Go.Proofs.YtiakcfkcmfmdiaaW.PrintMore Go.Proofs.Ytiakcfkcmfmdiaa.F Go.Proofs.Ytiakcfkcmfmdiaa.A
theorem lt_of_pmul {p a b : Int} (hp : 0 < p) (h : p * a < p * b) : a < b := Int.lt_of_mul_lt_mul_left h (Int.le_of_lt hp)
theorem guess_fin {q v1 v2 num u2 r : Int} (h1 : 0 < v1) (hv20 : 0 ≤ v2) (hv2 : v2 < 4294967296) (hu2 : 0 ≤ u2) (hq : 0 ≤ q) (he : q * v1 + r = num) (hr : 4294967296 ≤ r) (hnum : num < (v1 + 1) * 4294967296) :
    q < 4294967296 ∧ q * (v1 * 4294967296 + v2) ≤ num * 4294967296 + u2 := by
  have a1 : q < 4294967296 := by
    refine Int.lt_of_mul_lt_mul_right (a := v1) ?_ (Int.le_of_lt h1)
    rw [Int.add_mul] at hnum
    rw [Int.mul_comm 4294967296 v1]
    omega
  refine ⟨a1, ?_⟩
  have a2 : q * v2 ≤ 4294967295 * 4294967295 := Int.mul_le_mul (by omega) (by omega) hv20 (by decide)
  have a3 : q * (v1 * 4294967296 + v2) = (q * v1) * 4294967296 + q * v2 := by rw [Int.mul_add, ← Int.mul_assoc]
  rw [a3]
  generalize q * v1 = m at *
  generalize q * v2 = n at *
  omega
theorem guess_l0 (u v : List Int) (i n : Nat) (hu : Dig B u) (hv : Dig B v) (hn : v.length = n) (hn2 : 2 ≤ n) (hi : i + n < u.length) (hl : u.length < 1099511627776) {v1 v2 u2 num : Int} (e1 : rd v ((n - 1 : Nat) : Int) = v1) (e2 : rd v ((n - 2 : Nat) : Int) = v2) (e3 : rd u ((i + n - 2 : Nat) : Int) = u2) (h1 : 0 < v1) (hnum : num < (v1 + 1) * 4294967296) :
    ∀ m : Nat, ∀ q r : Int, (4294967296 - r).toNat = m → 0 ≤ q → q ≤ 18446744073709551615 → 0 ≤ r → r < 4294967296 → q * v1 + r = num →
    ∃ q', Ev (fun k => divide_guess.l0 k u i v n q r) q' ∧ 0 ≤ q' ∧ q' < 4294967296 ∧ q' * (v1 * 4294967296 + v2) ≤ num * 4294967296 + u2 ∧
      ∀ t, 0 ≤ t → t < 4294967296 → t * (v1 * 4294967296 + v2) ≤ num * 4294967296 + u2 → t ≤ q → t ≤ q' := by
  have hv1 := rd_nonneg_lt hv (show n - 1 < v.length by omega)
  have hv2 := rd_nonneg_lt hv (show n - 2 < v.length by omega)
  have hu2 := rd_nonneg_lt hu (show i + n - 2 < u.length by omega)
  rw [e1] at hv1
  rw [e2] at hv2
  rw [e3] at hu2
  simp only [B] at hv1 hv2 hu2
  have w1 : wrap64 ((n : Int) - 1) = ((n - 1 : Nat) : Int) := by rw [w64 (by omega) (by omega)]; omega
  have w2 : wrap64 ((n : Int) - 2) = ((n - 2 : Nat) : Int) := by rw [w64 (by omega) (by omega)]; omega
  have w3 : wrap64 (wrap64 ((i : Int) + n) - 2) = ((i + n - 2 : Nat) : Int) := by rw [w64 (x := (i : Int) + n) (by omega) (by omega), w64 (by omega) (by omega)]; omega
  intro m
  induction m using Nat.strongRecOn with
  | ind m ih =>
    intro q r hm hq0 hq hr0 hr he
    have J : 0 < q → (∀ t, 0 ≤ t → t < 4294967296 → t * (v1 * 4294967296 + v2) ≤ num * 4294967296 + u2 → t ≤ q → t ≤ q - 1) →
        ∃ q', Ev (fun k => divide_guess.j1 k u i v n q r true) q' ∧ 0 ≤ q' ∧ q' < 4294967296 ∧ q' * (v1 * 4294967296 + v2) ≤ num * 4294967296 + u2 ∧
          ∀ t, 0 ≤ t → t < 4294967296 → t * (v1 * 4294967296 + v2) ≤ num * 4294967296 + u2 → t ≤ q → t ≤ q' := by
      intro hqp hdown
      have he' : (q - 1) * v1 + (r + v1) = num := by rw [Int.sub_mul]; omega
      by_cases hb : r + v1 ≥ 4294967296
      · have hf := guess_fin (q := q - 1) (r := r + v1) h1 hv2.1 hv2.2 hu2.1 (by omega) he' hb hnum
        refine ⟨q - 1, ev_succ ?_, by omega, hf.1, hf.2, hdown⟩
        simp only [divide_guess.j1]
        rw [w1, e1, wu64 (x := r + v1) (by omega) (by omega), wu64 (x := q - 1) (by omega) (by omega)]
        exact ev_pos (by first | rfl | trivial) (ev_pos (by omega) (ev_pos (by omega) (ev_pos hb (ev_now rfl))))
      · obtain ⟨q', k1, k2, k3, k4, k5⟩ := ih (4294967296 - (r + v1)).toNat (by omega) (q - 1) (r + v1) rfl (by omega) (by omega) (by omega) (by omega) he'
        refine ⟨q', ev_succ ?_, k2, k3, k4, fun t t0 t1 t2 t3 => k5 t t0 t1 t2 (hdown t t0 t1 t2 t3)⟩
        simp only [divide_guess.j1]
        rw [w1, e1, wu64 (x := r + v1) (by omega) (by omega), wu64 (x := q - 1) (by omega) (by omega)]
        exact ev_pos (by first | rfl | trivial) (ev_pos (by omega) (ev_pos (by omega) (ev_neg hb k1)))
    by_cases hqB : q ≥ 4294967296
    · obtain ⟨q', k1, k2⟩ := J (by omega) (fun t t0 t1 t2 t3 => by omega)
      refine ⟨q', ev_succ ?_, k2⟩
      simp only [divide_guess.l0]
      exact ev_pos hqB k1
    · have hm0 : 0 ≤ q * v2 := Int.mul_nonneg hq0 hv2.1
      have hm1 : q * v2 ≤ 4294967295 * 4294967295 := Int.mul_le_mul (by omega) (by omega) hv2.1 (by decide)
      have hx : ∀ t, t * (v1 * 4294967296 + v2) = (t * v1) * 4294967296 + t * v2 := fun t => by rw [Int.mul_add, ← Int.mul_assoc]
      by_cases hc : q * v2 > r * 4294967296 + u2
      · have hqp : 0 < q := by
          rcases (show q = 0 ∨ 0 < q by omega) with h | h
          · rw [h, Int.zero_mul] at hc; omega
          · exact h
        obtain ⟨q', k1, k2⟩ := J hqp (fun t t0 t1 t2 t3 => by
          rcases (show t = q ∨ t ≤ q - 1 by omega) with h | h
          · exfalso
            rw [h, hx, ← he] at t2
            generalize q * v1 = m1 at *
            generalize q * v2 = m2 at *
            omega
          · exact h)
        refine ⟨q', ev_succ ?_, k2⟩
        simp only [divide_guess.l0]
        rw [w2, w3, e2, e3, wu64 (x := q * v2) hm0 (by omega), wu64 (x := r * 4294967296) (by omega) (by omega), or_hi hr0 hr hu2.1 hu2.2, decide_eq_true hc]
        exact ev_neg hqB (ev_pos (by omega) (ev_pos (by omega) (ev_pos (by omega) (ev_pos (by omega) k1))))
      · refine ⟨q, ev_succ ?_, hq0, by omega, ?_, fun t t0 t1 t2 t3 => t3⟩
        · simp only [divide_guess.l0]
          rw [w2, w3, e2, e3, wu64 (x := q * v2) hm0 (by omega), wu64 (x := r * 4294967296) (by omega) (by omega), or_hi hr0 hr hu2.1 hu2.2, decide_eq_false hc]
          refine ev_neg hqB (ev_pos (by omega) (ev_pos (by omega) (ev_pos (by omega) (ev_pos (by omega) (ev_succ ?_)))))
          simp only [divide_guess.j1]
          exact ev_neg (by simp) (ev_now rfl)
        · rw [hx, ← he]
          generalize q * v1 = m1 at *
          generalize q * v2 = m2 at *
          omega
theorem guess_bounds {p V U vl ul v1 v2 u2 num q : Int} (hp : 0 < p) (hV : V = vl + p * (v2 + 4294967296 * v1)) (hU : U = ul + p * (u2 + 4294967296 * num)) (hvl0 : 0 ≤ vl) (hvl : vl < p) (hul0 : 0 ≤ ul) (hul : ul < p)
    (h1 : 0 < v1) (hv20 : 0 ≤ v2) (hv2 : v2 < 4294967296) (hu20 : 0 ≤ u2) (hu2 : u2 < 4294967296) (hn0 : 0 ≤ num) (hUV : U < 4294967296 * V) :
    num < (v1 + 1) * 4294967296 ∧ 0 < V ∧ 0 ≤ U / V ∧ U / V < 4294967296 ∧ U / V * (v1 * 4294967296 + v2) ≤ num * 4294967296 + u2 ∧ U / V ≤ num / v1 ∧
    (0 ≤ q → q < 4294967296 → q * (v1 * 4294967296 + v2) ≤ num * 4294967296 + u2 → q ≤ U / V + 1) := by
  have hpV : p * 4294967296 ≤ V := by
    have := Int.mul_le_mul_of_nonneg_left (show 4294967296 ≤ v2 + 4294967296 * v1 by omega) (Int.le_of_lt hp)
    omega
  have hV0 : 0 < V := by omega
  have hU0 : 0 ≤ U := by
    have := Int.mul_nonneg (Int.le_of_lt hp) (show 0 ≤ u2 + 4294967296 * num by omega)
    omega
  have ht0 : 0 ≤ U / V := Int.ediv_nonneg hU0 (by omega)
  have ht1 : U / V < 4294967296 := Int.ediv_lt_of_lt_mul hV0 (by omega)
  have htm : U / V * V ≤ U := Int.ediv_mul_le _ (by omega)
  have hup : U < (U / V + 1) * V := Int.lt_ediv_add_one_mul_self _ hV0
  refine ⟨?_, hV0, ht0, ht1, ?_, ?_, ?_⟩
  · refine lt_of_pmul (p := p * 4294967296) (by omega) ?_
    have e1 : p * 4294967296 * ((v1 + 1) * 4294967296) = 4294967296 * (p * (4294967296 * v1) + p * 4294967296) := by grind
    have e2 : V ≤ p * (4294967296 * v1) + p * 4294967296 := by
      have := Int.mul_le_mul_of_nonneg_left (show v2 + 1 ≤ 4294967296 by omega) (Int.le_of_lt hp)
      rw [Int.mul_add] at this hV
      omega
    have e3 : p * 4294967296 * num ≤ U := by
      have h3 := Int.mul_nonneg (Int.le_of_lt hp) hu20
      rw [Int.mul_add] at hU
      rw [Int.mul_assoc]; omega
    rw [e1]; omega
  · generalize U / V = t at *
    have : t * (v1 * 4294967296 + v2) < num * 4294967296 + u2 + 1 := by
      refine lt_of_pmul hp ?_
      have e1 : p * (t * (v1 * 4294967296 + v2)) ≤ t * V := by
        have h3 := Int.mul_nonneg ht0 hvl0
        have e : t * V = t * vl + p * (t * (v1 * 4294967296 + v2)) := by rw [hV]; grind
        omega
      have e2 : p * (num * 4294967296 + u2 + 1) = p * (u2 + 4294967296 * num) + p := by grind
      omega
    omega
  · rw [Int.le_ediv_iff_mul_le h1]
    generalize U / V = t at *
    have : t * v1 < num + 1 := by
      refine lt_of_pmul (p := p * 4294967296) (by omega) ?_
      have e1 : p * 4294967296 * (t * v1) ≤ t * V := by
        have h3 := Int.mul_nonneg ht0 hvl0
        have h4 := Int.mul_nonneg (Int.le_of_lt hp) (Int.mul_nonneg ht0 hv20)
        have e : t * V = t * vl + p * (t * v2) + p * 4294967296 * (t * v1) := by rw [hV]; grind
        omega
      have e2 : p * 4294967296 * (num + 1) = p * (4294967296 * num) + p * 4294967296 := by grind
      have e3 := Int.mul_le_mul_of_nonneg_left (show u2 + 1 ≤ 4294967296 by omega) (Int.le_of_lt hp)
      rw [Int.mul_add] at e3 hU
      omega
    omega
  · intro hq0 hq hle
    generalize U / V = t at *
    have e1 : q * V ≤ q * p + p * (u2 + 4294967296 * num) := by
      have h3 := Int.mul_le_mul_of_nonneg_left (Int.le_of_lt hvl) hq0
      have h4 := Int.mul_le_mul_of_nonneg_left hle (Int.le_of_lt hp)
      have e : q * V = q * vl + p * (q * (v1 * 4294967296 + v2)) := by rw [hV]; grind
      have e' : p * (num * 4294967296 + u2) = p * (u2 + 4294967296 * num) := by grind
      omega
    have e2 : q * p ≤ p * 4294967296 - p := by
      have := Int.mul_le_mul_of_nonneg_right (show q + 1 ≤ 4294967296 by omega) (Int.le_of_lt hp)
      rw [Int.add_mul, Int.mul_comm 4294967296 p] at this
      omega
    have e3 : (q - 1) * V < (t + 1) * V := by
      rw [Int.sub_mul]
      omega
    have := Int.lt_of_mul_lt_mul_right e3 (Int.le_of_lt hV0)
    omega
theorem val_split2 (b : Int) (xs : List Int) (m : Nat) (h : m ≤ xs.length) : val b xs = val b (xs.take m) + b ^ m * (rd xs m + b * (rd xs ((m + 1 : Nat) : Int) + b * val b (xs.drop (m + 2)))) := by
  rw [val_take_drop' b xs m h, val_drop b xs m, val_drop b xs (m + 1)]
theorem rd_drop (xs : List Int) (i j : Nat) : rd (xs.drop i) (j : Int) = rd xs ((i + j : Nat) : Int) := by
  rw [rd_nat, rd_nat, List.getD, List.getD, List.getElem?_drop]
theorem dig_drop {b : Int} {xs : List Int} (h : Dig b xs) (i : Nat) : Dig b (xs.drop i) := fun y hy => h y (List.mem_of_mem_drop hy)
theorem guess_ev (u v : List Int) (i : Nat) (hu : Dig B u) (hv : Dig B v) (hn2 : 2 ≤ v.length) (hi : i + v.length < u.length) (hl : u.length < 1099511627776) (htop : 0 < rd v ((v.length - 1 : Nat) : Int)) (hUV : val B (u.drop i) < B * val B v) :
    0 < val B v ∧ ∃ q, Ev (fun k => divide_guess.f k u i v) q ∧ 0 ≤ q ∧ q < B ∧ val B (u.drop i) / val B v ≤ q ∧ q ≤ val B (u.drop i) / val B v + 1 := by
  obtain ⟨n, hn⟩ : ∃ n, v.length = n := ⟨_, rfl⟩
  rw [hn] at hn2 hi htop
  have c1 : ((i + n : Nat) : Int) < (u.length : Int) := by omega
  have c2 : ((i + n - 1 : Nat) : Int) < (u.length : Int) := by omega
  have c3 : ((n - 1 : Nat) : Int) < (n : Int) := by omega
  have w1 : wrap64 ((i : Int) + (v.length : Int)) = ((i + n : Nat) : Int) := by rw [w64 (by omega) (by omega)]; omega
  have w2 : wrap64 (((i + n : Nat) : Int) - 1) = ((i + n - 1 : Nat) : Int) := by rw [w64 (by omega) (by omega)]; omega
  have w3 : wrap64 ((v.length : Int) - 1) = ((n - 1 : Nat) : Int) := by rw [w64 (by omega) (by omega)]; omega
  have hud := dig_drop hu i
  have sv := val_split2 B v (n - 2) (by omega)
  rw [show n - 2 + 1 = n - 1 by omega, show n - 2 + 2 = n by omega, List.drop_eq_nil_of_le (show v.length ≤ n by omega)] at sv
  simp only [val, Int.mul_zero, Int.add_zero] at sv
  have su := val_split2 B (u.drop i) (n - 2) (by rw [List.length_drop]; omega)
  rw [rd_drop, rd_drop, List.drop_drop, show i + (n - 2 + 2) = i + n by omega, val_drop B u (i + n), show i + (n - 2) = i + n - 2 by omega, show i + (n - 2 + 1) = i + n - 1 by omega] at su
  have hvl0 := val_nonneg (b := B) (by decide) (hv.take (n - 2))
  have hvl := val_lt (b := B) (by decide) (hv.take (n - 2))
  have hul0 := val_nonneg (b := B) (by decide) (hud.take (n - 2))
  have hul := val_lt (b := B) (by decide) (hud.take (n - 2))
  rw [List.length_take, Nat.min_eq_left (by omega)] at hvl
  rw [List.length_take, List.length_drop, Nat.min_eq_left (by omega)] at hul
  have hp : (0 : Int) < B ^ (n - 2) := Int.pow_pos (by decide)
  have hv1 := rd_nonneg_lt hv (show n - 1 < v.length by omega)
  have hv2 := rd_nonneg_lt hv (show n - 2 < v.length by omega)
  have hu0 := rd_nonneg_lt hu (show i + n < u.length by omega)
  have hu1 := rd_nonneg_lt hu (show i + n - 1 < u.length by omega)
  have hu2 := rd_nonneg_lt hu (show i + n - 2 < u.length by omega)
  have hW0 := val_nonneg (b := B) (by decide) (dig_drop hu (i + n + 1))
  have h1 := val_lt (b := B) (by decide) hv
  rw [hn, show n = n - 2 + 1 + 1 by omega, Int.pow_succ, Int.pow_succ] at h1
  have hW : val B (u.drop (i + n + 1)) = 0 := by
    have s0 := hu2.1
    have s1 := hu1.1
    have s2 := hu0.1
    clear hvl hvl0 hud hi hl
    generalize val B (u.drop (i + n + 1)) = W at *
    generalize (B : Int) ^ (n - 2) = p at *
    generalize rd u ((i + n - 2 : Nat) : Int) = a at *
    generalize rd u ((i + n - 1 : Nat) : Int) = b at *
    generalize rd u ((i + n : Nat) : Int) = c at *
    generalize val B v = V at *
    generalize val B (u.drop i) = U at *
    generalize val B ((u.drop i).take (n - 2)) = ul at *
    clear hul hu0 hu1 hu2 hv1 hv2 sv
    simp only [B] at *
    have e2 : p * 4294967296 * 4294967296 * 4294967296 * W ≤ U - ul := by
      have h2 := Int.mul_nonneg (Int.le_of_lt hp) (show 0 ≤ a + 4294967296 * (b + 4294967296 * c) by omega)
      have e3 : p * (a + 4294967296 * (b + 4294967296 * (c + 4294967296 * W))) = p * (a + 4294967296 * (b + 4294967296 * c)) + p * 4294967296 * 4294967296 * 4294967296 * W := by grind
      omega
    have e4 : p * 4294967296 * 4294967296 * 4294967296 * W < p * 4294967296 * 4294967296 * 4294967296 * 1 := by omega
    have := lt_of_pmul (by omega) e4
    omega
  rw [hW, Int.mul_zero, Int.add_zero] at su
  clear h1
  generalize hpe : (B : Int) ^ (n - 2) = p at *
  clear hpe
  generalize hv1e : rd v ((n - 1 : Nat) : Int) = v1 at *
  generalize hv2e : rd v ((n - 2 : Nat) : Int) = v2 at *
  generalize hu0e : rd u ((i + n : Nat) : Int) = u0 at *
  generalize hu1e : rd u ((i + n - 1 : Nat) : Int) = u1 at *
  generalize hu2e : rd u ((i + n - 2 : Nat) : Int) = u2 at *
  generalize val B v = V at *
  generalize val B (u.drop i) = U at *
  simp only [B] at *
  have key := fun q => guess_bounds (q := q) (num := u0 * 4294967296 + u1) hp sv (by rw [su]; congr 3; omega) hvl0 hvl hul0 hul htop hv2.1 hv2.2 hu2.1 hu2.2 (by omega) hUV
  obtain ⟨k1, k2, k3, k4, k5, k6, -⟩ := key 0
  have hnm0 : 0 ≤ u0 * 4294967296 + u1 := by omega
  have hnm1 : u0 * 4294967296 + u1 ≤ 18446744073709551615 := by omega
  have hq0 : 0 ≤ (u0 * 4294967296 + u1) / v1 := Int.ediv_nonneg hnm0 (by omega)
  have hq1 : (u0 * 4294967296 + u1) / v1 ≤ u0 * 4294967296 + u1 := Int.ediv_le_self _ hnm0
  have hr0 : 0 ≤ (u0 * 4294967296 + u1) % v1 := Int.emod_nonneg _ (by omega)
  have hr1 : (u0 * 4294967296 + u1) % v1 < v1 := Int.emod_lt_of_pos _ htop
  have hdm := Int.mul_ediv_add_emod (u0 * 4294967296 + u1) v1
  rw [Int.mul_comm v1] at hdm
  obtain ⟨q, g1, g2, g3, g4, g5⟩ := guess_l0 u v i n hu hv hn hn2 hi hl hv1e hv2e hu2e htop k1 _ _ _ rfl hq0 (by omega) hr0 (by omega) hdm
  refine ⟨k2, q, ?_, g2, g3, g5 _ k3 k4 k5 k6, (key q).2.2.2.2.2.2 g2 g3 g4⟩
  unfold divide_guess.f
  rw [w1, w2, w3, hv1e, hu0e, hu1e, wu64 (x := u0 * 4294967296) (by omega) (by omega), or_hi hu0.1 hu0.2 hu1.1 hu1.2, ediv_tdiv hnm0, emod_tmod hnm0, wu64 hq0 (by omega), hn]
  exact ev_pos (Int.natCast_nonneg _) (ev_pos c1 (ev_pos (Int.natCast_nonneg _) (ev_pos c2 (ev_pos (Int.natCast_nonneg _) (ev_pos c3 (ev_neg (Int.ne_of_gt htop) g1))))))
end Go.Proofs.Ytiakcfkcmfmdiaa.B

end
section
namespace Go.Proofs.Ytiakcfkcmfmdiaa.B
set_option linter.unusedVariables false
set_option linter.unusedSimpArgs false
open Go Go.RowKit Go.Proofs.YtiakcfkcmfmdiaaW.PrintWords Go.Proofs.YtiakcfkcmfmdiaaW.PrintLast Go.Proofs.YtiakcfkcmfmdiaaW.PrintMore Go.Proofs.Ytiakcfkcmfmdiaa.F Go.Proofs.Ytiakcfkcmfmdiaa.A
theorem limb_mul {a b c d : Int} (ha0 : 0 ≤ a) (ha : a < B) (hb0 : 0 ≤ b) (hb : b < B) (hc0 : 0 ≤ c) (hc : c < B) (hd0 : 0 ≤ d) (hd : d < B) :
    limb_Mul.f a b c d = some ((a * b + c + d) % B, (a * b + c + d) / B) := by
  have hm0 : 0 ≤ a * b := Int.mul_nonneg ha0 hb0
  have hm1 : a * b ≤ 4294967295 * 4294967295 := Int.mul_le_mul (by simp only [B] at ha; omega) (by simp only [B] at hb; omega) hb0 (by decide)
  simp only [B] at *
  unfold limb_Mul.f
  rw [mask32 ha0 (by omega), mask32 hb0 (by omega), mask32 hc0 (by omega), mask32 hd0 (by omega), Int.emod_eq_of_lt ha0 ha, Int.emod_eq_of_lt hb0 hb, Int.emod_eq_of_lt hc0 hc, Int.emod_eq_of_lt hd0 hd]
  generalize a * b = m at *
  simp (disch := omega) only [wu64]
  rw [mask32 (by omega) (by omega)]
theorem limb_sub_ex {a b c : Int} (ha0 : 0 ≤ a) (ha : a < B) (hb0 : 0 ≤ b) (hb : b < B) (hc0 : 0 ≤ c) (hc : c ≤ 1) :
    ∃ w o, limb_Sub.f a b c = some (w, o) ∧ 0 ≤ w ∧ w < B ∧ 0 ≤ o ∧ o ≤ 1 ∧ w = a - b - c + B * o := by
  have h := limb_sub ha0 ha hb0 hb hc0 hc
  simp only [B] at *
  by_cases hlt : a < b + c
  · rw [if_pos hlt] at h
    exact ⟨_, _, h, by omega, by omega, by omega, by omega, by omega⟩
  · rw [if_neg hlt] at h
    exact ⟨_, _, h, by omega, by omega, by omega, by omega, by omega⟩
theorem dat_eq (xs : List Int) {i : Int} (h : 0 ≤ i) : divide_at.f xs i = some (rd xs i) := by
  unfold divide_at.f
  by_cases hi : i ≥ (xs.length : Int)
  · rw [if_pos hi, rd_ge xs hi]
  · rw [if_neg hi, if_pos h, if_pos (by omega)]
theorem val_take_next (b : Int) (xs : List Int) (j : Nat) : val b (xs.take (j + 1)) = val b (xs.take j) + b ^ j * rd xs j := by
  by_cases h : j < xs.length
  · exact val_take_succ b xs j h
  · rw [rd_ge xs (by omega), List.take_of_length_le (by omega), List.take_of_length_le (by omega)]; omega
section
variable (u v : List Int) (hv : Dig B v) (i n : Nat) (hn : v.length = n) (hi : i + n < u.length) (hl : u.length < 1099511627776)
include hv hn hi hl
theorem take_l0 (q : Int) (hq0 : 0 ≤ q) (hq : q < B) : ∀ d j : Nat, n + 1 - j = d → j ≤ n + 1 → ∀ (u' : List Int) (c o : Int), Dig B u' → u'.length = u.length → u'.take i = u.take i → u'.drop (i + n + 1) = u.drop (i + n + 1) → 0 ≤ c → c < B → 0 ≤ o → o ≤ 1 → (j = n + 1 → c = 0) →
    Aside0 (val B u' = val B u - B ^ i * (q * val B (v.take j)) + B ^ (i + j) * (c + o)) →
    ∃ (w : List Int) (o' : Int), Ev (fun k => divide_take.l0 k u' i v q c o ((n + 1 : Nat) : Int) j) (decide (o' > 0), w) ∧ Dig B w ∧ w.length = u.length ∧ w.take i = u.take i ∧ w.drop (i + n + 1) = u.drop (i + n + 1) ∧ 0 ≤ o' ∧ o' ≤ 1 ∧ val B w = val B u - B ^ i * (q * val B v) + B ^ (i + n + 1) * o' := by
  intro d
  induction d with
  | zero =>
    intro j hd hj u' c o hu hlu ht hdr hc0 hc ho0 ho hcz he
    have hjn : j = n + 1 := by omega
    subst hjn
    have hvt : v.take (n + 1) = v := List.take_of_length_le (by omega)
    have hng : ¬ (((n + 1 : Nat) : Int) < ((n + 1 : Nat) : Int)) := by omega
    have hz := hcz rfl
    refine ⟨u', o, ev_succ ?_, hu, hlu, ht, hdr, ho0, ho, ?_⟩
    · simp only [divide_take.l0]
      exact ev_neg hng (ev_now rfl)
    · have h := he.out
      rw [hz, Int.zero_add, hvt] at h
      exact h
  | succ d ih =>
    intro j hd hj u' c o hu hlu ht hdr hc0 hc ho0 ho hcz he
    have hij : i + j < u'.length := by omega
    have n1 : (j : Int) < ((n + 1 : Nat) : Int) := by omega
    have n2 : ((i + j : Nat) : Int) < (u'.length : Int) := by omega
    have n3 : n + 1 - (j + 1) = d := by omega
    have n4 : j + 1 ≤ n + 1 := by omega
    have n5 : i ≤ i + j := by omega
    have n6 : i + j < i + n + 1 := by omega
    have n7 : i + (j + 1) = i + j + 1 := by omega
    have w12 : Aside0 (wrap64 ((i : Int) + j) = ((i + j : Nat) : Int) ∧ wrap64 ((j : Int) + 1) = ((j + 1 : Nat) : Int)) := ⟨by rw [w64 (by omega) (by omega)]; omega, by rw [w64 (by omega) (by omega)]; omega⟩
    have hvj := dig_rd0 (by decide) hv j
    have hur := rd_nonneg_lt hu hij
    have hm0 : 0 ≤ q * rd v j := Int.mul_nonneg hq0 hvj.1
    have hm1 : q * rd v j ≤ 4294967295 * 4294967295 := Int.mul_le_mul (by simp only [B] at hq; omega) (by simp only [B] at hvj; omega) hvj.1 (by decide)
    obtain ⟨w, o', h1, h2, h3, h4, h5, h6⟩ := limb_sub_ex (a := rd u' ((i + j : Nat) : Int)) (b := (q * rd v j + c + 0) % B) (c := o) hur.1 hur.2 (Int.emod_nonneg _ (by decide)) (Int.emod_lt_of_pos _ (by decide)) ho0 ho
    have hdm := Int.mul_ediv_add_emod (q * rd v j + c + 0) B
    have hc'0 : 0 ≤ (q * rd v j + c + 0) / B := Int.ediv_nonneg (by omega) (by decide)
    have hc'1 : (q * rd v j + c + 0) / B < B := Int.ediv_lt_of_lt_mul (by decide) (by simp only [B] at hq hvj hc hc0 hvj hm0 hm1 ⊢; omega)
    have hz : j + 1 = n + 1 → (q * rd v j + c + 0) / B = 0 := by
      intro h
      rw [rd_ge v (by omega), Int.mul_zero]
      exact Int.ediv_eq_zero_of_lt (by omega) (by omega)
    obtain ⟨r, o2, k1, k2⟩ := ih (j + 1) n3 n4 (u'.set (i + j) w) ((q * rd v j + c + 0) / B) o' (Dig.set hu _ h2 h3) (by rw [List.length_set, hlu]) (by rw [List.take_set_of_le n5, ht]) (by rw [List.drop_set_of_lt n6, hdr]) hc'0 hc'1 h4 h5 hz (Aside0.mk (by
      rw [val_set _ _ _ _ hij, he.out, val_take_next, h6, n7, Int.pow_succ]
      have hpw : (B : Int) ^ (i + j) = B ^ i * B ^ j := Int.pow_add ..
      rw [hpw]
      clear he ih
      generalize (q * rd v j + c + 0) / B = c' at *
      generalize (q * rd v j + c + 0) % B = p' at *
      generalize val B (v.take j) = V at *
      generalize val B u = U at *
      generalize (B : Int) ^ i = x at *
      generalize (B : Int) ^ j = y at *
      generalize rd u' ((i + j : Nat) : Int) = z at *
      generalize rd v j = t at *
      generalize (B : Int) = b at *
      have e : q * t = b * c' + p' - c := by omega
      have e2 : q * (V + y * t) = q * V + y * (q * t) := by grind
      rw [e2, e]
      grind))
    refine ⟨r, o2, ev_succ ?_, k2⟩
    simp only [divide_take.l0]
    rw [w12.out.1, w12.out.2, Int.toNat_natCast]
    exact ev_pos n1 (ev_eq (dat_eq v (Int.natCast_nonneg _)) (ev_eq (limb_mul hq0 hq hvj.1 hvj.2 hc0 hc (by decide) (by decide)) (ev_pos (Int.natCast_nonneg _) (ev_pos n2 (ev_eq h1 k1)))))
theorem give_l0 : ∀ d j : Nat, n + 1 - j = d → j ≤ n + 1 → ∀ (u' : List Int) (c : Int), Dig B u' → u'.length = u.length → u'.take i = u.take i → u'.drop (i + n + 1) = u.drop (i + n + 1) → 0 ≤ c → c ≤ 1 →
    Aside0 (val B u' = val B u + B ^ i * val B (v.take j) - B ^ (i + j) * c) →
    ∃ (w : List Int) (c' : Int), Ev (fun k => divide_give.l0 k u' i v c ((n + 1 : Nat) : Int) j) w ∧ Dig B w ∧ w.length = u.length ∧ w.take i = u.take i ∧ w.drop (i + n + 1) = u.drop (i + n + 1) ∧ 0 ≤ c' ∧ c' ≤ 1 ∧ val B w = val B u + B ^ i * val B v - B ^ (i + n + 1) * c' := by
  intro d
  induction d with
  | zero =>
    intro j hd hj u' c hu hlu ht hdr hc0 hc he
    have hjn : j = n + 1 := by omega
    subst hjn
    have hvt : v.take (n + 1) = v := List.take_of_length_le (by omega)
    have hng : ¬ (((n + 1 : Nat) : Int) < ((n + 1 : Nat) : Int)) := by omega
    refine ⟨u', c, ev_succ ?_, hu, hlu, ht, hdr, hc0, hc, ?_⟩
    · simp only [divide_give.l0]
      exact ev_neg hng (ev_now rfl)
    · have h := he.out
      rw [hvt] at h
      exact h
  | succ d ih =>
    intro j hd hj u' c hu hlu ht hdr hc0 hc he
    have hij : i + j < u'.length := by omega
    have n1 : (j : Int) < ((n + 1 : Nat) : Int) := by omega
    have n2 : ((i + j : Nat) : Int) < (u'.length : Int) := by omega
    have n3 : n + 1 - (j + 1) = d := by omega
    have n4 : j + 1 ≤ n + 1 := by omega
    have n5 : i ≤ i + j := by omega
    have n6 : i + j < i + n + 1 := by omega
    have n7 : i + (j + 1) = i + j + 1 := by omega
    have w12 : Aside0 (wrap64 ((i : Int) + j) = ((i + j : Nat) : Int) ∧ wrap64 ((j : Int) + 1) = ((j + 1 : Nat) : Int)) := ⟨by rw [w64 (by omega) (by omega)]; omega, by rw [w64 (by omega) (by omega)]; omega⟩
    have hvj := dig_rd0 (by decide) hv j
    have hur := rd_nonneg_lt hu hij
    have hdm := Int.mul_ediv_add_emod (rd u' ((i + j : Nat) : Int) + rd v j + c) B
    have hm0 := Int.emod_nonneg (rd u' ((i + j : Nat) : Int) + rd v j + c) (show (B : Int) ≠ 0 by decide)
    have hm1 := Int.emod_lt_of_pos (rd u' ((i + j : Nat) : Int) + rd v j + c) (show (0 : Int) < B by decide)
    have hc'0 : 0 ≤ (rd u' ((i + j : Nat) : Int) + rd v j + c) / B := Int.ediv_nonneg (by omega) (by decide)
    have hc'1 : (rd u' ((i + j : Nat) : Int) + rd v j + c) / B ≤ 1 := by simp only [B] at hur hvj ⊢; omega
    obtain ⟨r, o2, k1, k2⟩ := ih (j + 1) n3 n4 (u'.set (i + j) ((rd u' ((i + j : Nat) : Int) + rd v j + c) % B)) ((rd u' ((i + j : Nat) : Int) + rd v j + c) / B) (Dig.set hu _ hm0 hm1) (by rw [List.length_set, hlu]) (by rw [List.take_set_of_le n5, ht]) (by rw [List.drop_set_of_lt n6, hdr]) hc'0 hc'1 (Aside0.mk (by
      rw [val_set _ _ _ _ hij, he.out, val_take_next, n7, Int.pow_succ]
      have hpw : (B : Int) ^ (i + j) = B ^ i * B ^ j := Int.pow_add ..
      rw [hpw]
      clear he ih
      generalize (rd u' ((i + j : Nat) : Int) + rd v j + c) / B = c' at *
      generalize (rd u' ((i + j : Nat) : Int) + rd v j + c) % B = p' at *
      generalize val B (v.take j) = V at *
      generalize val B u = U at *
      generalize (B : Int) ^ i = x at *
      generalize (B : Int) ^ j = y at *
      generalize rd u' ((i + j : Nat) : Int) = z at *
      generalize rd v j = t at *
      generalize (B : Int) = b at *
      have e : p' = z + t + c - b * c' := by omega
      rw [e]
      grind))
    refine ⟨r, o2, ev_succ ?_, k2⟩
    simp only [divide_give.l0]
    rw [w12.out.1, w12.out.2, Int.toNat_natCast]
    exact ev_pos n1 (ev_pos (Int.natCast_nonneg _) (ev_pos n2 (ev_eq (dat_eq v (Int.natCast_nonneg _)) (ev_eq (limb_add hur.1 hur.2 hvj.1 hvj.2 hc0 (Int.lt_of_le_of_lt hc (by decide))) k1))))
end
theorem take_ev (u v : List Int) (hu : Dig B u) (hv : Dig B v) (i : Nat) (hi : i + v.length < u.length) (hl : u.length < 1099511627776) {q : Int} (hq0 : 0 ≤ q) (hq : q < B) :
    ∃ (w : List Int) (o' : Int), Ev (fun k => divide_take.f k u i v q) (decide (o' > 0), w) ∧ Dig B w ∧ w.length = u.length ∧ w.take i = u.take i ∧ w.drop (i + v.length + 1) = u.drop (i + v.length + 1) ∧ 0 ≤ o' ∧ o' ≤ 1 ∧ val B w = val B u - B ^ i * (q * val B v) + B ^ (i + v.length + 1) * o' := by
  obtain ⟨w, o, k1, k2⟩ := take_l0 u v hv i v.length rfl hi hl q hq0 hq _ 0 rfl (by omega) u 0 0 hu rfl rfl rfl (by omega) (by decide) (by omega) (by omega) (fun _ => rfl) (Aside0.mk (by simp [val]))
  refine ⟨w, o, ?_, k2⟩
  unfold divide_take.f
  rw [w64 (by omega) (by omega)]
  exact k1
theorem give_ev (u v : List Int) (hu : Dig B u) (hv : Dig B v) (i : Nat) (hi : i + v.length < u.length) (hl : u.length < 1099511627776) :
    ∃ (w : List Int) (c' : Int), Ev (fun k => divide_give.f k u i v) w ∧ Dig B w ∧ w.length = u.length ∧ w.take i = u.take i ∧ w.drop (i + v.length + 1) = u.drop (i + v.length + 1) ∧ 0 ≤ c' ∧ c' ≤ 1 ∧ val B w = val B u + B ^ i * val B v - B ^ (i + v.length + 1) * c' := by
  obtain ⟨w, o, k1, k2⟩ := give_l0 u v hv i v.length rfl hi hl _ 0 rfl (by omega) u 0 hu rfl rfl rfl (by omega) (by omega) (Aside0.mk (by simp [val]))
  refine ⟨w, o, ?_, k2⟩
  unfold divide_give.f
  rw [w64 (by omega) (by omega)]
  exact k1
theorem val_window (w : List Int) (hw : Dig B w) (i m : Nat) (hi : i + m ≤ w.length) (h : val B (w.drop (i + m)) = 0) : 0 ≤ val B (w.drop i) ∧ val B (w.drop i) < B ^ m := by
  have hd := dig_drop hw i
  refine ⟨val_nonneg (by decide) hd, ?_⟩
  have e := val_take_drop' B (w.drop i) m (by rw [List.length_drop]; omega)
  rw [List.drop_drop, h, Int.mul_zero, Int.add_zero] at e
  have h2 := val_lt (b := B) (by decide) (hd.take m)
  rw [List.length_take, List.length_drop, Nat.min_eq_left (by omega)] at h2
  omega
theorem knuth_round (u v : List Int) (hu : Dig B u) (hv : Dig B v) (i : Nat) (hn2 : 2 ≤ v.length) (hi : i + v.length < u.length) (hl : u.length < 1099511627776) (htop : 0 < rd v ((v.length - 1 : Nat) : Int)) (hup : val B (u.drop (i + 1)) < val B v) :
    ∃ (q : Int) (w : List Int) (b : Bool), Ev (fun k => divide_guess.f k u i v) q ∧ 0 ≤ q ∧ q < B ∧ Ev (fun k => divide_take.f k u i v q) (b, w) ∧
      ((b = false ∧ Dig B w ∧ w.length = u.length ∧ val B (w.drop i) < val B v ∧ val B w = val B u - B ^ i * (q * val B v)) ∨
       (b = true ∧ 0 < q ∧ ∃ w' : List Int, Ev (fun k => divide_give.f k w i v) w' ∧ Dig B w' ∧ w'.length = u.length ∧ val B (w'.drop i) < val B v ∧ val B w' = val B u - B ^ i * ((q - 1) * val B v))) := by
  have hu0 := rd_nonneg_lt hu (show i < u.length by omega)
  have hUV : val B (u.drop i) < B * val B v := by
    rw [val_drop B u i]
    have := Int.mul_le_mul_of_nonneg_left (show val B (u.drop (i + 1)) + 1 ≤ val B v by omega) (show (0 : Int) ≤ B by decide)
    rw [Int.mul_add] at this
    omega
  obtain ⟨hV0, q, g1, g2, g3, g4, g5⟩ := guess_ev u v i hu hv hn2 hi hl htop hUV
  obtain ⟨w, o, t1, t2, t3, t4, t5, t6, t7, t8⟩ := take_ev u v hu hv i hi hl g2 g3
  have hVlt := val_lt (b := B) (by decide) hv
  have hp : (0 : Int) < B ^ i := Int.pow_pos (by decide)
  have hpn : (0 : Int) < B ^ v.length := Int.pow_pos (by decide)
  have hab : val B (u.drop (i + (v.length + 1))) = 0 := by
    have h0 := val_nonneg (b := B) (by decide) (dig_drop hu (i + (v.length + 1)))
    have e := val_take_drop' B (u.drop (i + 1)) v.length (by rw [List.length_drop]; omega)
    rw [List.drop_drop, show i + 1 + v.length = i + (v.length + 1) by omega] at e
    have h1 := val_nonneg (b := B) (by decide) ((dig_drop hu (i + 1)).take v.length)
    have h2 : B ^ v.length * val B (u.drop (i + (v.length + 1))) < B ^ v.length * 1 := by omega
    have := lt_of_pmul hpn h2
    omega
  have split : ∀ x : List Int, x.length = u.length → x.take i = u.take i → val B x = val B (u.take i) + B ^ i * val B (x.drop i) := fun x hx hxt => by
    rw [← hxt]; exact val_take_drop' B x i (by omega)
  have su := split u rfl rfl
  have sw := split w t3 t4
  have hup2 : val B (u.drop i) < (val B (u.drop i) / val B v + 1) * val B v := Int.lt_ediv_add_one_mul_self _ hV0
  have hdn : val B (u.drop i) / val B v * val B v ≤ val B (u.drop i) := Int.ediv_mul_le _ (by omega)
  have win := val_window w t2 i (v.length + 1) (by omega) (by rw [show i + (v.length + 1) = i + v.length + 1 by omega, t5]; exact hab)
  have hpow : (B : Int) ^ (i + v.length + 1) = B ^ i * B ^ (v.length + 1) := by rw [← Int.pow_add]; rfl
  rw [hpow] at t8
  have hw : val B (w.drop i) = val B (u.drop i) - q * val B v + B ^ (v.length + 1) * o := by
    have : B ^ i * val B (w.drop i) = B ^ i * (val B (u.drop i) - q * val B v + B ^ (v.length + 1) * o) := by
      rw [Int.mul_add, Int.mul_sub]
      rw [← Int.mul_assoc] at *
      rw [Int.mul_assoc (B ^ i) (B ^ (v.length + 1)) o] at *
      omega
    exact Int.eq_of_mul_eq_mul_left (by omega) this
  refine ⟨q, w, decide (o > 0), g1, g2, g3, t1, ?_⟩
  rcases (show o = 0 ∨ o = 1 by omega) with ho | ho
  · left
    rw [ho, Int.mul_zero, Int.add_zero] at hw
    rw [ho, Int.mul_zero, Int.add_zero] at t8
    refine ⟨by rw [ho]; rfl, t2, t3, ?_, t8⟩
    have hqle : q ≤ val B (u.drop i) / val B v := by
      rw [Int.le_ediv_iff_mul_le hV0]; omega
    have hqe : q = val B (u.drop i) / val B v := by omega
    rw [hqe] at hw
    rw [Int.add_mul] at hup2
    omega
  · right
    rw [ho, Int.mul_one] at hw
    have hqgt : val B (u.drop i) / val B v < q := by
      apply Int.lt_of_not_ge
      intro hle
      have := Int.mul_le_mul_of_nonneg_right hle (Int.le_of_lt hV0)
      omega
    have hqe : q = val B (u.drop i) / val B v + 1 := by omega
    have ht0 : 0 ≤ val B (u.drop i) / val B v := Int.ediv_nonneg (val_nonneg (by decide) (dig_drop hu i)) (Int.le_of_lt hV0)
    obtain ⟨w', c', s1, s2, s3, s4, s5, s6, s7, s8⟩ := give_ev w v t2 hv i (by omega) (by omega)
    have win' := val_window w' s2 i (v.length + 1) (by omega) (by rw [show i + (v.length + 1) = i + v.length + 1 by omega, s5, t5]; exact hab)
    have sw' := split w' (by omega) (by rw [s4, t4])
    rw [hpow] at s8
    have hw' : val B (w'.drop i) = val B (w.drop i) + val B v - B ^ (v.length + 1) * c' := by
      have : B ^ i * val B (w'.drop i) = B ^ i * (val B (w.drop i) + val B v - B ^ (v.length + 1) * c') := by
        rw [Int.mul_sub, Int.mul_add]
        rw [Int.mul_assoc (B ^ i) (B ^ (v.length + 1)) c'] at *
        omega
      exact Int.eq_of_mul_eq_mul_left (by omega) this
    have hq1 : (q - 1) * val B v ≤ val B (u.drop i) := by rw [hqe]; simpa using hdn
    have hq2 : val B (u.drop i) < (q - 1) * val B v + val B v := by
      rw [hqe, Int.add_sub_cancel]; rw [Int.add_mul] at hup2; omega
    have hqs : (q - 1) * val B v = q * val B v - val B v := by rw [Int.sub_mul]; omega
    have hc1 : c' = 1 := by
      rcases (show c' = 0 ∨ c' = 1 by omega) with h | h
      · rw [h, Int.mul_zero] at hw'; omega
      · exact h
    rw [hc1, Int.mul_one] at hw'
    rw [hc1, Int.mul_one] at s8
    rw [ho, Int.mul_one] at t8
    refine ⟨by rw [ho]; rfl, by omega, w', s1, s2, by omega, by omega, ?_⟩
    rw [s8, t8, hqs, Int.mul_sub]
    omega
end Go.Proofs.Ytiakcfkcmfmdiaa.B

end
section
namespace Go.Proofs.Ytiakcfkcmfmdiaa.B
set_option linter.unusedVariables false
set_option linter.unusedSimpArgs false
open Go Go.RowKit Go.Proofs.YtiakcfkcmfmdiaaW.PrintWords Go.Proofs.YtiakcfkcmfmdiaaW.PrintLast Go.Proofs.YtiakcfkcmfmdiaaW.PrintMore Go.Proofs.Ytiakcfkcmfmdiaa.F Go.Proofs.Ytiakcfkcmfmdiaa.A
theorem rd_zeros_mid (i : Nat) (y : Int) (zs : List Int) : rd (List.replicate i 0 ++ y :: zs) (i : Int) = y := by
  have := rd_append_len (List.replicate i 0) y zs
  rwa [List.length_replicate] at this
theorem set_zeros_mid (i : Nat) (y v : Int) (zs : List Int) : (List.replicate i 0 ++ y :: zs).set i v = List.replicate i 0 ++ v :: zs := by
  have := set_append_len (List.replicate i 0) y v zs
  rwa [List.length_replicate, Int.toNat_natCast] at this
theorem knuth_l0 (v : List Int) (hv : Dig B v) (s : Int) (hs0 : 0 ≤ s) (hs : s ≤ 100000) (hn2 : 2 ≤ v.length) (htop : 0 < rd v ((v.length - 1 : Nat) : Int)) (T : Int) (L : Nat) (hL : L < 1099511627776) :
    ∀ i : Nat, ∀ (u qs : List Int), Dig B u → u.length = L → Dig B qs → i + qs.length + v.length = L → val B (u.drop i) < val B v → val B u + B ^ i * (val B qs * val B v) = T →
    Ev (fun k => divide_knuth.l0 k s v u (List.replicate i 0 ++ qs) ((i : Int) - 1)) (dg B (T / val B v), dg B (T % val B v / 2 ^ s.toNat)) := by
  intro i
  induction i with
  | zero =>
    intro u qs hu hul hq hlen hup he
    rw [List.drop_zero] at hup
    rw [Int.pow_zero, Int.one_mul] at he
    have h0 := val_nonneg (b := B) (by decide) hu
    obtain ⟨e1, e2⟩ := div_uniq (a := T) (q := val B qs) (by omega) h0 hup (by rw [Int.mul_comm]; omega)
    have hle : (dg B (val B u)).length ≤ u.length := dg_len_le hB _ _ h0 (val_lt (by decide) hu)
    refine ev_succ ?_
    simp only [divide_knuth.l0, List.replicate_zero, List.nil_append]
    refine ev_neg (by omega) (ev_bind (make_dig qs hq (by omega)) (ev_bind (make_dig u hu (by omega)) (ev_bind (shr_ev h0 hs0 hs (by omega)) (ev_now ?_))))
    rw [e1, e2]
  | succ i ih =>
    intro u qs hu hul hq hlen hup he
    obtain ⟨q, w, b, g1, g2, g3, g4, g5⟩ := knuth_round u v hu hv i hn2 (by omega) (by omega) htop hup
    have w1 : Aside0 (wrap64 ((i : Int) - 1) = (i : Int) - 1) := ⟨w64 (by omega) (by omega)⟩
    refine ev_succ ?_
    simp only [divide_knuth.l0, cast_pred, Int.toNat_natCast, w1.out]
    refine ev_pos (by omega) (ev_bind g1 (ev_pos (by omega) (ev_pos (by simp; omega) ?_)))
    simp only [Option.bind_some]
    rw [set_zeros, rd_zeros_mid]
    refine ev_bind g4 ?_
    rcases g5 with ⟨hb, h1, h2, h3, h4⟩ | ⟨hb, hqp, w', k1, h1, h2, h3, h4⟩
    · refine ev_neg (by rw [hb]; simp) ?_
      refine ih w (q :: qs) h1 (by omega) (hq.cons g2 g3) (by rw [List.length_cons]; omega) h3 ?_
      rw [h4, ← he, Int.pow_succ]
      simp only [val]
      generalize val B v = V
      generalize val B qs = Q
      generalize val B u = U
      generalize (B : Int) ^ i = p
      grind
    · refine ev_pos hb (ev_bind k1 ?_)
      rw [set_zeros_mid, wu64 (x := q - 1) (by omega) (by simp only [B] at g3; omega)]
      refine ih w' ((q - 1) :: qs) h1 (by omega) (hq.cons (by omega) (by omega)) (by rw [List.length_cons]; omega) h3 ?_
      rw [h4, ← he, Int.pow_succ]
      simp only [val]
      generalize val B v = V
      generalize val B qs = Q
      generalize val B u = U
      generalize (B : Int) ^ i = p
      grind
theorem knuth_ev {x y : Int} (hy0 : 0 < y) (hxy : y ≤ x) (hl : (dg B x).length < 1000000000) (hn2 : 2 ≤ (dg B y).length) :
    Ev (fun k => divide_knuth.f k (dg B x) (dg B y)) (dg B (x / y), dg B (x % y)) := by
  have hx0 : 0 ≤ x := by omega
  obtain ⟨N, hN⟩ : ∃ N, (dg B x).length = N := ⟨_, rfl⟩
  obtain ⟨n, hn⟩ : ∃ n, (dg B y).length = n := ⟨_, rfl⟩
  have hnN : n ≤ N := by rw [← hN, ← hn]; exact dg_len_mono hB (by omega) hxy
  rw [hn] at hn2
  have hdx := dg_dig hB x hx0
  have hdy := dg_dig hB y (by omega)
  have hxlt := val_lt (b := B) (by decide) hdx
  rw [val_dg hB x hx0, hN] at hxlt
  obtain ⟨t, ht⟩ : ∃ t, rd (dg B y) ((n - 1 : Nat) : Int) = t := ⟨_, rfl⟩
  have ht1 := rd_nonneg_lt hdy (show n - 1 < (dg B y).length by omega)
  have ht2 := rd_last_ne (n := y) hB y (by omega) hy0
  rw [hn, show ((n : Int) - 1) = ((n - 1 : Nat) : Int) by omega, ht] at ht2
  rw [ht] at ht1
  have hb1 := limb_bits ht1.1 ht1.2
  obtain ⟨β, hβ⟩ : ∃ β, (dg 2 t).length = β := ⟨_, rfl⟩
  rw [hβ] at hb1
  have hβ32 : β ≤ 32 := by
    rw [← hβ]; exact (len2_lt_iff ht1.1 32).2 (by have := ht1.2; simp only [B] at this; omega)
  have hβ1 : 1 ≤ β := by
    rw [← hβ]
    apply Nat.lt_of_not_le
    intro h
    have := (len2_lt_iff ht1.1 0).1 h
    simp at this; omega
  have htlt : t < 2 ^ β := (len2_lt_iff ht1.1 β).1 (by omega)
  obtain ⟨s, hs⟩ : ∃ s : Nat, s = 32 - β := ⟨_, rfl⟩
  have h2s : (0 : Int) < 2 ^ s := Int.pow_pos (by decide)
  have hbs : (2 : Int) ^ β * 2 ^ s = B := by
    rw [← Int.pow_add, show β + s = 32 by omega]; decide
  have h2sB : (2 : Int) ^ s ≤ B := by
    have : (2 : Int) ^ s ≤ 2 ^ 32 := pow_mono (by decide) (by omega)
    exact Int.le_trans this (by decide)
  have hy1 : B ^ (n - 1) ≤ y := by
    apply Int.le_of_not_gt
    intro h
    have := dg_len_le hB (n - 1) y (by omega) h
    omega
  have hy2 : y < (t + 1) * B ^ (n - 1) := by
    have e := val_take_drop' B (dg B y) (n - 1) (by omega)
    rw [val_dg hB y (by omega), val_drop B (dg B y) (n - 1), ht, List.drop_eq_nil_of_le (show (dg B y).length ≤ n - 1 + 1 by omega)] at e
    have h1 := val_lt (b := B) (by decide) (hdy.take (n - 1))
    rw [List.length_take, Nat.min_eq_left (by omega)] at h1
    simp only [val, Int.mul_zero, Int.add_zero] at e
    rw [Int.add_mul, Int.one_mul, Int.mul_comm t]
    omega
  have hpn : (0 : Int) < B ^ (n - 1) := Int.pow_pos (by decide)
  have hV0 : 0 < y * 2 ^ s := Int.mul_pos hy0 h2s
  have hV1 : B ^ (n - 1) ≤ y * 2 ^ s := by
    have := Int.mul_le_mul_of_nonneg_left (show (1 : Int) ≤ 2 ^ s by omega) (show 0 ≤ y by omega)
    omega
  have hV2 : y * 2 ^ s < B ^ n := by
    have h1 : y < 2 ^ β * B ^ (n - 1) := by
      have := Int.mul_le_mul_of_nonneg_right (show t + 1 ≤ 2 ^ β by omega) (Int.le_of_lt hpn)
      omega
    have h2 : y * 2 ^ s < 2 ^ β * B ^ (n - 1) * 2 ^ s := Int.mul_lt_mul_of_pos_right h1 h2s
    have h3 : (2 : Int) ^ β * B ^ (n - 1) * 2 ^ s = B ^ n := by
      rw [Int.mul_right_comm, hbs, show n = n - 1 + 1 by omega, Int.pow_succ, Nat.add_sub_cancel, Int.mul_comm]
    omega
  have hvl : (dg B (y * 2 ^ s)).length = n := by
    have h1 := dg_len_le hB n _ (Int.le_of_lt hV0) hV2
    have h2 := dg_len_ge hB (n - 1) _ (Int.le_of_lt hV0) hV1
    omega
  have hX0 : 0 ≤ x * 2 ^ s := Int.mul_nonneg hx0 (Int.le_of_lt h2s)
  have hX1 : x * 2 ^ s < B ^ N * 2 ^ s := Int.mul_lt_mul_of_pos_right hxlt h2s
  have hX2 : x * 2 ^ s < B ^ (N + 1) := by
    rw [Int.pow_succ]
    exact Int.lt_of_lt_of_le hX1 (Int.mul_le_mul_of_nonneg_left h2sB (Int.pow_nonneg (by decide)))
  have hXl : (dg B (x * 2 ^ s)).length ≤ N + 1 := dg_len_le hB _ _ hX0 hX2
  obtain ⟨u, hu⟩ : ∃ u, u = dg B (x * 2 ^ s) ++ List.replicate (N + 1 - (dg B (x * 2 ^ s)).length) 0 := ⟨_, rfl⟩
  have hul : u.length = N + 1 := by rw [hu, List.length_append, List.length_replicate]; omega
  have hud : Dig B u := by rw [hu]; exact (dg_dig hB _ hX0).append (Dig.zeros (by decide) _)
  have huv : val B u = x * 2 ^ s := by rw [hu, val_append, val_zeros, val_dg hB _ hX0, Int.mul_zero, Int.add_zero]
  have hvd := dg_dig hB _ (Int.le_of_lt hV0)
  have hvv := val_dg hB _ (Int.le_of_lt hV0)
  have htop := rd_last_ne (n := y * 2 ^ s) hB _ (Int.le_of_lt hV0) hV0
  rw [hvl, show ((n : Int) - 1) = ((n - 1 : Nat) : Int) by omega] at htop
  have htop' := rd_nonneg_lt hvd (show n - 1 < (dg B (y * 2 ^ s)).length by omega)
  have hup : val B (u.drop (N - n + 1)) < val B (dg B (y * 2 ^ s)) := by
    rw [hvv]
    have e := val_take_drop' B u (N - n + 1) (by omega)
    have h1 := val_nonneg (b := B) (by decide) (hud.take (N - n + 1))
    have hp : (0 : Int) < B ^ (N - n + 1) := Int.pow_pos (by decide)
    refine lt_of_pmul hp ?_
    have e2 : (B : Int) ^ N = B ^ (N - n + 1) * B ^ (n - 1) := by rw [← Int.pow_add]; congr 1; omega
    have h2 : B ^ (n - 1) * 2 ^ s ≤ y * 2 ^ s := Int.mul_le_mul_of_nonneg_right hy1 (Int.le_of_lt h2s)
    have h3 := Int.mul_le_mul_of_nonneg_left h2 (Int.le_of_lt hp)
    rw [← Int.mul_assoc, ← e2] at h3
    omega
  have key := knuth_l0 (dg B (y * 2 ^ s)) hvd (s : Int) (by omega) (by omega) (by omega) (by rw [hvl]; omega) (x * 2 ^ s) (N + 1) (by omega) (N - n + 1) u [] hud hul Dig.nil (by simp; omega) hup (by rw [huv]; simp [val])
  rw [hvv, Int.toNat_natCast, List.append_nil] at key
  have hr1 : x * 2 ^ s / (y * 2 ^ s) = x / y := Int.mul_ediv_mul_of_pos_left _ _ h2s
  have hr2 : x * 2 ^ s % (y * 2 ^ s) / 2 ^ s = x % y := by
    rw [Int.mul_comm x, Int.mul_comm y, Int.mul_emod_mul_of_pos _ _ h2s]
    exact Int.mul_ediv_cancel_left _ (by omega)
  rw [hr1, hr2] at key
  unfold divide_knuth.f
  have w1 : Aside0 (wrap64 (((dg B y).length : Int) - 1) = ((n - 1 : Nat) : Int)) := ⟨by rw [w64 (by omega) (by omega)]; omega⟩
  have w2 : Aside0 (wrap64 (32 - (β : Int)) = (s : Int)) := ⟨by rw [w64 (by omega) (by omega)]; omega⟩
  have w3 : Aside0 (wrap64 (((dg B x).length : Int) + 1) = ((N + 1 : Nat) : Int)) := ⟨by rw [w64 (by omega) (by omega)]; omega⟩
  have w4 : Aside0 (wrap64 (((dg B x).length : Int) - ((dg B y).length : Int)) = ((N - n + 1 : Nat) : Int) - 1) := ⟨by rw [w64 (by omega) (by omega)]; omega⟩
  have w5 : Aside0 (wrap64 (((N - n + 1 : Nat) : Int) - 1 + 1) = ((N - n + 1 : Nat) : Int)) := ⟨by rw [w64 (by omega) (by omega)]; omega⟩
  have hsh1 := shl_ev (x := y) (n := (s : Int)) (by omega) (by omega) (by omega) (by omega)
  have hsh2 := shl_ev (x := x) (n := (s : Int)) hx0 (by omega) (by omega) (by omega)
  rw [Int.toNat_natCast] at hsh1 hsh2
  rw [w1.out, w3.out, w4.out, w5.out, ht]
  refine ev_pos (by omega) (ev_pos (by omega) (ev_bind hb1 ?_))
  simp only [w2.out]
  refine ev_bind hsh1 (ev_pos (by omega) (ev_pos (by simp; omega) ?_))
  simp only [Option.bind_some, Int.toNat_natCast, List.length_replicate]
  refine ev_bind hsh2 (ev_pos (by omega) (ev_pos (by omega) ?_))
  have eu : (List.replicate (N + 1) (0 : Int)).take 0 ++ ((dg B (x * 2 ^ s)).take (N + 1 - 0) ++ (List.replicate (N + 1) (0 : Int)).drop (0 + min (dg B (x * 2 ^ s)).length (N + 1 - 0))) = u := by
    rw [hu, List.take_zero, List.nil_append, List.take_of_length_le (by omega), List.drop_replicate]
    congr 2
    omega
  simp only []
  rw [eu]
  exact key
theorem div_ev {x y : Int} (hx : 0 ≤ x) (hy : 0 < y) (hl : (dg B x).length < 1000000000) (hl2 : (dg B y).length < 1000000000) : Ev (fun k => divide_Div.f k (dg B x) (dg B y)) (dg B (x / y), dg B (x % y), 0) := by
  have hne : (dg B y).length ≠ 0 := fun h => by
    have := (dg_nil_iff hB (by omega)).1 (List.length_eq_zero_iff.1 h); omega
  have m1 := may_ev (dg B x) (by omega)
  have m2 := may_ev (dg B y) (by omega)
  rw [may_dg hx] at m1
  rw [may_dg (by omega)] at m2
  unfold divide_Div.f
  refine ev_neg (by omega) (ev_bind m1 (ev_pos rfl (ev_bind m2 (ev_succ ?_))))
  simp only [divide_Div.j0]
  refine ev_neg (by simp) (ev_bind (cmp_ev hx (by omega) (by omega)) (ev_ite (fun h => ?_) (fun h => ev_ite (fun h1 => ?_) (fun h1 => ?_))))
  · have hlt : x < y := by
      unfold cmpI at h; split at h
      · assumption
      · split at h <;> omega
    refine ev_bind (make_ev hx (by omega)) (ev_now ?_)
    rw [Int.ediv_eq_zero_of_lt hx hlt, Int.emod_eq_of_lt hx hlt, dg_zero]
  · have hyB : y < B := by
      have := val_lt (b := B) (by decide) (dg_dig hB y (by omega))
      rw [val_dg hB y (by omega), show (dg B y).length = 1 by omega, Int.pow_one] at this
      exact this
    have e0 : rd (dg B y) 0 = y := by
      rw [dg_pos hB hy, rd_cons_zero, Int.emod_eq_of_lt (by omega) hyB]
    have em : y % 4294967296 = y := Int.emod_eq_of_lt (by omega) hyB
    simp only [B] at hyB
    have hd := dsmall_ev (d0 := y) hx (by omega) (by omega) (by omega) (by omega : (dg B x).length < 1099511627776)
    rw [em] at hd
    rw [e0]
    have hm0 : 0 ≤ x % y := Int.emod_nonneg _ (by omega)
    have hm1 : x % y < y := Int.emod_lt_of_pos _ hy
    exact ev_pos (by omega) (ev_bind hd (ev_bind (nat_of_ev (x := x % y) hm0 (by omega)) (ev_now rfl)))
  · have hge : y ≤ x := by
      unfold cmpI at h; split at h
      · omega
      · split at h <;> omega
    exact ev_bind (knuth_ev hy hge hl (by omega)) (ev_now rfl)
theorem div_zero {xs : List Int} : Ev (fun k => divide_Div.f k xs (dg B 0)) ([], [], 3) := by
  unfold divide_Div.f
  rw [dg_zero]
  exact ev_pos rfl (ev_now rfl)
theorem dg_len_pos {x : Int} (hx : 0 ≤ x) : ((dg B x).length : Int) > 0 ↔ x ≠ 0 := by
  constructor
  · intro h hz
    rw [hz, dg_zero] at h
    simp at h
  · intro h
    have : (dg B x).length ≠ 0 := fun h' => h ((dg_nil_iff hB hx).1 (List.length_eq_zero_iff.1 h'))
    omega
def modR (x y : Int) : List Int × Int := if y = 0 then ([], 3) else (dg B (x % y), 0)
theorem mod_ev {x y : Int} (hx : 0 ≤ x) (hy : 0 ≤ y) (hl : (dg B x).length < 1000000000) (hl2 : (dg B y).length < 1000000000) : Ev (fun k => divide_Mod.f k (dg B x) (dg B y)) (modR x y) := by
  unfold divide_Mod.f modR
  by_cases hz : y = 0
  · rw [if_pos hz, hz]
    exact ev_bind div_zero (ev_now rfl)
  · rw [if_neg hz]
    exact ev_bind (div_ev hx (by omega) hl hl2) (ev_now rfl)
end Go.Proofs.Ytiakcfkcmfmdiaa.B

end
section
namespace Go.Proofs.Ytiakcfkcmfmdiaa.B
set_option linter.unusedVariables false
set_option linter.unusedSimpArgs false
open Go Go.RowKit Go.Proofs.YtiakcfkcmfmdiaaW.PrintWords Go.Proofs.YtiakcfkcmfmdiaaW.PrintLast Go.Proofs.YtiakcfkcmfmdiaaW.PrintMore Go.Proofs.Ytiakcfkcmfmdiaa.F Go.Proofs.Ytiakcfkcmfmdiaa.A
theorem gcd_step {m n : Nat} (h : n ≠ 0) : Nat.gcd n (m % n) = Nat.gcd m n := by
  rw [Nat.gcd_comm n (m % n), ← Nat.gcd_rec, Nat.gcd_comm]
theorem emod_nat (m n : Nat) : (m : Int) % (n : Int) = ((m % n : Nat) : Int) := by rw [Int.natCast_emod]
theorem euclid_l0 : ∀ n m : Nat, (dg B (m : Int)).length < 1000000000 → (dg B (n : Int)).length < 1000000000 → Ev (fun k => gcd_Euclid.l0 k (dg B (m : Int)) (dg B (n : Int))) (dg B ((Nat.gcd m n : Nat) : Int)) := by
  intro n
  induction n using Nat.strongRecOn with
  | ind n ih =>
    intro m h1 h2
    refine ev_succ ?_
    simp only [gcd_Euclid.l0]
    by_cases hn : n = 0
    · subst hn
      rw [Nat.gcd_zero_right]
      refine ev_neg ?_ (ev_now rfl)
      show ¬ ((dg B ((0 : Nat) : Int)).length : Int) > 0
      rw [show ((0 : Nat) : Int) = 0 from rfl, dg_zero]
      simp
    · have hp : 0 < (n : Int) := by omega
      have m1 := mod_ev (x := (m : Int)) (y := (n : Int)) (by omega) (by omega) h1 h2
      unfold modR at m1
      rw [if_neg (by omega), emod_nat] at m1
      have hlt : m % n < n := Nat.mod_lt _ (by omega)
      have hle := dg_len_mono hB (x := ((m % n : Nat) : Int)) (y := (n : Int)) (by omega) (by omega)
      have key := ih (m % n) hlt n h2 (by omega)
      rw [gcd_step hn] at key
      exact ev_pos ((dg_len_pos (by omega)).2 (by omega)) (ev_bind m1 key)
theorem euclid_ev {m n : Nat} (h1 : (dg B (m : Int)).length < 1000000000) (h2 : (dg B (n : Int)).length < 1000000000) : Ev (fun k => gcd_Euclid.f k (dg B (m : Int)) (dg B (n : Int))) (dg B ((Nat.gcd m n : Nat) : Int)) := by
  unfold gcd_Euclid.f
  exact ev_bind (make_ev (by omega) (by omega)) (ev_bind (make_ev (by omega) (by omega)) (euclid_l0 n m h1 h2))
theorem rgcd_l0 : ∀ n m : Nat, (dg D (m : Int)).length < 549755813887 → (dg D (n : Int)).length < 549755813887 → Ev (fun k => triviumref02_Gcd.l0 k (dg D (m : Int)) (dg D (n : Int))) (dg D ((Nat.gcd m n : Nat) : Int)) := by
  intro n
  induction n using Nat.strongRecOn with
  | ind n ih =>
    intro m h1 h2
    refine ev_succ ?_
    simp only [triviumref02_Gcd.l0]
    by_cases hn : n = 0
    · subst hn
      rw [Nat.gcd_zero_right]
      refine ev_neg ?_ (ev_now rfl)
      show ¬ ((dg D ((0 : Nat) : Int)).length : Int) > 0
      rw [show ((0 : Nat) : Int) = 0 from rfl, dg_zero]
      simp
    · have hp : 0 < (n : Int) := by omega
      have m1 := rdiv_ev (x := (m : Int)) (y := (n : Int)) (by omega) hp h1 h2
      rw [emod_nat] at m1
      have hlt : m % n < n := Nat.mod_lt _ (by omega)
      have hle := dg_len_mono hD (x := ((m % n : Nat) : Int)) (y := (n : Int)) (by omega) (by omega)
      have key := ih (m % n) hlt n h2 (by omega)
      rw [gcd_step hn] at key
      have hne : (dg D (n : Int)).length ≠ 0 := fun h => by
        have := (dg_nil_iff hD (by omega)).1 (List.length_eq_zero_iff.1 h); omega
      exact ev_pos (by omega) (ev_bind m1 key)
theorem gcd_le_max {m n K : Nat} (h1 : m ≤ K) (h2 : n ≤ K) : Nat.gcd m n ≤ K := by
  by_cases hm : m = 0
  · rw [hm, Nat.gcd_zero_left]; exact h2
  · exact Nat.le_trans (Nat.gcd_le_left n (by omega)) h1
theorem rgcd05_ev {m n : Nat} (h1 : (dg B (m : Int)).length < 1000000) (h2 : (dg B (n : Int)).length < 1000000) : Ev (fun k => triviumref05_Gcd.f k (dg B (m : Int)) (dg B (n : Int))) (dg B ((Nat.gcd m n : Nat) : Int)) := by
  have lD : ∀ z : Nat, (dg B (z : Int)).length < 1000000 → (dg D (z : Int)).length < 32000000 := by
    intro z hz
    have h := val_lt (b := B) (by decide) (dg_dig hB (z : Int) (by omega))
    rw [val_dg hB _ (by omega)] at h
    rw [show (B : Int) ^ (dg B (z : Int)).length = 2 ^ (32 * (dg B (z : Int)).length) by rw [Int.pow_mul]; rfl] at h
    have := len_le hD (by omega) h
    omega
  have a1 := lD m h1
  have a2 := lD n h2
  have hg : (dg D ((Nat.gcd m n : Nat) : Int)).length < 32000000 := by
    have := gcd_le_max (m := m) (n := n) (K := max m n) (by omega) (by omega)
    have h3 := dg_len_mono hD (x := ((Nat.gcd m n : Nat) : Int)) (y := ((max m n : Nat) : Int)) (by omega) (by omega)
    rcases (show max m n = m ∨ max m n = n by omega) with h | h <;> rw [h] at h3 <;> omega
  unfold triviumref05_Gcd.f
  exact ev_bind (of_ev (by omega) (by omega)) (ev_bind (of_ev (by omega) (by omega)) (ev_bind (rgcd_l0 n m (by omega) (by omega)) (ev_bind (back_ev (by omega) (by omega)) (ev_now rfl))))
def gcds (ns : List Nat) : Nat := ns.foldl Nat.gcd 0
theorem gcds_snoc (ns : List Nat) (n : Nat) : gcds (ns ++ [n]) = Nat.gcd (gcds ns) n := by unfold gcds; rw [List.foldl_append]; rfl
theorem gcds_le {K : Nat} : ∀ ns : List Nat, (∀ n ∈ ns, n ≤ K) → gcds ns ≤ K := by
  have H : ∀ (ns : List Nat) (a : Nat), a ≤ K → (∀ n ∈ ns, n ≤ K) → ns.foldl Nat.gcd a ≤ K := by
    intro ns
    induction ns with
    | nil => intro a ha _; exact ha
    | cons n ns ih => intro a ha hns; exact ih _ (gcd_le_max ha (hns n (List.mem_cons_self ..))) (fun x hx => hns x (List.mem_cons_of_mem _ hx))
  exact fun ns h => H ns 0 (Nat.zero_le _) h
theorem rd_L1_map (ns : List Nat) (i : Nat) (h : i < ns.length) : rd_L1 (ns.map fun n : Nat => dg B (n : Int)) (i : Int) = dg B ((ns[i] : Nat) : Int) := by
  unfold rd_L1
  rw [Int.toNat_natCast, List.getD, List.getElem?_eq_getElem (by rw [List.length_map]; exact h), List.getElem_map]
  rfl
theorem gcds_l0 (ns : List Nat) (K : Nat) (hK : (dg B (K : Int)).length < 1000000000) (hns : ∀ n ∈ ns, n ≤ K) (hl : ns.length < 1000000000) : ∀ d i : Nat, ns.length - i = d → i ≤ ns.length → Ev (fun k => gcd_Gcd.l0 k (dg B ((gcds (ns.take i) : Nat) : Int)) (ns.map fun n : Nat => dg B (n : Int)) (ns.length : Int) (i : Int)) (dg B ((gcds ns : Nat) : Int)) := by
  have lK : ∀ z : Nat, z ≤ K → (dg B (z : Int)).length < 1000000000 := fun z hz => by
    have := dg_len_mono hB (x := (z : Int)) (y := (K : Int)) (by omega) (by omega); omega
  intro d
  induction d with
  | zero =>
    intro i hd hi
    refine ev_succ ?_
    simp only [gcd_Gcd.l0]
    refine ev_neg (by omega) (ev_now ?_)
    rw [List.take_of_length_le (by omega)]
  | succ d ih =>
    intro i hd hi
    have n0 : i < ns.length := by omega
    have key := ih (i + 1) (by omega) (by omega)
    rw [List.take_succ_eq_append_getElem n0, gcds_snoc] at key
    have g := gcds_le (ns.take i) (fun n hn => hns n (List.mem_of_mem_take hn))
    have e := euclid_ev (lK _ g) (lK (ns[i]) (hns _ (List.getElem_mem n0)))
    have w : Aside0 (wrap64 ((i : Int) + 1) = ((i + 1 : Nat) : Int)) := ⟨by rw [w64 (by omega) (by omega)]; omega⟩
    refine ev_succ ?_
    simp only [gcd_Gcd.l0]
    rw [rd_L1_map ns i n0, w.out]
    clear w
    exact ev_pos (by omega) (ev_pos (by omega) (ev_pos (by rw [List.length_map]; omega) (ev_bind e key)))
theorem gcds_ev (ns : List Nat) (K : Nat) (hK : (dg B (K : Int)).length < 1000000000) (hns : ∀ n ∈ ns, n ≤ K) (hl : ns.length < 1000000000) : Ev (fun k => gcd_Gcd.f k (ns.map fun n : Nat => dg B (n : Int))) (dg B ((gcds ns : Nat) : Int)) := by
  have := gcds_l0 ns K hK hns hl _ 0 rfl (by omega)
  unfold gcd_Gcd.f
  rw [List.length_map]
  rw [List.take_zero] at this
  simpa [gcds, dg_zero] using this
end Go.Proofs.Ytiakcfkcmfmdiaa.B

end
section
namespace Go.Proofs.Ytiakcfkcmfmdiaa.Pure
set_option linter.unusedVariables false
set_option linter.unusedSimpArgs false
open Go Go.RowKit Go.Proofs.YtiakcfkcmfmdiaaW.PrintWords Go.Proofs.YtiakcfkcmfmdiaaW.PrintLast Go.Proofs.YtiakcfkcmfmdiaaW.PrintMore Go.Proofs.Ytiakcfkcmfmdiaa.F Go.Proofs.Ytiakcfkcmfmdiaa.A Go.Proofs.Ytiakcfkcmfmdiaa.B
set_option maxRecDepth 100000 in
theorem works05_ev : Ev (fun k => triviumlaw05_works.f k) true := Ev.of (fun k => triviumlaw05_works.mono k) (k := 150) (by decide +kernel)
def num4 (xs : List Int) : Nat := (cl xs 4).toNat
theorem num4_eq (xs : List Int) : ((num4 xs : Nat) : Int) = cl xs 4 := Int.toNat_of_nonneg (cl_nonneg xs 4)
theorem num4_lt (xs : List Int) : num4 xs ≤ 2 ^ 128 := by
  have h := cl_lt xs 4
  have e : (B : Int) ^ 4 = ((2 ^ 128 : Nat) : Int) := by decide
  rw [e] at h
  have := num4_eq xs
  omega
theorem K_len : (dg B ((2 ^ 128 : Nat) : Int)).length < 1000 := by
  have := dg_len_le hB 5 ((2 ^ 128 : Nat) : Int) (by decide) (by decide)
  omega
theorem le_K_len {z : Nat} (h : z ≤ 2 ^ 128) : (dg B (z : Int)).length < 1000 := by
  have h1 := K_len
  have h2 := dg_len_mono hB (x := (z : Int)) (y := ((2 ^ 128 : Nat) : Int)) (Int.natCast_nonneg _) (Int.ofNat_le.2 h)
  exact Nat.lt_of_le_of_lt h2 h1
def nums (l : List (List Int)) : List Nat := l.map num4
theorem nums_le (l : List (List Int)) : ∀ n ∈ nums l, n ≤ 2 ^ 128 := by
  intro n hn
  obtain ⟨xs, -, rfl⟩ := List.mem_map.1 hn
  exact num4_lt xs
theorem gcdmany_l0 (l : List (List Int)) (hl : ∀ xs ∈ l, xs.length < 17592186044416 ∧ ∀ x ∈ xs, 0 ≤ x) : ∀ d i : Nat, min l.length 5 - i = d → i ≤ min l.length 5 →
    Ev (fun k => triviumlaw05_GcdMany.l0 k l ((nums (l.take i)).map fun n : Nat => dg B (n : Int)) (dg B ((gcds (nums (l.take i)) : Nat) : Int)) (i : Int)) true := by
  intro d
  induction d with
  | zero =>
    intro i hd hi
    have hlen : (nums (l.take i)).length ≤ 5 := by unfold nums; rw [List.length_map, List.length_take]; omega
    have g := gcds_ev (nums (l.take i)) (2 ^ 128) (Nat.lt_of_lt_of_le K_len (by decide)) (nums_le _) (by omega)
    have sm := same_ev (dg B ((gcds (nums (l.take i)) : Nat) : Int)) (dg B ((gcds (nums (l.take i)) : Nat) : Int)) (Nat.lt_of_lt_of_le (le_K_len (gcds_le _ (nums_le _))) (by decide))
    rw [decide_eq_true rfl] at sm
    have J : Ev (fun k => triviumlaw05_GcdMany.j1 k l ((nums (l.take i)).map fun n : Nat => dg B (n : Int)) (dg B ((gcds (nums (l.take i)) : Nat) : Int)) (i : Int) false) true := by
      refine ev_succ ?_
      simp only [triviumlaw05_GcdMany.j1]
      exact ev_neg (by simp) (ev_bind g (ev_bind sm (ev_pos rfl (ev_bind works05_ev (ev_now rfl)))))
    refine ev_succ ?_
    simp only [triviumlaw05_GcdMany.l0]
    refine ev_ite (fun h => ?_) (fun h => J)
    rw [decide_eq_false (by omega)]
    exact J
  | succ d ih =>
    intro i hd hi
    have n0 : i < l.length := by omega
    have key := ih (i + 1) (by omega) (by omega)
    have et : nums (l.take (i + 1)) = nums (l.take i) ++ [num4 l[i]] := by
      unfold nums
      rw [List.take_succ_eq_append_getElem n0, List.map_append]; rfl
    rw [et, gcds_snoc, List.map_append] at key
    have hr : rd_L1 l (i : Int) = l[i] := by
      unfold rd_L1
      rw [Int.toNat_natCast, List.getD, List.getElem?_eq_getElem n0]; rfl
    have hx := hl l[i] (List.getElem_mem n0)
    have c := clean_ev l[i] 4 hx.2 hx.1
    rw [← num4_eq] at c
    have g := rgcd05_ev (m := gcds (nums (l.take i))) (n := num4 l[i]) (Nat.lt_of_lt_of_le (le_K_len (gcds_le _ (nums_le _))) (by decide)) (Nat.lt_of_lt_of_le (le_K_len (num4_lt _)) (by decide))
    have hlen : (nums (l.take i)).length ≤ 5 := by unfold nums; rw [List.length_map, List.length_take]; omega
    have w : Aside0 (wrap64 ((i : Int) + 1) = ((i + 1 : Nat) : Int)) := ⟨by rw [w64 (by omega) (by omega)]; omega⟩
    refine ev_succ ?_
    simp only [triviumlaw05_GcdMany.l0]
    rw [decide_eq_true (show (i : Int) < 5 by omega)]
    refine ev_pos (by omega) (ev_succ ?_)
    simp only [triviumlaw05_GcdMany.j1]
    rw [hr, w.out]
    clear w
    exact ev_pos (by first | rfl | trivial) (ev_pos (by omega) (ev_pos (by omega) (ev_bind c (ev_pos (by rw [List.length_map]; omega) (ev_bind g key)))))
theorem GcdMany (l : List (List Int)) (hl : ∀ xs ∈ l, xs.length < 17592186044416 ∧ ∀ x ∈ xs, 0 ≤ x) : ∃ k, triviumlaw05_GcdMany.f k l = some true := by
  refine Ev.rounds ?_
  have := gcdmany_l0 l hl _ 0 rfl (by omega)
  unfold triviumlaw05_GcdMany.f
  simpa [nums, gcds, dg_zero] using this
end Go.Proofs.Ytiakcfkcmfmdiaa.Pure

end
section
namespace Go.Proofs.Ytiakcfkcmfmdiaa.gcdMany
open Go.Proofs.YtiakcfkcmfmdiaaW
open Go.ChangeShapes Go.WideShapes Go.ChangeAt Go.RowKit
open Go.ChangeMaps (open_string shut_string)
set_option linter.unusedVariables false
theorem own : ownKnob Try.prog.godebug = none := by kernel_rfl
theorem laidOut : laidOutB Try.prog = true := by kernel_rfl
set_option maxRecDepth 100000 in
theorem lifted (os : Os) (started : os.Started) (H : Type) (enc : TypeId × Value → H) :
    ReturnsInHanded {} Try.checked os 7 .any (Rows.gcdManySpec.pre6 enc Try.prog Try.f7 Rows.gcdManyRow.domain false) (Rows.gcdManySpec.post enc Try.prog Try.f7 false true false false) := by
  refine returnsInHanded_of_change_sized (C := Try.checked) own started (by kernel_rfl) Try.func7
    (ChangeSpec.witness6 (enc := enc) (C := Try.checked) false ⟨#[], #[.slice none 0 0], []⟩ 8 (by kernel_rfl) (by kernel_rfl) (by kernel_rfl) (by kernel_rfl)) ?_
  intro W base args ds gs before hval0 hW hcnd hsz0 _
  have hsz : (DataW.weightsEach Try.prog (Try.f7.params.toList ++ Rows.gcdManySpec.plain.varTypes Try.prog) (ds ++ gs)).all (· ≤ reachBytes) = true := hsz0
  have hval : ∀ (j : Nat) t v, Try.f7.params[j]? = some t → args[j]? = some v → Value.okWide Try.prog W .any base t v := hval0
  have hW' := hW
  obtain ⟨p, q, hA0, hV, rfl, hfz, hnd⟩ := hW
  have hA : DataW.TrodAll enc Try.prog W 0 (fun _ => true) true Try.f7.params.toList args.toList ds p := hA0
  rw [Try.params7] at hA hval hsz
  obtain ⟨v0, vs0, d0, ds0, p0, q0, hargs, rfl, rfl, h0, r0⟩ := trodAll_cons hA
  obtain ⟨rfl, rfl, rfl⟩ := trodAll_nil r0
  obtain rfl : args = #[v0] := by cases args; simp_all
  obtain ⟨rfl, rfl⟩ := trodVars_none hV
  obtain ⟨a0, len0, cap0, rfl⟩ := okWide_slice Try.underlying51 (hval 0 51 v0 rfl rfl)
  have k0 := h0
  have lt0 : ∀ x ∈ p0, x.block < W.heap.size := by obtain ⟨m, hm⟩ := k0; exact DataW.trod_lt m _ _ _ hm
  obtain ⟨l0, rfl, hc0, hC, hrows⟩ := PrintWords.open_rows (eb := 23) hsz (j := 0) (t := 51) rfl rfl Try.underlying51 Try.underlying45 Try.underlying23 (by kernel_rfl) (by kernel_rfl) (B := 8) (by kernel_rfl) h0
  have hg : ∀ xs ∈ l0, xs.length < 17592186044416 ∧ ∀ x ∈ xs, 0 ≤ x := fun xs hxs => by
    obtain ⟨h1, h2⟩ := hrows xs hxs
    refine ⟨?_, fun x hx => (A.wf_u64 (h2 x hx)).1⟩
    have := reachBytes_lt
    omega
  obtain ⟨k, h⟩ := Pure.GcdMany l0 hg
  clear hA0 hval0 hsz0 hsz
  refine (F.triviumlaw05_GcdMany.calls k a0 cap0 l0 true W hC hc0 h).mono fun e W' ⟨he, bel⟩ => ?_
  subst he
  exact ⟨_, rfl, _, _, _, [], _, [], hW', trodAll_mk1 (shut_bool Try.underlying4 _), (trodAll_cons_mk (Below.trod laidOut (by kernel_rfl) (of_decide_eq_true (by kernel_rfl)) k0 bel lt0) trodAll_mk0), rfl, bel.frame _, fun h => by cases h⟩
theorem over : Rows.gcdManyRow.holds Try.pinned (OpenSpec.ofChange Rows.gcdManySpec) :=
  OpenClaim.holds_of_wide 7 Try.f7 rfl rfl rfl rfl rfl rfl rfl ⟨rfl, rfl, rfl, rfl, rfl⟩ rfl rfl rfl rfl rfl (by kernel_rfl) Try.func7 (by kernel_rfl)
    (of_decide_eq_true (by kernel_rfl)) (by unfold Func.isWrapper; first | (rw [if_pos (by decide +kernel)]; kernel_rfl) | (rw [if_neg (by decide +kernel)]; exact ⟨rfl, rfl⟩))
    (fun os started H enc _ => lifted os started H enc)
theorem proved : Rows.GcdManySaid := over
#print axioms proved
end Go.Proofs.Ytiakcfkcmfmdiaa.gcdMany
namespace Go.Proofs.Ytiakcfkcmfmdiaa
theorem gcdMany_holds : Rows.GcdManySaid := gcdMany.proved
end Go.Proofs.Ytiakcfkcmfmdiaa

end
