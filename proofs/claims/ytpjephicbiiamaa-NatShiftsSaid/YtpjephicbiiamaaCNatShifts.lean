/- nat.Shl, nat.Shr, nat.Bits and nat.Zeros answer for any number and any shift what the document's answer does, or refuse: for all limbs that come in (24 of them are looked at; a shift from 401 to 100000 is taken by what it leaves by 401). -/
import Derived.Laws.BitsLemmas
import Derived.Test.YtpjephicbiiamaaRows
import Derived.WalkKit
import Derived.ProofKit
import Derived.OpenShut
import Derived.ShutString
import Derived.ChangeOld
import Derived.Below
import Derived.SizedLaws
import Derived.Test.YtpjephicbiiamaaCNatShifts3
set_option linter.unusedVariables false
set_option linter.unusedSimpArgs false
set_option linter.unusedSectionVars false
section
namespace Go.Proofs.Ytpjephicbiiamaa.A
set_option linter.unusedVariables false
set_option linter.unusedSimpArgs false
open Go Go.RowKit Go.Proofs.YtpjephicbiiamaaW.PrintWords Go.Proofs.YtpjephicbiiamaaW.PrintLast Go.Proofs.YtpjephicbiiamaaW.PrintMore
section
variable {α β : Type} {f g : Nat → Option α} {r : α}
theorem ev_pos {c : Prop} [Decidable c] (h : c) (k : Ev f r) : Ev (fun n => if c then f n else g n) r := by
  simpa only [if_pos h] using k
theorem ev_neg {c : Prop} [Decidable c] (h : ¬ c) (k : Ev g r) : Ev (fun n => if c then f n else g n) r := by
  simpa only [if_neg h] using k
theorem ev_ite {c : Prop} [Decidable c] (hp : c → Ev f r) (hn : ¬ c → Ev g r) : Ev (fun n => if c then f n else g n) r := by
  by_cases h : c
  · exact ev_pos h (hp h)
  · exact ev_neg h (hn h)
theorem ev_now {a : α} (h : a = r) : Ev (fun _ => some a) r := ⟨0, fun _ _ => by rw [h]⟩
theorem ev_bind {a : β} {g : Nat → Option β} {f : Nat → β → Option α} (h : Ev g a) (k : Ev (fun n => f n a) r) : Ev (fun n => (g n).bind (f n)) r := h.bind k
theorem ev_eq {a : β} {x : Option β} {f : Nat → β → Option α} (h : x = some a) (k : Ev (fun n => f n a) r) : Ev (fun n => x.bind (f n)) r := by
  subst h; exact k
end
theorem w64 {x : Int} (h0 : -9223372036854775808 ≤ x) (h1 : x ≤ 9223372036854775807) : wrap64 x = x := by unfold wrap64; omega
theorem wu64 {x : Int} (h0 : 0 ≤ x) (h1 : x ≤ 18446744073709551615) : IntKind.u64.wrap x = x := by
  have e : IntKind.u64.wrap x = x % 18446744073709551616 := by simp [IntKind.wrap, IntKind.bits, IntKind.signed]
  rw [e]; omega
theorem bit1 {x : Int} (h0 : 0 ≤ x) (h1 : x ≤ 18446744073709551615) : Go.bits .and .u64 x 1 = x % 2 := by
  have := bits_mask .u64 64 (by decide) (fun n a b => wu64 a (by omega)) 1 (by decide) x h0 (by omega)
  simpa using this
theorem wf_u64 {x : Int} (h : (Lit.int .u64 x).wf = true) : 0 ≤ x ∧ x ≤ 18446744073709551615 := by
  simp [Lit.wf, IntKind.min, IntKind.max, IntKind.signed, IntKind.bits] at h; omega
theorem rd_nat (xs : List Int) (i : Nat) : rd xs (i : Int) = xs.getD i 0 := by simp [rd]
theorem rd_append_len (xs : List Int) (y : Int) (zs : List Int) : rd (xs ++ y :: zs) (xs.length : Int) = y := by
  simp [rd, List.getD]
def val (b : Int) : List Int → Int
  | [] => 0
  | x :: xs => x + b * val b xs
def Dig (b : Int) (xs : List Int) : Prop := ∀ x ∈ xs, 0 ≤ x ∧ x < b
theorem Dig.nil {b : Int} : Dig b [] := fun _ h => by cases h
theorem Dig.cons {b x : Int} {xs : List Int} (h0 : 0 ≤ x) (h1 : x < b) (h : Dig b xs) : Dig b (x :: xs) := by
  intro y hy
  rcases List.mem_cons.1 hy with rfl | hy
  · exact ⟨h0, h1⟩
  · exact h y hy
theorem Dig.head {b x : Int} {xs : List Int} (h : Dig b (x :: xs)) : 0 ≤ x ∧ x < b := h x (List.mem_cons_self ..)
theorem Dig.tail {b x : Int} {xs : List Int} (h : Dig b (x :: xs)) : Dig b xs := fun y hy => h y (List.mem_cons_of_mem _ hy)
theorem Dig.append {b : Int} {xs ys : List Int} (h : Dig b xs) (k : Dig b ys) : Dig b (xs ++ ys) := by
  intro y hy
  rcases List.mem_append.1 hy with hy | hy
  · exact h y hy
  · exact k y hy
theorem Dig.zeros {b : Int} (hb : 0 < b) (n : Nat) : Dig b (List.replicate n 0) := by
  intro y hy
  have := List.eq_of_mem_replicate hy
  omega
theorem Dig.rd {b : Int} {xs : List Int} (h : Dig b xs) {i : Int} (h0 : 0 ≤ i) (h1 : i < xs.length) : 0 ≤ rd xs i ∧ rd xs i < b := by
  obtain ⟨j, rfl⟩ := Int.eq_ofNat_of_zero_le h0
  have hj : j < xs.length := by omega
  rw [rd_nat, List.getD, List.getElem?_eq_getElem hj]
  exact h _ (List.getElem_mem hj)
theorem Dig.take {b : Int} {xs : List Int} (h : Dig b xs) (i : Nat) : Dig b (xs.take i) := fun y hy => h y (List.mem_of_mem_take hy)
theorem Dig.mono {b c : Int} {xs : List Int} (h : Dig b xs) (hc : b ≤ c) : Dig c xs := fun x hx => ⟨(h x hx).1, by have := (h x hx).2; omega⟩
theorem val_append (b : Int) (xs ys : List Int) : val b (xs ++ ys) = val b xs + b ^ xs.length * val b ys := by
  induction xs with
  | nil => simp [val]
  | cons x xs ih =>
    simp only [List.cons_append, val, ih, List.length_cons, Int.pow_succ, Int.mul_add]
    rw [Int.mul_comm (b ^ xs.length) b, Int.mul_assoc, Int.add_assoc]
theorem val_zeros (b : Int) (n : Nat) : val b (List.replicate n 0) = 0 := by
  induction n with
  | zero => rfl
  | succ n ih => simp [List.replicate_succ, val, ih]
theorem val_nonneg {b : Int} (hb : 0 ≤ b) : ∀ {xs : List Int}, Dig b xs → 0 ≤ val b xs
  | [], _ => Int.le_refl _
  | x :: xs, h => by
    have := val_nonneg hb h.tail
    have := Int.mul_nonneg hb this
    have := h.head.1
    simp only [val]; omega
theorem val_lt {b : Int} (hb : 0 < b) : ∀ {xs : List Int}, Dig b xs → val b xs < b ^ xs.length
  | [], _ => by simp [val]
  | x :: xs, h => by
    have h1 := val_lt hb h.tail
    have h2 : b * (val b xs + 1) ≤ b * b ^ xs.length := Int.mul_le_mul_of_nonneg_left (by omega) (by omega)
    have := h.head.2
    rw [Int.mul_add] at h2
    simp only [val, List.length_cons, Int.pow_succ]
    rw [Int.mul_comm (b ^ xs.length) b]
    omega
def dgN (b : Nat) (n : Nat) : List Int := if h : 2 ≤ b ∧ 0 < n then ((n % b : Nat) : Int) :: dgN b (n / b) else []
termination_by n
decreasing_by exact Nat.div_lt_self h.2 h.1
def dg (b n : Int) : List Int := dgN b.toNat n.toNat
theorem dgN_zero (b : Nat) : dgN b 0 = [] := by rw [dgN, dif_neg (by omega)]
theorem dgN_pos {b n : Nat} (hb : 2 ≤ b) (hn : 0 < n) : dgN b n = ((n % b : Nat) : Int) :: dgN b (n / b) := by rw [dgN, dif_pos ⟨hb, hn⟩]
theorem dg_zero (b : Int) : dg b 0 = [] := dgN_zero _
theorem dg_pos {b n : Int} (hb : 2 ≤ b) (hn : 0 < n) : dg b n = n % b :: dg b (n / b) := by
  obtain ⟨c, rfl⟩ := Int.eq_ofNat_of_zero_le (show (0 : Int) ≤ b by omega)
  obtain ⟨m, rfl⟩ := Int.eq_ofNat_of_zero_le (show (0 : Int) ≤ n by omega)
  have e : ((m : Int) / (c : Int)).toNat = m / c := by rw [← Int.natCast_ediv]; rfl
  unfold dg
  rw [e]
  simp only [Int.toNat_natCast]
  rw [dgN_pos (by omega) (by omega)]
  simp
theorem dg_ind {b : Int} (hb : 2 ≤ b) {P : Int → Prop} (h0 : P 0) (h1 : ∀ n, 0 < n → P (n / b) → P n) : ∀ n : Int, 0 ≤ n → P n := by
  have H : ∀ m : Nat, ∀ n : Int, 0 ≤ n → n.toNat = m → P n := by
    intro m
    induction m using Nat.strongRecOn with
    | ind m ih =>
      intro n hn hm
      by_cases hz : n = 0
      · rw [hz]; exact h0
      · have hl : n / b < n := Int.ediv_lt_of_lt_mul (by omega) (by
          have : n * 2 ≤ n * b := Int.mul_le_mul_of_nonneg_left hb hn
          omega)
        have hg : 0 ≤ n / b := Int.ediv_nonneg hn (by omega)
        exact h1 n (by omega) (ih _ (by omega) _ hg rfl)
  exact fun n hn => H _ n hn rfl
theorem dg_dig {b : Int} (hb : 2 ≤ b) (n : Int) (hn : 0 ≤ n) : Dig b (dg b n) := by
  refine dg_ind hb (P := fun n => Dig b (dg b n)) ?_ ?_ n hn
  · rw [dg_zero]; exact Dig.nil
  · intro n hn ih
    rw [dg_pos hb hn]
    exact ih.cons (Int.emod_nonneg _ (by omega)) (Int.emod_lt_of_pos _ (by omega))
theorem val_dg {b : Int} (hb : 2 ≤ b) (n : Int) (hn : 0 ≤ n) : val b (dg b n) = n := by
  refine dg_ind hb (P := fun n => val b (dg b n) = n) ?_ ?_ n hn
  · rw [dg_zero]; rfl
  · intro n hn ih
    rw [dg_pos hb hn]
    simp only [val, ih]
    have := Int.emod_add_mul_ediv n b
    omega
def strip (xs : List Int) : List Int := match xs with
  | [] => []
  | x :: xs => match strip xs with
    | [] => if x = 0 then [] else [x]
    | y :: ys => x :: y :: ys
theorem strip_dg {b : Int} (hb : 2 ≤ b) : ∀ {xs : List Int}, Dig b xs → strip xs = dg b (val b xs)
  | [], _ => by rw [val, dg_zero]; rfl
  | x :: xs, h => by
    have ih := strip_dg hb h.tail
    have hx := h.head
    have hv := val_nonneg (by omega) h.tail
    have hm : 0 ≤ b * val b xs := Int.mul_nonneg (by omega) hv
    have e1 : (x + b * val b xs) % b = x := by rw [Int.add_mul_emod_self_left]; exact Int.emod_eq_of_lt hx.1 hx.2
    have e2 : (x + b * val b xs) / b = val b xs := by rw [Int.add_mul_ediv_left _ _ (by omega), Int.ediv_eq_zero_of_lt hx.1 hx.2]; omega
    rw [strip, val]
    by_cases hz : val b xs = 0
    · rw [hz, dg_zero] at ih
      rw [ih, hz, Int.mul_zero, Int.add_zero]
      by_cases hx0 : x = 0
      · rw [hx0, dg_zero]; rfl
      · rw [dg_pos hb (by omega), Int.emod_eq_of_lt hx.1 hx.2, Int.ediv_eq_zero_of_lt hx.1 hx.2, dg_zero]
        simp [hx0]
    · have hmv : 0 < val b xs := by omega
      have hp : 0 < b * val b xs := Int.mul_pos (by omega) hmv
      rw [dg_pos hb (show 0 < x + b * val b xs by omega), e1, e2, ih, dg_pos hb hmv]
theorem dg_len_le {b : Int} (hb : 2 ≤ b) (k : Nat) : ∀ n : Int, 0 ≤ n → n < b ^ k → (dg b n).length ≤ k := by
  induction k with
  | zero => intro n h0 h1; have : n = 0 := by simp at h1; omega
            rw [this, dg_zero]; simp
  | succ k ih =>
    intro n h0 h1
    by_cases hz : n = 0
    · rw [hz, dg_zero]; simp
    · rw [dg_pos hb (by omega), List.length_cons]
      have := ih (n / b) (Int.ediv_nonneg h0 (by omega)) (Int.ediv_lt_of_lt_mul (by omega) (by rw [← Int.pow_succ]; exact h1))
      omega
theorem pow_mono {b : Int} (hb : 1 ≤ b) {m n : Nat} (h : m ≤ n) : b ^ m ≤ b ^ n := by
  obtain ⟨d, rfl⟩ := Nat.exists_eq_add_of_le h
  rw [Int.pow_add]
  have h1 : 0 < b ^ m := Int.pow_pos (by omega)
  have h2 : 0 < b ^ d := Int.pow_pos (by omega)
  have := Int.mul_le_mul_of_nonneg_left (show 1 ≤ b ^ d by omega) (Int.le_of_lt h1)
  omega
theorem dg_len_ge {b : Int} (hb : 2 ≤ b) (k : Nat) (n : Int) (h0 : 0 ≤ n) (h1 : b ^ k ≤ n) : k < (dg b n).length := by
  have hl := val_lt (b := b) (by omega) (dg_dig hb n h0)
  rw [val_dg hb n h0] at hl
  apply Nat.lt_of_not_le
  intro hle
  have : b ^ (dg b n).length ≤ b ^ k := pow_mono (by omega) hle
  omega
theorem dg_inj {b m n : Int} (hb : 2 ≤ b) (hm : 0 ≤ m) (hn : 0 ≤ n) (h : dg b m = dg b n) : m = n := by
  rw [← val_dg hb m hm, ← val_dg hb n hn, h]
theorem dg_nil_iff {b n : Int} (hb : 2 ≤ b) (hn : 0 ≤ n) : dg b n = [] ↔ n = 0 := by
  constructor
  · intro h
    exact dg_inj hb hn (Int.le_refl _) (by rw [h, dg_zero])
  · rintro rfl; exact dg_zero _
end Go.Proofs.Ytpjephicbiiamaa.A

end
section
namespace Go.Proofs.Ytpjephicbiiamaa.B
set_option linter.unusedVariables false
set_option linter.unusedSimpArgs false
open Go Go.RowKit Go.Proofs.YtpjephicbiiamaaW.PrintWords Go.Proofs.YtpjephicbiiamaaW.PrintLast Go.Proofs.YtpjephicbiiamaaW.PrintMore Go.Proofs.Ytpjephicbiiamaa.F Go.Proofs.Ytpjephicbiiamaa.A
abbrev B : Int := 4294967296
abbrev D : Int := 10000
theorem ev_succ {α : Type} {g : Nat → Option α} {r : α} (h : Ev (fun k => g (k + 1)) r) : Ev g r := by
  obtain ⟨K, hK⟩ := h
  refine ⟨K + 1, fun k hk => ?_⟩
  obtain ⟨m, rfl⟩ : ∃ m, k = m + 1 := ⟨k - 1, by omega⟩
  exact hK m (by omega)
theorem strip_snoc_zero (xs : List Int) : strip (xs ++ [0]) = strip xs := by
  induction xs with
  | nil => rfl
  | cons x xs ih => rw [List.cons_append, strip, strip, ih]
theorem strip_snoc (xs : List Int) {y : Int} (hy : y ≠ 0) : strip (xs ++ [y]) = xs ++ [y] := by
  induction xs with
  | nil => simp [strip, hy]
  | cons x xs ih =>
    rw [List.cons_append, strip, ih]
    cases xs <;> rfl
theorem take_succ_rd (xs : List Int) (i : Nat) (h : i < xs.length) : xs.take (i + 1) = xs.take i ++ [rd xs i] := by
  rw [List.take_succ_eq_append_getElem h, rd_nat, List.getD, List.getElem?_eq_getElem h]; rfl
theorem cast_pred (i : Nat) : ((i + 1 : Nat) : Int) - 1 = i := by omega
theorem cast_succ (i : Nat) : (i : Int) + 1 = ((i + 1 : Nat) : Int) := by omega
theorem trim_l0 (xs : List Int) (hl : xs.length < 17592186044416) : ∀ i : Nat, i ≤ xs.length → Ev (fun k => nat_trim.l0 k xs (i : Int)) (strip (xs.take i)) := by
  intro i
  induction i with
  | zero =>
    intro h
    refine ev_succ ?_
    simp only [nat_trim.l0]
    refine ev_neg (by omega) (ev_pos (by omega) (ev_pos (by omega) (ev_now ?_)))
    rfl
  | succ i ih =>
    intro h
    refine ev_succ ?_
    simp only [nat_trim.l0, cast_pred, Int.toNat_natCast]
    simp (disch := omega) only [w64]
    refine ev_pos (by omega) (ev_pos (by omega) (ev_pos (by omega) ?_))
    rw [take_succ_rd xs i (by omega)]
    refine ev_ite (fun hz => ?_) (fun hz => ?_)
    · rw [hz, strip_snoc_zero]; exact ih (by omega)
    · refine ev_pos (by omega) (ev_pos (by omega) (ev_now ?_))
      rw [strip_snoc _ hz]
theorem trim_ev (xs : List Int) (hl : xs.length < 17592186044416) : Ev (fun k => nat_trim.f k xs) (strip xs) := by
  have := trim_l0 xs hl xs.length (Nat.le_refl _)
  rwa [List.take_length] at this
theorem rtrim_l0 (xs : List Int) (hl : xs.length < 17592186044416) : ∀ i : Nat, i ≤ xs.length → Ev (fun k => triviumref02_Trim.l0 k xs (i : Int)) (strip (xs.take i)) := by
  intro i
  induction i with
  | zero =>
    intro h
    refine ev_succ ?_
    simp only [triviumref02_Trim.l0, Option.bind_some]
    refine ev_neg (by omega) (ev_pos (by omega) (ev_pos (by omega) (ev_pos (by simp; try omega) (ev_now ?_))))
    rfl
  | succ i ih =>
    intro h
    refine ev_succ ?_
    simp only [triviumref02_Trim.l0, Option.bind_some, cast_pred, Int.toNat_natCast]
    simp (disch := omega) only [w64]
    refine ev_pos (by omega) (ev_pos (by omega) (ev_pos (by omega) ?_))
    rw [take_succ_rd xs i (by omega)]
    refine ev_ite (fun hz => ?_) (fun hz => ?_)
    · rw [hz, strip_snoc_zero]; exact ih (by omega)
    · refine ev_pos (by omega) (ev_pos (by omega) (ev_pos (by simp [List.length_take]; omega) (ev_now ?_)))
      rw [strip_snoc _ hz]; rfl
theorem rtrim_ev (xs : List Int) (hl : xs.length < 17592186044416) : Ev (fun k => triviumref02_Trim.f k xs) (strip xs) := by
  have := rtrim_l0 xs hl xs.length (Nat.le_refl _)
  rwa [List.take_length] at this
theorem clean_l1 : ∀ n : Nat, ∀ xs : List Int, xs.length = n → xs.length < 17592186044416 → Ev (fun k => triviumref02_Clean.l1 k xs) (strip xs) := by
  intro n
  induction n with
  | zero =>
    intro xs hn hl
    refine ev_succ ?_
    simp only [triviumref02_Clean.l1]
    refine ev_neg (by omega) (ev_now ?_)
    rw [List.length_eq_zero_iff.1 hn]; rfl
  | succ n ih =>
    intro xs hn hl
    have e : xs = xs.take n ++ [rd xs n] := by rw [← take_succ_rd xs n (by omega), ← hn, List.take_length]
    refine ev_succ ?_
    simp only [triviumref02_Clean.l1]
    rw [hn]
    simp only [cast_pred, Int.toNat_natCast]
    simp (disch := omega) only [w64, Int.toNat_natCast]
    refine ev_pos (by omega) (ev_pos (by omega) (ev_pos (by omega) ?_))
    refine ev_ite (fun hz => ?_) (fun hz => ?_)
    · rw [hz] at e
      refine ev_pos (by omega) ?_
      conv => rhs; rw [e, strip_snoc_zero]
      exact ih _ (by rw [List.length_take]; omega) (by rw [List.length_take]; omega)
    · refine ev_now ?_
      conv => rhs; rw [e, strip_snoc _ hz]
      exact e
def cl (xs : List Int) (m : Nat) : Int := val B ((xs.take m).map (· % B))
theorem dig_map (xs : List Int) : Dig B (xs.map (· % B)) := by
  intro y hy
  obtain ⟨x, -, rfl⟩ := List.mem_map.1 hy
  exact ⟨Int.emod_nonneg _ (by decide), Int.emod_lt_of_pos _ (by decide)⟩
theorem cl_nonneg (xs : List Int) (m : Nat) : 0 ≤ cl xs m := val_nonneg (by decide) (dig_map _)
theorem cl_lt (xs : List Int) (m : Nat) : cl xs m < B ^ m := by
  have h := val_lt (b := B) (by decide) (dig_map (xs.take m))
  have h2 : ((xs.take m).map (· % B)).length ≤ m := by rw [List.length_map, List.length_take]; omega
  exact Int.lt_of_lt_of_le h (pow_mono (by decide) h2)
theorem clean_l0 (xs : List Int) (m : Nat) (hu : ∀ x ∈ xs, 0 ≤ x) (hl : xs.length < 17592186044416) : ∀ d i : Nat, min xs.length m - i = d → i ≤ min xs.length m →
    Ev (fun k => triviumref02_Clean.l0 k xs m ((xs.take i).map (· % B)) i) (strip ((xs.take m).map (· % B))) := by
  intro d
  induction d with
  | zero =>
    intro i hd hi
    have e : xs.take i = xs.take m := by
      rcases Nat.le_total xs.length m with h | h
      · rw [List.take_of_length_le (show xs.length ≤ i by omega), List.take_of_length_le h]
      · rw [show i = m by omega]
    have key : Ev (fun k => triviumref02_Clean.j1 k ((xs.take i).map (· % B))) (strip ((xs.take m).map (· % B))) := by
      refine ev_succ ?_
      simp only [triviumref02_Clean.j1]
      rw [e]
      exact clean_l1 _ _ rfl (by rw [List.length_map, List.length_take]; omega)
    refine ev_succ ?_
    simp only [triviumref02_Clean.l0]
    refine ev_ite (fun h1 => ?_) (fun h1 => key)
    exact ev_neg (by omega) key
  | succ d ih =>
    intro i hd hi
    refine ev_succ ?_
    simp only [triviumref02_Clean.l0]
    simp (disch := omega) only [w64]
    have hr : 0 ≤ rd xs i := by
      rw [rd_nat, List.getD, List.getElem?_eq_getElem (show i < xs.length by omega)]
      exact hu _ (List.getElem_mem _)
    refine ev_pos (by omega) (ev_pos (by omega) (ev_pos (by omega) (ev_pos (by rw [List.length_map, List.length_take]; omega) ?_)))
    have := ih (i + 1) (by omega) (by omega)
    rw [take_succ_rd xs i (by omega), List.map_append] at this
    rw [cast_succ, Int.tmod_eq_emod_of_nonneg hr]
    exact this
theorem clean_ev (xs : List Int) (m : Nat) (hu : ∀ x ∈ xs, 0 ≤ x) (hl : xs.length < 17592186044416) : Ev (fun k => triviumref02_Clean.f k xs m) (dg B (cl xs m)) := by
  have := clean_l0 xs m hu hl _ 0 rfl (by omega)
  rw [strip_dg (by decide) (dig_map _)] at this
  exact this
theorem same_l0 (xs ys : List Int) (hl : xs.length < 17592186044416) (he : xs.length = ys.length) : ∀ d i : Nat, xs.length - i = d → i ≤ xs.length → xs.take i = ys.take i →
    Ev (fun k => triviumref02_Same.l0 k xs ys i) (decide (xs = ys)) := by
  intro d
  induction d with
  | zero =>
    intro i hd hi hp
    refine ev_succ ?_
    simp only [triviumref02_Same.l0]
    refine ev_neg (by omega) (ev_now ?_)
    rw [List.take_of_length_le (by omega), List.take_of_length_le (by omega)] at hp
    simp [hp]
  | succ d ih =>
    intro i hd hi hp
    refine ev_succ ?_
    simp only [triviumref02_Same.l0]
    simp (disch := omega) only [w64]
    refine ev_pos (by omega) (ev_pos (by omega) (ev_pos (by omega) ?_))
    refine ev_ite (fun hr => ?_) (fun hr => ev_now ?_)
    · rw [cast_succ]
      exact ih (i + 1) (by omega) (by omega) (by rw [take_succ_rd xs i (by omega), take_succ_rd ys i (by omega), hp, hr])
    · have : xs ≠ ys := fun h => hr (by rw [h])
      simp [this]
theorem same_ev (xs ys : List Int) (hl : xs.length < 17592186044416) : Ev (fun k => triviumref02_Same.f k xs ys) (decide (xs = ys)) := by
  unfold triviumref02_Same.f
  refine ev_ite (fun h => ?_) (fun h => ev_now ?_)
  · exact same_l0 xs ys hl (by omega) _ 0 rfl (by omega) rfl
  · have : xs ≠ ys := fun e => h (by rw [e])
    simp [this]
def cmpI (x y : Int) : Int := if x < y then -1 else if y < x then 1 else 0
theorem val_lt_top {b : Int} (hb : 2 ≤ b) {p q s : List Int} {x y : Int} (hp : Dig b p) (hq : Dig b q) (hl : p.length = q.length) (hxy : x < y) :
    val b (p ++ x :: s) < val b (q ++ y :: s) := by
  rw [val_append, val_append, hl]
  have h1 := val_lt (b := b) (by omega) hp
  have h2 := val_nonneg (b := b) (by omega) hq
  have hpw : 0 < b ^ q.length := Int.pow_pos (by omega)
  have h3 : b ^ q.length * (val b (x :: s) + 1) ≤ b ^ q.length * val b (y :: s) := Int.mul_le_mul_of_nonneg_left (by simp only [val]; omega) (Int.le_of_lt hpw)
  rw [hl] at h1
  rw [Int.mul_add] at h3
  omega
theorem split_at (xs : List Int) (i : Nat) (h : i < xs.length) : xs = xs.take i ++ rd xs i :: xs.drop (i + 1) := by
  conv => lhs; rw [← List.take_append_drop (i + 1) xs, take_succ_rd xs i h]
  simp
theorem cmp_l0 {b : Int} (hb : 2 ≤ b) (f : Nat → List Int → List Int → Int → Option Int)
    (hf : ∀ k x0 x1 x5, f (k + 1) x0 x1 x5 = if x5 ≥ 0 then (if 0 ≤ x5 then (if x5 < (x0.length : Int) then (if x5 < (x1.length : Int) then (if (rd x0 x5) < (rd x1 x5) then (some (-1)) else (if (rd x0 x5) > (rd x1 x5) then (some 1) else (f k x0 x1 (wrap64 (x5 - 1))))) else (none)) else (none)) else (none)) else (some 0))
    (xs ys : List Int) (hx : Dig b xs) (hy : Dig b ys) (hl : xs.length < 17592186044416) (he : xs.length = ys.length) : ∀ i : Nat, i ≤ xs.length → xs.drop i = ys.drop i →
    Ev (fun k => f k xs ys ((i : Int) - 1)) (cmpI (val b xs) (val b ys)) := by
  intro i
  induction i with
  | zero =>
    intro hi hp
    refine ev_succ ?_
    simp only [hf]
    refine ev_neg (by omega) (ev_now ?_)
    simp only [List.drop_zero] at hp
    simp [cmpI, hp]
  | succ i ih =>
    intro hi hp
    refine ev_succ ?_
    simp only [hf, cast_pred]
    simp (disch := omega) only [w64]
    refine ev_pos (by omega) (ev_pos (by omega) (ev_pos (by omega) (ev_pos (by omega) ?_)))
    have ex := split_at xs i (by omega)
    have ey := split_at ys i (by omega)
    rw [← hp] at ey
    refine ev_ite (fun hr => ev_now ?_) (fun hr => ev_ite (fun hr' => ev_now ?_) (fun hr' => ?_))
    · have := val_lt_top hb (s := xs.drop (i + 1)) (hx.take i) (hy.take i) (by simp; omega) hr
      rw [← ex, ← ey] at this
      simp [cmpI, this]
    · have := val_lt_top hb (s := xs.drop (i + 1)) (hy.take i) (hx.take i) (by simp; omega) hr'
      rw [← ex, ← ey] at this
      simp [cmpI, this, Int.not_lt.2 (Int.le_of_lt this)]
    · refine ih (by omega) ?_
      have e : rd xs i = rd ys i := by omega
      have gx : xs.drop i = rd xs i :: xs.drop (i + 1) := by
        rw [List.drop_eq_getElem_cons (show i < xs.length by omega), rd_nat, List.getD, List.getElem?_eq_getElem (show i < xs.length by omega)]; rfl
      have gy : ys.drop i = rd ys i :: ys.drop (i + 1) := by
        rw [List.drop_eq_getElem_cons (show i < ys.length by omega), rd_nat, List.getD, List.getElem?_eq_getElem (show i < ys.length by omega)]; rfl
      rw [gx, gy, e, hp]
theorem dg_lt_of_len {b x y : Int} (hb : 2 ≤ b) (hx : 0 ≤ x) (hy : 0 ≤ y) (h : (dg b x).length < (dg b y).length) : x < y := by
  apply Int.lt_of_not_ge
  intro hge
  have h1 := val_lt (b := b) (by omega) (dg_dig hb x hx)
  rw [val_dg hb x hx] at h1
  have := dg_len_le hb _ y hy (Int.lt_of_le_of_lt hge h1)
  omega
theorem rcmp_ev {x y : Int} (hx : 0 ≤ x) (hy : 0 ≤ y) (hl : (dg D x).length < 17592186044416) : Ev (fun k => triviumref02_Cmp.f k (dg D x) (dg D y)) (cmpI x y) := by
  have hb : (2 : Int) ≤ D := by decide
  unfold triviumref02_Cmp.f
  refine ev_ite (fun h => ?_) (fun h => ev_ite (fun h' => ev_now ?_) (fun h' => ev_now ?_))
  · simp (disch := omega) only [w64]
    have := cmp_l0 hb triviumref02_Cmp.l0 (fun _ _ _ _ => rfl) (dg D x) (dg D y) (dg_dig hb x hx) (dg_dig hb y hy) hl (by omega) _ (Nat.le_refl _) (by rw [List.drop_length, List.drop_eq_nil_of_le (by omega)])
    rwa [val_dg hb x hx, val_dg hb y hy] at this
  · have := dg_lt_of_len hb hx hy (by omega)
    simp [cmpI, this]
  · have := dg_lt_of_len hb hy hx (by omega)
    simp [cmpI, this, Int.not_lt.2 (Int.le_of_lt this)]
end Go.Proofs.Ytpjephicbiiamaa.B

end
section
namespace Go.Proofs.Ytpjephicbiiamaa.B
set_option linter.unusedVariables false
set_option linter.unusedSimpArgs false
open Go Go.RowKit Go.Proofs.YtpjephicbiiamaaW.PrintWords Go.Proofs.YtpjephicbiiamaaW.PrintLast Go.Proofs.YtpjephicbiiamaaW.PrintMore Go.Proofs.Ytpjephicbiiamaa.F Go.Proofs.Ytpjephicbiiamaa.A
theorem hD : (2 : Int) ≤ D := by decide
theorem hB : (2 : Int) ≤ B := by decide
theorem pow_base_mono {a b : Int} (ha : 0 ≤ a) (h : a ≤ b) : ∀ k : Nat, a ^ k ≤ b ^ k
  | 0 => by simp
  | k + 1 => by
    rw [Int.pow_succ, Int.pow_succ]
    have h1 : 0 ≤ a ^ k := Int.pow_nonneg ha
    exact Int.mul_le_mul (pow_base_mono ha h k) h ha (by have := pow_base_mono ha h k; omega)
theorem len_le {b x : Int} (hb : 2 ≤ b) {K : Nat} (h0 : 0 ≤ x) (h1 : x < 2 ^ K) : (dg b x).length ≤ K :=
  dg_len_le hb K x h0 (Int.lt_of_lt_of_le h1 (pow_base_mono (by decide) hb K))
theorem ediv_tdiv {a b : Int} (h : 0 ≤ a) : Int.tdiv a b = a / b := Int.tdiv_eq_ediv_of_nonneg h
theorem emod_tmod {a b : Int} (h : 0 ≤ a) : Int.tmod a b = a % b := Int.tmod_eq_emod_of_nonneg h
theorem drop_rd (xs : List Int) (i : Nat) (h : i < xs.length) : xs.drop i = rd xs i :: xs.drop (i + 1) := by
  rw [List.drop_eq_getElem_cons h, rd_nat, List.getD, List.getElem?_eq_getElem h]; rfl
theorem rd_nonneg_lt {b : Int} {xs : List Int} (h : Dig b xs) {i : Nat} (hi : i < xs.length) : 0 ≤ rd xs i ∧ rd xs i < b := h.rd (by omega) (by omega)
theorem muladd_l1 : ∀ c : Int, 0 ≤ c → ∀ out : List Int, Dig D out → c ≤ 9223372036854775807 → out.length + (dg D c).length < 17592186044416 →
    Ev (fun k => triviumref02_MulAdd.l1 k c out) (dg D (val D out + D ^ out.length * c)) := by
  refine dg_ind hD ?_ ?_
  · intro out ho hc hl
    refine ev_succ ?_
    simp only [triviumref02_MulAdd.l1]
    refine ev_neg (by omega) (ev_bind (rtrim_ev out (by omega)) (ev_now ?_))
    rw [strip_dg hD ho, Int.mul_zero, Int.add_zero]
  · intro c hc ih out ho hc2 hl
    have e : (dg D c).length = (dg D (c / D)).length + 1 := by rw [dg_pos hD hc]; rfl
    simp only [D] at *
    refine ev_succ ?_
    simp only [triviumref02_MulAdd.l1]
    rw [ediv_tdiv (by omega), emod_tmod (by omega)]
    simp (disch := omega) only [w64]
    refine ev_pos hc (ev_pos (by omega) ?_)
    have := ih (out ++ [c % 10000]) (ho.append (Dig.nil.cons (by omega) (by omega))) (by omega) (by rw [List.length_append]; simp; omega)
    rw [val_append, List.length_append] at this
    have ev : val 10000 out + 10000 ^ out.length * val 10000 [c % 10000] + 10000 ^ (out.length + [c % 10000].length) * (c / 10000) = val 10000 out + 10000 ^ out.length * c := by
      have h2 : 10000 ^ (out.length + [c % 10000].length) * (c / 10000) = 10000 ^ out.length * (10000 * (c / 10000)) := by
        rw [Int.pow_add, List.length_singleton, Int.pow_one, Int.mul_assoc]
      rw [h2, Int.add_assoc, ← Int.mul_add]
      congr 2
      simp only [val]; omega
    rw [ev] at this
    exact this
theorem muladd_l0 (xs : List Int) (m : Int) (hx : Dig D xs) (hm0 : 0 ≤ m) (hm : m ≤ B) (hl : xs.length < 1099511627776) : ∀ d i : Nat, xs.length - i = d → i ≤ xs.length → ∀ (c : Int) (out : List Int), 0 ≤ c → c ≤ B → Dig D out → out.length = i →
    Ev (fun k => triviumref02_MulAdd.l0 k xs m c out i) (dg D (val D out + D ^ out.length * (c + m * val D (xs.drop i)))) := by
  intro d
  induction d with
  | zero =>
    intro i hd hi c out hc0 hc ho hlo
    refine ev_succ ?_
    simp only [triviumref02_MulAdd.l0]
    rw [List.drop_eq_nil_of_le (by omega), val, Int.mul_zero, Int.add_zero]
    have hcl : (dg D c).length ≤ 9 := dg_len_le hD 9 c hc0 (by simp only [D, B] at *; omega)
    exact ev_neg (by omega) (muladd_l1 c hc0 out ho (by simp only [B] at hc; omega) (by omega))
  | succ d ih =>
    intro i hd hi c out hc0 hc ho hlo
    have hr := rd_nonneg_lt hx (show i < xs.length by omega)
    have hp0 : 0 ≤ rd xs i * m := Int.mul_nonneg hr.1 hm0
    have hp1 : rd xs i * m ≤ 9999 * m := Int.mul_le_mul_of_nonneg_right (by simp only [D] at hr; omega) hm0
    refine ev_succ ?_
    simp only [triviumref02_MulAdd.l0]
    simp only [B, D] at *
    simp (disch := omega) only [w64, ediv_tdiv, emod_tmod]
    refine ev_pos (by omega) (ev_pos (by omega) (ev_pos (by omega) ?_))
    have hq0 : 0 ≤ c + rd xs i * m := by omega
    generalize hp : rd xs i * m = p at *
    have := ih (i + 1) (by omega) (by omega) ((c + p) / 10000) (out ++ [(c + p) % 10000]) (by omega) (by omega) (ho.append (Dig.nil.cons (by omega) (by omega))) (by rw [List.length_append, hlo]; rfl)
    rw [cast_succ]
    have ev : val 10000 (out ++ [(c + p) % 10000]) + 10000 ^ (out ++ [(c + p) % 10000]).length * ((c + p) / 10000 + m * val 10000 (xs.drop (i + 1))) = val 10000 out + 10000 ^ out.length * (c + m * val 10000 (xs.drop i)) := by
      rw [val_append, List.length_append, Int.pow_add, drop_rd xs i (by omega)]
      simp only [val, List.length_cons, List.length_nil, Int.mul_zero, Int.add_zero, Nat.zero_add, Int.pow_succ, Int.pow_zero, Int.one_mul]
      rw [Int.mul_assoc, Int.add_assoc, ← Int.mul_add]
      congr 2
      have : m * (rd xs ↑i + 10000 * val 10000 (xs.drop (i + 1))) = p + 10000 * (m * val 10000 (xs.drop (i + 1))) := by
        rw [Int.mul_add, Int.mul_comm m, hp, ← Int.mul_assoc, Int.mul_comm m 10000, Int.mul_assoc]
      rw [this]
      omega
    rw [ev] at this
    exact this
theorem muladd_ev {x m c : Int} (hx : 0 ≤ x) (hm0 : 0 ≤ m) (hm : m ≤ B) (hc0 : 0 ≤ c) (hc : c ≤ B) (hl : (dg D x).length < 1099511627776) :
    Ev (fun k => triviumref02_MulAdd.f k (dg D x) m c) (dg D (x * m + c)) := by
  have := muladd_l0 (dg D x) m (dg_dig hD x hx) hm0 hm hl _ 0 rfl (by omega) c [] hc0 hc Dig.nil rfl
  rw [List.drop_zero, val_dg hD x hx] at this
  have e : val D [] + D ^ ([] : List Int).length * (c + m * x) = x * m + c := by
    simp [val, Int.mul_comm m x]; omega
  rw [e] at this
  exact this
theorem set_zeros (i : Nat) (q : List Int) (v : Int) : (List.replicate (i + 1) 0 ++ q).set i v = List.replicate i 0 ++ v :: q := by
  induction i with
  | zero => rfl
  | succ i ih => rw [List.replicate_succ, List.cons_append, List.set_cons_succ, ih]; rfl
theorem divsmall_l0 (xs : List Int) (d : Int) (hx : Dig D xs) (hd0 : 0 < d) (hd : d ≤ B) (hl : xs.length < 1099511627776) : ∀ i : Nat, i ≤ xs.length → ∀ (q : List Int) (r : Int), Dig D q → 0 ≤ r → r < d →
    d * val D q + r = val D (xs.drop i) → q.length + i = xs.length →
    Ev (fun k => triviumref02_DivSmall.l0 k xs d (List.replicate i 0 ++ q) r ((i : Int) - 1)) (dg D (val D xs / d), val D xs % d) := by
  intro i
  induction i with
  | zero =>
    intro hi q r hq hr0 hr he hlq
    refine ev_succ ?_
    simp only [triviumref02_DivSmall.l0]
    refine ev_neg (by omega) (ev_bind (rtrim_ev _ (by simp; omega)) (ev_now ?_))
    rw [List.drop_zero] at he
    have e1 : val D xs / d = val D q := by
      rw [← he, Int.mul_add_ediv_left _ _ (by omega), Int.ediv_eq_zero_of_lt hr0 hr]; omega
    have e2 : val D xs % d = r := by
      rw [← he, Int.mul_add_emod_self_left, Int.emod_eq_of_lt hr0 hr]
    rw [e1, e2]
    simp only [List.replicate_zero, List.nil_append]
    rw [strip_dg hD hq]
  | succ i ih =>
    intro hi q r hq hr0 hr he hlq
    have ha := rd_nonneg_lt hx (show i < xs.length by omega)
    simp only [B, D] at *
    refine ev_succ ?_
    simp only [triviumref02_DivSmall.l0, cast_pred]
    have ht0 : 0 ≤ 10000 * r + rd xs i := by omega
    simp (disch := omega) only [w64]
    rw [ediv_tdiv ht0, emod_tmod ht0]
    have hqd : (10000 * r + rd xs i) / d < 10000 := Int.ediv_lt_of_lt_mul hd0 (by omega)
    have hqd0 : 0 ≤ (10000 * r + rd xs i) / d := Int.ediv_nonneg ht0 (by omega)
    have hm0 : 0 ≤ (10000 * r + rd xs i) % d := Int.emod_nonneg _ (by omega)
    have hm1 : (10000 * r + rd xs i) % d < d := Int.emod_lt_of_pos _ hd0
    have hdm := Int.mul_ediv_add_emod (10000 * r + rd xs i) d
    simp (disch := omega) only [w64]
    refine ev_pos (by omega) (ev_pos (by omega) (ev_pos (by omega) (ev_neg (by omega) (ev_pos (by simp; omega) ?_))))
    rw [Int.toNat_natCast, set_zeros]
    refine ih (by omega) _ _ (hq.cons hqd0 hqd) hm0 hm1 ?_ (by simp; omega)
    rw [drop_rd xs i (by omega)]
    simp only [val]
    rw [← he]
    generalize (10000 * r + rd xs i) / d = s at *
    generalize (10000 * r + rd xs i) % d = u at *
    rw [Int.mul_add, Int.mul_left_comm d 10000]
    omega
theorem divsmall_ev {x d : Int} (hx : 0 ≤ x) (hd0 : 0 < d) (hd : d ≤ B) (hl : (dg D x).length < 1099511627776) :
    Ev (fun k => triviumref02_DivSmall.f k (dg D x) d) (dg D (x / d), x % d) := by
  have := divsmall_l0 (dg D x) d (dg_dig hD x hx) hd0 hd hl _ (Nat.le_refl _) [] 0 Dig.nil (by omega) hd0 (by rw [List.drop_length]; simp [val]) (by simp)
  rw [val_dg hD x hx, List.append_nil] at this
  unfold triviumref02_DivSmall.f
  simp (disch := omega) only [w64, Int.toNat_natCast]
  exact ev_pos (by omega) (ev_pos (by omega) this)
theorem back_l0 : ∀ x : Int, 0 ≤ x → ∀ out : List Int, (dg D x).length < 1099511627776 → out.length + (dg B x).length < 17592186044416 → Ev (fun k => triviumref02_Back.l0 k (dg D x) out) (out ++ dg B x) := by
  refine dg_ind hB ?_ ?_
  · intro out hl ho
    refine ev_succ ?_
    simp only [triviumref02_Back.l0, dg_zero]
    exact ev_neg (by simp) (ev_now (by simp))
  · intro x hx ih out hl ho
    refine ev_succ ?_
    simp only [triviumref02_Back.l0]
    have hne : (dg D x).length ≠ 0 := by
      intro h
      have := (dg_nil_iff hD (Int.le_of_lt hx)).1 (List.length_eq_zero_iff.1 h)
      omega
    have e : (dg B x).length = (dg B (x / B)).length + 1 := by rw [dg_pos hB hx]; rfl
    refine ev_pos (by omega) (ev_bind (divsmall_ev (by omega) (by decide) (Int.le_refl _) hl) (ev_pos (by omega) ?_))
    have hm0 : 0 ≤ x % B := by simp only [B]; omega
    have hm1 : x % B < B := by simp only [B]; omega
    dsimp only
    rw [wu64 hm0 (by simp only [B] at hm1 ⊢; omega)]
    have hle : (dg D (x / B)).length ≤ (dg D x).length := by
      apply dg_len_le hD _ _ (by simp only [B]; omega)
      have h1 := val_lt (b := D) (by decide) (dg_dig hD x (by omega))
      rw [val_dg hD x (by omega)] at h1
      have : x / B ≤ x := by simp only [B]; omega
      omega
    have := ih (out ++ [x % B]) (by omega) (by simp; omega)
    rw [dg_pos hB hx]
    simpa using this
theorem back_ev {x : Int} (hx : 0 ≤ x) (hl : (dg D x).length < 1099511627776) : Ev (fun k => triviumref02_Back.f k (dg D x)) (dg B x) := by
  have hle : (dg B x).length ≤ (dg D x).length := by
    apply dg_len_le hB _ _ hx
    have h1 := val_lt (b := D) (by decide) (dg_dig hD x (by omega))
    rw [val_dg hD x (by omega)] at h1
    exact Int.lt_of_lt_of_le h1 (pow_base_mono (by decide) (by decide) _)
  have := back_l0 x hx [] hl (by simp; omega)
  rw [List.nil_append] at this
  exact this
theorem of_l0 (xs : List Int) (hx : Dig B xs) (hl : xs.length < 1000000000) : ∀ i : Nat, i ≤ xs.length → ∀ acc : Int, 0 ≤ acc → acc < B ^ (xs.length - i) →
    Ev (fun k => triviumref02_Of.l0 k xs (dg D acc) ((i : Int) - 1)) (dg D (acc * B ^ i + val B (xs.take i))) := by
  intro i
  induction i with
  | zero =>
    intro hi acc h0 h1
    refine ev_succ ?_
    simp only [triviumref02_Of.l0]
    refine ev_neg (by omega) (ev_now ?_)
    simp [val]
  | succ i ih =>
    intro hi acc h0 h1
    have ha := rd_nonneg_lt hx (show i < xs.length by omega)
    have hal : (dg D acc).length < 1099511627776 := by
      have : (dg D acc).length ≤ 32 * (xs.length - (i + 1)) := len_le hD h0 (by
        have e : (B : Int) = 2 ^ 32 := by decide
        rw [e, ← Int.pow_mul] at h1; exact h1)
      omega
    refine ev_succ ?_
    simp only [triviumref02_Of.l0, cast_pred]
    have e1 : wrap64 (Int.tmod (rd xs i) 4294967296) = rd xs i := by
      rw [emod_tmod ha.1, Int.emod_eq_of_lt ha.1 ha.2, w64 (by omega) (by have := ha.2; simp only [B] at this; omega)]
    rw [e1]
    simp (disch := omega) only [w64]
    refine ev_pos (by omega) (ev_pos (by omega) (ev_pos (by omega) (ev_bind (muladd_ev h0 (by decide) (Int.le_refl _) ha.1 (by omega) hal) ?_)))
    have h2 : acc * B + rd xs i < B ^ (xs.length - i) := by
      have e : xs.length - i = (xs.length - (i + 1)) + 1 := by omega
      rw [e, Int.pow_succ]
      have h3 : (acc + 1) * B ≤ B ^ (xs.length - (i + 1)) * B := Int.mul_le_mul_of_nonneg_right (by omega) (by decide)
      rw [Int.add_mul] at h3
      omega
    have := ih (by omega) (acc * B + rd xs i) (by have := Int.mul_nonneg h0 (show (0 : Int) ≤ B by decide); omega) h2
    have e3 : (acc * B + rd xs i) * B ^ i + val B (xs.take i) = acc * B ^ (i + 1) + val B (xs.take (i + 1)) := by
      rw [take_succ_rd xs i (by omega), val_append, List.length_take, Nat.min_eq_left (by omega), Int.pow_succ, Int.add_mul]
      simp only [val, Int.mul_zero, Int.add_zero]
      rw [Int.mul_comm (rd xs ↑i) (B ^ i), Int.mul_assoc acc, Int.mul_comm B]
      omega
    rw [e3] at this
    exact this
theorem of_dig (xs : List Int) (hx : Dig B xs) (hl : xs.length < 1000000000) : Ev (fun k => triviumref02_Of.f k xs) (dg D (val B xs)) := by
  have := of_l0 xs hx hl _ (Nat.le_refl _) 0 (Int.le_refl _) (by rw [Nat.sub_self]; decide)
  rw [dg_zero, List.take_length, Int.zero_mul, Int.zero_add] at this
  unfold triviumref02_Of.f
  simp (disch := omega) only [w64]
  exact this
theorem of_ev {x : Int} (hx : 0 ≤ x) (hl : (dg B x).length < 1000000000) : Ev (fun k => triviumref02_Of.f k (dg B x)) (dg D x) := by
  have := of_dig (dg B x) (dg_dig hB x hx) hl
  rwa [val_dg hB x hx] at this
end Go.Proofs.Ytpjephicbiiamaa.B

end
section
namespace Go.Proofs.Ytpjephicbiiamaa.B
set_option linter.unusedVariables false
set_option linter.unusedSimpArgs false
open Go Go.RowKit Go.Proofs.YtpjephicbiiamaaW.PrintWords Go.Proofs.YtpjephicbiiamaaW.PrintLast Go.Proofs.YtpjephicbiiamaaW.PrintMore Go.Proofs.Ytpjephicbiiamaa.F Go.Proofs.Ytpjephicbiiamaa.A
theorem rd_ge (xs : List Int) {i : Int} (h : (xs.length : Int) ≤ i) : rd xs i = 0 := by
  unfold rd
  rw [List.getD, List.getElem?_eq_none (by omega)]; rfl
theorem at_eq (xs : List Int) {i : Int} (h : 0 ≤ i) : nat_at.f xs i = some (rd xs i) := by
  unfold nat_at.f
  by_cases hi : i ≥ (xs.length : Int)
  · rw [if_pos hi, rd_ge xs hi]
  · rw [if_neg hi, if_pos h, if_pos (by omega)]
theorem val_drop (b : Int) (xs : List Int) (i : Nat) : val b (xs.drop i) = rd xs i + b * val b (xs.drop (i + 1)) := by
  by_cases h : i < xs.length
  · rw [drop_rd xs i h]; rfl
  · rw [List.drop_eq_nil_of_le (by omega), List.drop_eq_nil_of_le (by omega), rd_ge xs (by omega)]; simp [val]
theorem dig_rd0 {b : Int} (hb : 0 < b) {xs : List Int} (h : Dig b xs) (i : Nat) : 0 ≤ rd xs i ∧ rd xs i < b := by
  by_cases hi : i < xs.length
  · exact rd_nonneg_lt h hi
  · rw [rd_ge xs (by omega)]; omega
theorem set_pre (pre : List Int) (m : Nat) (v : Int) {i : Nat} (h : pre.length = i) : (pre ++ List.replicate (m + 1) 0).set i v = (pre ++ [v]) ++ List.replicate m 0 := by
  subst h
  rw [List.set_append_right _ _ (Nat.le_refl _), Nat.sub_self, List.replicate_succ, List.set_cons_zero]
  simp
theorem dg_len_mono {b x y : Int} (hb : 2 ≤ b) (hx : 0 ≤ x) (h : x ≤ y) : (dg b x).length ≤ (dg b y).length := by
  apply dg_len_le hb _ _ hx
  have h1 := val_lt (b := b) (by omega) (dg_dig hb y (by omega))
  rw [val_dg hb y (by omega)] at h1
  omega
theorem rsub_l0 (xs ys : List Int) (hx : Dig D xs) (hy : Dig D ys) (hle : ys.length ≤ xs.length) (hv : val D ys ≤ val D xs) (hl : xs.length < 1099511627776) : ∀ d i : Nat, xs.length - i = d → i ≤ xs.length → ∀ (pre : List Int) (c : Int), Dig D pre → pre.length = i → 0 ≤ c → c ≤ 1 →
    val D pre + D ^ i * (val D (xs.drop i) - val D (ys.drop i) - c) = val D xs - val D ys →
    Ev (fun k => triviumref02_Sub.l0 k xs ys pre c i) (dg D (val D xs - val D ys)) := by
  intro d
  induction d with
  | zero =>
    intro i hd hi pre c hp hpl hc0 hc he
    have hin : i = xs.length := by omega
    subst hin
    refine ev_succ ?_
    simp only [triviumref02_Sub.l0]
    refine ev_neg (by omega) (ev_bind (rtrim_ev _ (by omega)) (ev_now ?_))
    rw [List.drop_eq_nil_of_le (by omega), List.drop_eq_nil_of_le (by omega)] at he
    simp only [val, Int.sub_self, Int.zero_sub] at he
    have h1 := val_lt (b := D) (by decide) hp
    rw [hpl] at h1
    have hc : c = 0 := by
      rcases (show c = 0 ∨ c = 1 by omega) with h | h
      · exact h
      · rw [h, Int.mul_neg, Int.mul_one] at he; omega
    rw [hc, Int.neg_zero, Int.mul_zero, Int.add_zero] at he
    rw [strip_dg hD hp, he]
  | succ d ih =>
    intro i hd hi pre c hp hpl hc0 hc he
    have h1 := dig_rd0 (by decide) hx i
    have h2 := dig_rd0 (by decide) hy i
    have step : ∀ v c' : Int, 0 ≤ v → v < D → v - D * c' = rd xs i - rd ys i - c → 0 ≤ c' → c' ≤ 1 → Ev (fun k => triviumref02_Sub.l0 k xs ys (pre ++ [v]) c' ((i : Int) + 1)) (dg D (val D xs - val D ys)) := by
      intro v c' hv0 hv1 hvc hc0' hc'
      rw [cast_succ]
      refine ih (i + 1) (by omega) (by omega) (pre ++ [v]) c' (hp.append (Dig.nil.cons hv0 hv1)) (by simp [hpl]) hc0' hc' ?_
      rw [← he, val_append, hpl, val_drop D xs i, val_drop D ys i, Int.pow_succ, Int.mul_assoc, Int.add_assoc, ← Int.mul_add]
      congr 2
      simp only [val, D, Int.mul_zero, Int.add_zero] at *
      omega
    refine ev_succ ?_
    simp only [triviumref02_Sub.l0]
    simp only [D] at h1 h2 step
    simp (disch := omega) only [w64]
    refine ev_pos (by omega) (ev_pos (by omega) (ev_ite (fun ha => ev_ite (fun hb => ev_pos (by omega) (step _ _ ?_ ?_ ?_ ?_ ?_)) (fun hb => ev_pos (by omega) (step _ _ ?_ ?_ ?_ ?_ ?_))) (fun ha => ?_)))
    all_goals first
      | omega
      | (have hz := rd_ge ys (i := (i : Int)) (by omega)
         refine ev_ite (fun hb => ev_pos (by omega) (step _ _ ?_ ?_ ?_ ?_ ?_)) (fun hb => ev_pos (by omega) (step _ _ ?_ ?_ ?_ ?_ ?_)) <;> omega)
theorem rsub_ev {x y : Int} (hy : 0 ≤ y) (hxy : y ≤ x) (hl1 : (dg D x).length < 1099511627776) : Ev (fun k => triviumref02_Sub.f k (dg D x) (dg D y)) (dg D (x - y)) := by
  have hx : 0 ≤ x := by omega
  have := rsub_l0 (dg D x) (dg D y) (dg_dig hD x hx) (dg_dig hD y hy) (dg_len_mono hD hy hxy) (by rw [val_dg hD x hx, val_dg hD y hy]; exact hxy) hl1 _ 0 rfl (by omega) [] 0 Dig.nil rfl (Int.le_refl _) (by decide) (by simp [val])
  rw [val_dg hD x hx, val_dg hD y hy] at this
  exact this
def bnd (K : Nat) : Int := 2 ^ K
theorem bnd_len {b x : Int} {K : Nat} (hb : 2 ≤ b) (h0 : 0 ≤ x) (h1 : x < bnd K) : (dg b x).length ≤ K := len_le hb h0 h1
theorem bnd_add (K L : Nat) : bnd (K + L) = bnd K * bnd L := by unfold bnd; rw [Int.pow_add]
theorem cl_bnd (xs : List Int) (m : Nat) : cl xs m < bnd (32 * m) := by
  have := cl_lt xs m
  have e : B = (2 : Int) ^ 32 := by decide
  rw [e, ← Int.pow_mul] at this
  exact this
end Go.Proofs.Ytpjephicbiiamaa.B

end
section
namespace Go.Proofs.Ytpjephicbiiamaa.B
set_option linter.unusedVariables false
set_option linter.unusedSimpArgs false
open Go Go.RowKit Go.Proofs.YtpjephicbiiamaaW.PrintWords Go.Proofs.YtpjephicbiiamaaW.PrintLast Go.Proofs.YtpjephicbiiamaaW.PrintMore Go.Proofs.Ytpjephicbiiamaa.F Go.Proofs.Ytpjephicbiiamaa.A
theorem len2_eq {x : Int} {n : Nat} (h0 : 2 ^ n ≤ x) (h1 : x < 2 ^ (n + 1)) : (dg 2 x).length = n + 1 := by
  have hp : (0 : Int) < 2 ^ n := Int.pow_pos (by decide)
  have a := dg_len_le (b := 2) (by decide) (n + 1) x (by omega) h1
  have c := dg_len_ge (b := 2) (by decide) n x (by omega) h0
  omega
theorem emod_pow_succ (x : Int) (k : Nat) : x % 2 ^ (k + 1) = x % 2 ^ k + 2 ^ k * (x / 2 ^ k % 2) := by
  have hp : (0 : Int) < 2 ^ k := Int.pow_pos (by decide)
  have h1 := Int.mul_ediv_add_emod x (2 ^ k)
  have h2 := Int.mul_ediv_add_emod (x / 2 ^ k) 2
  have h3 : (0 : Int) ≤ x % 2 ^ k := Int.emod_nonneg _ (by omega)
  have h4 : x % 2 ^ k < 2 ^ k := Int.emod_lt_of_pos _ hp
  have h5 : (x / 2 ^ k % 2) = 0 ∨ (x / 2 ^ k % 2) = 1 := by omega
  have e : x = 2 ^ (k + 1) * (x / 2 ^ k / 2) + (x % 2 ^ k + 2 ^ k * (x / 2 ^ k % 2)) := by
    have : (2 : Int) ^ (k + 1) * (x / 2 ^ k / 2) = 2 ^ k * (2 * (x / 2 ^ k / 2)) := by rw [Int.pow_succ, Int.mul_assoc]
    rw [this]
    have : 2 ^ k * (2 * (x / 2 ^ k / 2)) + 2 ^ k * (x / 2 ^ k % 2) = 2 ^ k * (x / 2 ^ k) := by rw [← Int.mul_add, h2]
    omega
  conv => lhs; rw [e]
  rw [Int.mul_add_emod_self_left, Int.emod_eq_of_lt]
  · rcases h5 with h | h <;> rw [h] <;> omega
  · rw [Int.pow_succ]
    rcases h5 with h | h <;> rw [h] <;> omega
theorem shr_eq {x : Int} (i : Nat) (hi : i ≤ 64) : shr .u64 x (i : Int) = x / 2 ^ i := by
  unfold shr
  rw [Int.toNat_natCast, show min i IntKind.u64.bits = i by simp [IntKind.bits]; omega]
theorem shl_eq {x : Int} (i : Nat) (hi : i ≤ 64) (h0 : 0 ≤ x * 2 ^ i) (h1 : x * 2 ^ i ≤ 18446744073709551615) : shl .u64 x (i : Int) = x * 2 ^ i := by
  unfold shl
  rw [Int.toNat_natCast, show min i IntKind.u64.bits = i by simp [IntKind.bits]; omega, wu64 h0 h1]
theorem ediv_le_self' {x : Int} (h : 0 ≤ x) (k : Nat) : 0 ≤ x / 2 ^ k ∧ x / 2 ^ k ≤ x := by
  have hp : (0 : Int) < 2 ^ k := Int.pow_pos (by decide)
  exact ⟨Int.ediv_nonneg h (by omega), Int.ediv_le_self _ h⟩
theorem limb_bits_l0 {x : Int} (h0 : 0 ≤ x) (h1 : x < B) : ∀ d i : Nat, 32 - i = d → i ≤ 32 → Ev (fun k => limb_Bits.l0 k x ((dg 2 (x % 2 ^ i)).length : Int) i) ((dg 2 x).length : Int) := by
  intro d
  induction d with
  | zero =>
    intro i hd hi
    have : i = 32 := by omega
    subst this
    refine ev_succ ?_
    simp only [limb_Bits.l0]
    refine ev_neg (by omega) (ev_now ?_)
    rw [Int.emod_eq_of_lt h0 (by simp only [B] at h1; omega)]
  | succ d ih =>
    intro i hd hi
    have hs := ediv_le_self' h0 i
    simp only [B] at h1
    refine ev_succ ?_
    simp only [limb_Bits.l0]
    rw [shr_eq i (by omega), bit1 hs.1 (by omega)]
    simp (disch := omega) only [w64]
    refine ev_pos (by omega) (ev_pos (by omega) ?_)
    have hp : (0 : Int) < 2 ^ i := Int.pow_pos (by decide)
    have a3 : (0 : Int) ≤ x % 2 ^ i := Int.emod_nonneg _ (by omega)
    have a4 : x % 2 ^ i < 2 ^ i := Int.emod_lt_of_pos _ hp
    have := ih (i + 1) (by omega) (by omega)
    rw [emod_pow_succ] at this
    refine ev_ite (fun hb => ?_) (fun hb => ?_)
    · rw [hb, Int.mul_one, len2_eq (n := i) (by omega) (by rw [Int.pow_succ]; omega)] at this
      exact this
    · rw [show x / 2 ^ i % 2 = 0 by omega, Int.mul_zero, Int.add_zero] at this
      exact this
theorem limb_bits {x : Int} (h0 : 0 ≤ x) (h1 : x < B) : Ev (fun k => limb_Bits.f k x) ((dg 2 x).length : Int) := by
  have := limb_bits_l0 h0 h1 _ 0 rfl (by omega)
  rw [show x % 2 ^ 0 = 0 by simp [Int.emod_one], dg_zero] at this
  exact this
theorem rd_last_ne {b n : Int} (hb : 2 ≤ b) : ∀ n : Int, 0 ≤ n → 0 < n → rd (dg b n) (((dg b n).length : Int) - 1) ≠ 0 := by
  refine dg_ind hb ?_ ?_
  · intro h; omega
  · intro n hn ih _
    rw [dg_pos hb hn]
    by_cases hz : n / b = 0
    · rw [hz, dg_zero]
      simp only [List.length_cons, List.length_nil]
      have : n % b = n := by have := Int.mul_ediv_add_emod n b; rw [hz] at this; omega
      rw [this]
      simp [rd]; omega
    · have hq : 0 < n / b := by have : 0 ≤ n / b := Int.ediv_nonneg (by omega) (by omega); omega
      have := ih hq
      have hne : (dg b (n / b)).length ≠ 0 := by
        intro h
        have := (dg_nil_iff hb (Int.le_of_lt hq)).1 (List.length_eq_zero_iff.1 h)
        omega
      obtain ⟨m, hm⟩ : ∃ m, (dg b (n / b)).length = m + 1 := ⟨_, (Nat.succ_pred_eq_of_ne_zero hne).symm⟩
      rw [hm] at this
      rw [List.length_cons, hm]
      simp only [rd] at *
      rw [show (((m + 1 + 1 : Nat) : Int) - 1).toNat = m + 1 by omega]
      rw [show (((m + 1 : Nat) : Int) - 1).toNat = m by omega] at this
      simpa using this
theorem bits_ev {x : Int} (hx : 0 ≤ x) (hl : (dg B x).length < 1099511627776) : Ev (fun k => nat_Bits.f k (dg B x)) ((dg 2 x).length : Int) := by
  unfold nat_Bits.f
  simp (disch := omega) only [w64]
  by_cases hz : x = 0
  · subst hz
    refine ev_pos (by rw [dg_zero]; simp) (ev_now (by rw [dg_zero]; rfl))
  · have hpos : 0 < x := by omega
    have hne : (dg B x).length ≠ 0 := by
      intro h
      exact hz ((dg_nil_iff hB hx).1 (List.length_eq_zero_iff.1 h))
    obtain ⟨m, hm⟩ : ∃ m, (dg B x).length = m + 1 := ⟨_, (Nat.succ_pred_eq_of_ne_zero hne).symm⟩
    have htop := rd_last_ne (n := x) hB x hx hpos
    have hdig := dg_dig hB x hx
    rw [hm] at htop ⊢
    rw [cast_pred] at htop ⊢
    have ht := rd_nonneg_lt hdig (show m < (dg B x).length by omega)
    refine ev_neg (by omega) (ev_pos (by omega) (ev_pos (by omega) (ev_bind (limb_bits ht.1 ht.2) (ev_now ?_))))
    have hsp := split_at (dg B x) m (by omega)
    have hdrop : (dg B x).drop (m + 1) = [] := List.drop_eq_nil_of_le (by omega)
    rw [hdrop] at hsp
    have hv := val_dg hB x hx
    rw [hsp, val_append, List.length_take, Nat.min_eq_left (by omega)] at hv
    simp only [val, Int.mul_zero, Int.add_zero] at hv
    generalize ht' : rd (dg B x) (m : Int) = t at *
    have hlow0 := val_nonneg (b := B) (by decide) (hdig.take m)
    have hlow1 := val_lt (b := B) (by decide) (hdig.take m)
    rw [List.length_take, Nat.min_eq_left (by omega)] at hlow1
    obtain ⟨n, hn⟩ : ∃ n, (dg 2 t).length = n + 1 := by
      refine ⟨(dg 2 t).length - 1, ?_⟩
      have : (dg 2 t).length ≠ 0 := by
        intro h
        exact htop ((dg_nil_iff (by decide) ht.1).1 (List.length_eq_zero_iff.1 h))
      omega
    have t1 := val_lt (b := 2) (by decide) (dg_dig (b := 2) (by decide) t ht.1)
    rw [val_dg (by decide) t ht.1, hn] at t1
    have t0 : (2 : Int) ^ n ≤ t := by
      apply Int.le_of_not_gt
      intro hgt
      have := dg_len_le (b := 2) (by decide) n t ht.1 hgt
      omega
    have hn32 : n + 1 ≤ 32 := by
      have := dg_len_le (b := 2) (by decide) 32 t ht.1 (by have := ht.2; simp only [B] at this; omega)
      omega
    have hpB : (B : Int) ^ m = 2 ^ (32 * m) := by
      have e : (B : Int) = 2 ^ 32 := by decide
      rw [e, ← Int.pow_mul]
    have hP : (0 : Int) < B ^ m := Int.pow_pos (by decide)
    have lo : (2 : Int) ^ (32 * m + n) ≤ x := by
      rw [Int.pow_add, ← hpB, ← hv]
      have := Int.mul_le_mul_of_nonneg_left t0 (Int.le_of_lt hP)
      omega
    have hi : x < (2 : Int) ^ (32 * m + n + 1) := by
      rw [Nat.add_assoc, Int.pow_add, ← hpB, ← hv]
      have := Int.mul_le_mul_of_nonneg_left (show t + 1 ≤ 2 ^ (n + 1) by omega) (Int.le_of_lt hP)
      rw [Int.mul_add] at this
      omega
    rw [len2_eq lo hi]
    simp (disch := omega) only [w64]
    omega
def Tz (x : Int) (z : Nat) : Prop := ∃ o : Int, 0 ≤ o ∧ x = 2 ^ z * (2 * o + 1)
theorem Tz.uniq {x : Int} : ∀ {z z' : Nat}, Tz x z → Tz x z' → z = z'
  | 0, 0, _, _ => rfl
  | 0, z' + 1, ⟨o, _, h⟩, ⟨o', _, h'⟩ => by
    rw [Int.pow_succ, Int.mul_comm (2 ^ z') 2, Int.mul_assoc] at h'
    simp only [Int.pow_zero, Int.one_mul] at h
    omega
  | z + 1, 0, ⟨o, _, h⟩, ⟨o', _, h'⟩ => by
    rw [Int.pow_succ, Int.mul_comm (2 ^ z) 2, Int.mul_assoc] at h
    simp only [Int.pow_zero, Int.one_mul] at h'
    omega
  | z + 1, z' + 1, ⟨o, a, h⟩, ⟨o', a', h'⟩ => by
    rw [Int.pow_succ, Int.mul_comm (2 ^ z) 2, Int.mul_assoc] at h
    rw [Int.pow_succ, Int.mul_comm (2 ^ z') 2, Int.mul_assoc] at h'
    have := Tz.uniq (x := x / 2) (z := z) (z' := z') ⟨o, a, by omega⟩ ⟨o', a', by omega⟩
    omega
theorem Tz.ex {x : Int} (hx : 0 < x) : ∃ z, Tz x z := by
  refine dg_ind (b := 2) (by decide) (P := fun x => 0 < x → ∃ z, Tz x z) (by intro h; omega) ?_ x (by omega) hx
  intro n hn ih _
  by_cases h : n % 2 = 1
  · exact ⟨0, n / 2, by omega, by simp; omega⟩
  · obtain ⟨z, o, ho, e⟩ := ih (by omega)
    refine ⟨z + 1, o, ho, ?_⟩
    rw [Int.pow_succ, Int.mul_comm (2 ^ z) 2, Int.mul_assoc, ← e]
    omega
theorem Tz.even {x : Int} {z : Nat} (h : Tz x z) : x % 2 = 0 ↔ z ≠ 0 := by
  obtain ⟨o, ho, e⟩ := h
  cases z with
  | zero => simp at e; omega
  | succ z =>
    rw [Int.pow_succ, Int.mul_comm (2 ^ z) 2, Int.mul_assoc] at e
    constructor
    · intro _; omega
    · intro _; omega
theorem Tz.half {x : Int} {z : Nat} (h : Tz x (z + 1)) : Tz (x / 2) z := by
  obtain ⟨o, ho, e⟩ := h
  rw [Int.pow_succ, Int.mul_comm (2 ^ z) 2, Int.mul_assoc] at e
  exact ⟨o, ho, by omega⟩
theorem Tz.pos {x : Int} {z : Nat} (h : Tz x z) : 0 < x := by
  obtain ⟨o, ho, e⟩ := h
  rw [e]
  exact Int.mul_pos (Int.pow_pos (by decide)) (by omega)
theorem Tz.shift {x : Int} {z : Nat} (h : Tz x z) (n : Nat) : Tz (x * 2 ^ n) (z + n) := by
  obtain ⟨o, ho, e⟩ := h
  refine ⟨o, ho, ?_⟩
  rw [e, Int.pow_add, Int.mul_right_comm]
theorem half_len {x : Int} (hx : 0 ≤ x) {b : Int} (hb : 2 ≤ b) : (dg b (x / 2)).length ≤ (dg b x).length := dg_len_mono hb (by omega) (by omega)
theorem rzeros_l0 : ∀ (z : Nat) (x : Int) (c : Int), Tz x z → 0 ≤ c → c + z < 9223372036854775807 → (dg D x).length < 1099511627776 → Ev (fun k => triviumref02_Zeros.l0 k (dg D x) c) (c + z) := by
  intro z
  induction z with
  | zero =>
    intro x c h hc0 hc hl
    have hp := h.pos
    have he := h.even
    refine ev_succ ?_
    simp only [triviumref02_Zeros.l0]
    have hne : (dg D x).length ≠ 0 := fun e => by have := (dg_nil_iff hD (Int.le_of_lt hp)).1 (List.length_eq_zero_iff.1 e); omega
    refine ev_pos (by omega) (ev_bind (divsmall_ev (by omega) (by decide) (by decide) hl) (ev_pos (by dsimp only; omega) (ev_now (by simp))))
  | succ z ih =>
    intro x c h hc0 hc hl
    have hp := h.pos
    have he := h.even
    refine ev_succ ?_
    simp only [triviumref02_Zeros.l0]
    have hne : (dg D x).length ≠ 0 := fun e => by have := (dg_nil_iff hD (Int.le_of_lt hp)).1 (List.length_eq_zero_iff.1 e); omega
    refine ev_pos (by omega) (ev_bind (divsmall_ev (by omega) (by decide) (by decide) hl) (ev_neg (by dsimp only; omega) ?_))
    dsimp only
    simp (disch := omega) only [w64]
    have := ih (x / 2) (c + 1) h.half (by omega) (by omega) (by have := half_len (Int.le_of_lt hp) hD; omega)
    rw [show c + 1 + (z : Int) = c + ((z + 1 : Nat) : Int) by omega] at this
    exact this
theorem tz_lt {x : Int} {z n : Nat} (h : Tz x z) (hn : x < 2 ^ n) : z < n := by
  apply Nat.lt_of_not_le
  intro hle
  obtain ⟨o, ho, e⟩ := h
  have h1 : (2 : Int) ^ n ≤ 2 ^ z := pow_mono (by decide) hle
  have hp : (0 : Int) < 2 ^ z := Int.pow_pos (by decide)
  have := Int.mul_le_mul_of_nonneg_left (show 1 ≤ 2 * o + 1 by omega) (Int.le_of_lt hp)
  omega
theorem rzeros_ev {x : Int} {z : Nat} (h : Tz x z) (hl : (dg D x).length < 1000000000) : Ev (fun k => triviumref02_Zeros.f k (dg D x)) (z : Int) := by
  have hp := h.pos
  have hz : z < 40 * (dg D x).length := by
    refine tz_lt h ?_
    have h1 := val_lt (b := D) (by decide) (dg_dig hD x (Int.le_of_lt hp))
    rw [val_dg hD x (Int.le_of_lt hp)] at h1
    refine Int.lt_of_lt_of_le h1 ?_
    rw [Int.pow_mul]
    exact pow_base_mono (by decide) (by decide) _
  have := rzeros_l0 z x 0 h (by omega) (by omega) (by omega)
  rw [Int.zero_add] at this
  exact this
theorem rzeros_zero : Ev (fun k => triviumref02_Zeros.f k (dg D 0)) 0 := by
  rw [dg_zero]
  refine ev_succ ?_
  simp only [triviumref02_Zeros.f]
  refine ev_succ ?_
  simp only [triviumref02_Zeros.l0]
  exact ev_neg (by simp) (ev_now rfl)
theorem rbits_l0 : ∀ x : Int, 0 ≤ x → ∀ c : Int, 0 ≤ c → c + (dg 2 x).length < 9223372036854775807 → (dg D x).length < 1099511627776 → Ev (fun k => triviumref02_Bits.l0 k (dg D x) c) (c + (dg 2 x).length) := by
  refine dg_ind (b := 2) (by decide) ?_ ?_
  · intro c hc0 hc hl
    refine ev_succ ?_
    simp only [triviumref02_Bits.l0, dg_zero]
    exact ev_neg (by simp) (ev_now (by simp))
  · intro x hx ih c hc0 hc hl
    refine ev_succ ?_
    simp only [triviumref02_Bits.l0]
    have hne : (dg D x).length ≠ 0 := fun e => by have := (dg_nil_iff hD (Int.le_of_lt hx)).1 (List.length_eq_zero_iff.1 e); omega
    have e : (dg 2 x).length = (dg 2 (x / 2)).length + 1 := by rw [dg_pos (by decide) hx]; rfl
    refine ev_pos (by omega) (ev_bind (divsmall_ev (by omega) (by decide) (by decide) hl) ?_)
    dsimp only
    simp (disch := omega) only [w64]
    have := ih (c + 1) (by omega) (by omega) (by have := half_len (Int.le_of_lt hx) hD; omega)
    rw [show c + 1 + ((dg 2 (x / 2)).length : Int) = c + ((dg 2 x).length : Int) by omega] at this
    exact this
theorem rbits_ev {x : Int} (hx : 0 ≤ x) (hl : (dg D x).length < 1000000000) : Ev (fun k => triviumref02_Bits.f k (dg D x)) ((dg 2 x).length : Int) := by
  have hz : (dg 2 x).length ≤ 40 * (dg D x).length := by
    refine dg_len_le (by decide) _ _ hx ?_
    have h1 := val_lt (b := D) (by decide) (dg_dig hD x hx)
    rw [val_dg hD x hx] at h1
    refine Int.lt_of_lt_of_le h1 ?_
    rw [Int.pow_mul]
    exact pow_base_mono (by decide) (by decide) _
  have := rbits_l0 x hx 0 (by omega) (by omega) (by omega)
  rw [Int.zero_add] at this
  exact this
theorem tz_bit {x : Int} {z : Nat} (h : Tz x z) : x / 2 ^ z % 2 = 1 ∧ ∀ i, i < z → x / 2 ^ i % 2 = 0 := by
  obtain ⟨o, ho, e⟩ := h
  constructor
  · rw [e, Int.mul_ediv_cancel_left _ (by have : (0 : Int) < 2 ^ z := Int.pow_pos (by decide); omega)]; omega
  · intro i hi
    obtain ⟨d, rfl⟩ := Nat.exists_eq_add_of_lt hi
    rw [e, show i + d + 1 = i + (d + 1) by omega, Int.pow_add, Int.mul_assoc, Int.mul_ediv_cancel_left _ (by have : (0 : Int) < 2 ^ i := Int.pow_pos (by decide); omega), Int.pow_succ, Int.mul_comm (2 ^ d) 2, Int.mul_assoc]
    omega
theorem limb_zeros_l0 {x : Int} (h0 : 0 ≤ x) (h1 : x < B) {z : Nat} (hz : Tz x z) (hz32 : z < 32) : ∀ d i : Nat, z - i = d → i ≤ z → Ev (fun k => limb_Zeros.l0 k x i) (z : Int) := by
  intro d
  induction d with
  | zero =>
    intro i hd hi
    have hiz : i = z := by omega
    subst hiz
    have hs := ediv_le_self' h0 i
    simp only [B] at h1
    refine ev_succ ?_
    simp only [limb_Zeros.l0]
    rw [shr_eq i (by omega), bit1 hs.1 (by omega)]
    exact ev_pos (by omega) (ev_pos (by omega) (ev_pos (tz_bit hz).1 (ev_now rfl)))
  | succ d ih =>
    intro i hd hi
    have hs := ediv_le_self' h0 i
    simp only [B] at h1
    refine ev_succ ?_
    simp only [limb_Zeros.l0]
    rw [shr_eq i (by omega), bit1 hs.1 (by omega)]
    simp (disch := omega) only [w64]
    exact ev_pos (by omega) (ev_pos (by omega) (ev_neg (by rw [(tz_bit hz).2 i (by omega)]; decide) (ih (i + 1) (by omega) (by omega))))
theorem limb_zeros {x : Int} (h0 : 0 ≤ x) (h1 : x < B) {z : Nat} (hz : Tz x z) : Ev (fun k => limb_Zeros.f k x) (z : Int) :=
  limb_zeros_l0 h0 h1 hz (tz_lt hz (by simp only [B] at h1; omega)) _ 0 rfl (by omega)
theorem zeros_l0 (xs : List Int) (hx : Dig B xs) (hl : xs.length < 1099511627776) : ∀ d i : Nat, xs.length - i = d → i ≤ xs.length → ∀ z : Nat, Tz (val B (xs.drop i)) z →
    Ev (fun k => nat_Zeros.l0 k xs xs.length i) (32 * i + z : Int) := by
  intro d
  induction d with
  | zero =>
    intro i hd hi z hz
    rw [List.drop_eq_nil_of_le (by omega)] at hz
    have := hz.pos
    simp [val] at this
  | succ d ih =>
    intro i hd hi z hz
    have ha := rd_nonneg_lt hx (show i < xs.length by omega)
    have hv0 := val_nonneg (b := B) (by decide) (fun y hy => hx y (List.mem_of_mem_drop hy) : Dig B (xs.drop (i + 1)))
    rw [val_drop] at hz
    refine ev_succ ?_
    simp only [nat_Zeros.l0]
    refine ev_pos (by omega) (ev_pos (by omega) (ev_pos (by omega) (ev_ite (fun h => ?_) (fun h => ?_))))
    · rw [h, Int.zero_add] at hz
      have hvp : 0 < val B (xs.drop (i + 1)) := by
        have := hz.pos
        by_cases hv : val B (xs.drop (i + 1)) = 0
        · rw [hv] at this; simp at this
        · omega
      obtain ⟨z', hz'⟩ := Tz.ex hvp
      have hs := hz'.shift 32
      rw [show (2 : Int) ^ 32 = B by decide, Int.mul_comm] at hs
      have e := hz.uniq hs
      simp (disch := omega) only [w64]
      have := ih (i + 1) (by omega) (by omega) z' hz'
      rw [show (32 : Int) * ((i + 1 : Nat) : Int) + z' = 32 * i + z by omega] at this
      exact this
    · obtain ⟨t, ht⟩ := Tz.ex (show 0 < rd xs i by omega)
      have ht32 := tz_lt ht (n := 32) (by have := ha.2; simp only [B] at this; omega)
      have hzt : Tz (rd xs i + B * val B (xs.drop (i + 1))) t := by
        obtain ⟨o, ho, e⟩ := ht
        refine ⟨o + 2 ^ (31 - t) * val B (xs.drop (i + 1)), ?_, ?_⟩
        · have := Int.mul_nonneg (show (0 : Int) ≤ 2 ^ (31 - t) from Int.pow_nonneg (by decide)) hv0
          omega
        · have hBt : (B : Int) = 2 ^ t * (2 * 2 ^ (31 - t)) := by
            rw [← Int.pow_succ', ← Int.pow_add, show t + (31 - t + 1) = 32 by omega]; rfl
          generalize val B (xs.drop (i + 1)) = w at *
          rw [hBt, e]
          generalize (2 : Int) ^ t = p
          generalize (2 : Int) ^ (31 - t) = q
          grind
      have e := hz.uniq hzt
      refine ev_bind (limb_zeros ha.1 ha.2 ht) (ev_now ?_)
      simp (disch := omega) only [w64]
      omega
theorem zeros_ev {x : Int} {z : Nat} (h : Tz x z) (hl : (dg B x).length < 1099511627776) : Ev (fun k => nat_Zeros.f k (dg B x)) (z : Int) := by
  have hp := Int.le_of_lt h.pos
  have := zeros_l0 (dg B x) (dg_dig hB x hp) hl _ 0 rfl (by omega) z (by rw [List.drop_zero, val_dg hB x hp]; exact h)
  rw [show (32 : Int) * ((0 : Nat) : Int) + z = z by omega] at this
  exact this
theorem zeros_zero : Ev (fun k => nat_Zeros.f k (dg B 0)) 0 := by
  rw [dg_zero]
  unfold nat_Zeros.f
  refine ev_succ ?_
  simp only [nat_Zeros.l0]
  exact ev_neg (by simp) (ev_now rfl)
end Go.Proofs.Ytpjephicbiiamaa.B

end
section
namespace Go.Proofs.Ytpjephicbiiamaa.B
set_option linter.unusedVariables false
set_option linter.unusedSimpArgs false
open Go Go.RowKit Go.Proofs.YtpjephicbiiamaaW.PrintWords Go.Proofs.YtpjephicbiiamaaW.PrintLast Go.Proofs.YtpjephicbiiamaaW.PrintMore Go.Proofs.Ytpjephicbiiamaa.F Go.Proofs.Ytpjephicbiiamaa.A
theorem or_join {x y : Int} (r : Nat) (hr : r ≤ 32) (hx0 : 0 ≤ x) (hx : x % 2 ^ r = 0) (hx1 : x < B) (hy0 : 0 ≤ y) (hy : y < 2 ^ r) : Go.bits .or .u64 y x = x + y := by
  have hp : (2 : Int) ^ r ≤ 2 ^ 32 := pow_mono (by decide) hr
  simp only [B] at hx1
  have := bits_join .u64 64 (by decide) (fun n a b => wu64 a (by omega)) r x y hx0 hx (by omega) hy0 hy (by omega)
  rw [← this]
  unfold Go.bits
  simp [BitVec.or_comm]
theorem set_mid (q : Nat) (pre : List Int) (c v u : Int) (m : Nat) {i : Nat} (h : pre.length = i) :
    ((List.replicate q 0 ++ pre ++ c :: List.replicate (m + 1) 0).set (i + q) v).set (i + q + 1) u = List.replicate q 0 ++ (pre ++ [v]) ++ u :: List.replicate m 0 := by
  subst h
  have e1 : (List.replicate q (0 : Int) ++ pre).length = pre.length + q := by simp; omega
  rw [List.set_append_right _ _ (by omega), e1, Nat.sub_self, List.set_cons_zero, List.set_append_right _ _ (by omega), e1,
    show pre.length + q + 1 - (pre.length + q) = 0 + 1 by omega, List.set_cons_succ, List.replicate_succ, List.set_cons_zero]
  simp
theorem rd_mid (q : Nat) (pre : List Int) (c : Int) (ys : List Int) {i : Nat} (h : pre.length = i) : rd (List.replicate q 0 ++ pre ++ c :: ys) ((i + q : Nat) : Int) = c := by
  have := rd_append_len (List.replicate q 0 ++ pre) c ys
  rwa [show (List.replicate q (0 : Int) ++ pre).length = i + q by simp; omega] at this
theorem shl_l0 (xs : List Int) (hx : Dig B xs) (hl : xs.length < 1099511627776) (n : Int) (hn0 : 0 ≤ n) (q r : Nat) (hq : n / 32 = q) (hr : n % 32 = r) (hn : n ≤ 100000) : ∀ d i : Nat, xs.length - i = d → i ≤ xs.length → ∀ (pre : List Int) (c : Int), Dig B pre → pre.length = i → 0 ≤ c → c < 2 ^ r →
    Ev (fun k => nat_Shl.l0 k n (List.replicate q 0 ++ pre ++ c :: List.replicate (xs.length - i) 0) xs xs.length i) (dg B (B ^ q * (val B pre + B ^ i * (c + 2 ^ r * val B (xs.drop i)))), 0) := by
  have hr32 : r < 32 := by omega
  have hP : (0 : Int) < 2 ^ r := Int.pow_pos (by decide)
  have hPB : (2 : Int) ^ r * 2 ^ (32 - r) = B := by rw [← Int.pow_add, show r + (32 - r) = 32 by omega]; rfl
  have hQ : (0 : Int) < 2 ^ (32 - r) := Int.pow_pos (by decide)
  have hP31 : (2 : Int) ^ r ≤ 2 ^ 31 := pow_mono (by decide) (by omega)
  intro d
  induction d with
  | zero =>
    intro i hd hi pre c hp hpl hc0 hc
    refine ev_succ ?_
    simp only [nat_Shl.l0]
    refine ev_neg (by omega) (ev_bind (trim_ev _ (by simp; omega)) (ev_now ?_))
    rw [show xs.length - i = 0 by omega, List.replicate_zero, List.drop_eq_nil_of_le (by omega)]
    have hdg : Dig B (List.replicate q 0 ++ pre ++ [c]) := ((Dig.zeros (by decide) q).append hp).append (Dig.nil.cons hc0 (by simp only [B]; omega))
    rw [strip_dg hB hdg, val_append, val_append, val_zeros, List.length_append, List.length_replicate, hpl]
    simp only [val, Int.mul_zero, Int.add_zero, Int.zero_add]
    rw [Int.pow_add, Int.mul_assoc, ← Int.mul_add]
  | succ d ih =>
    intro i hd hi pre c hp hpl hc0 hc
    have ha := rd_nonneg_lt hx (show i < xs.length by omega)
    refine ev_succ ?_
    simp only [nat_Shl.l0]
    rw [ediv_tdiv hn0, emod_tmod hn0, hq, hr]
    have hz0 : 0 ≤ rd xs i * 2 ^ r := Int.mul_nonneg ha.1 (Int.le_of_lt hP)
    have hz1 : rd xs i * 2 ^ r ≤ 4294967295 * 2 ^ r := Int.mul_le_mul_of_nonneg_right (by have := ha.2; simp only [B] at this; omega) (Int.le_of_lt hP)
    rw [shl_eq r (by omega) hz0 (by omega)]
    simp (disch := omega) only [w64, emod_tmod]
    have ei : ((i : Int) + (q : Int)) = ((i + q : Nat) : Int) := by omega
    have hlen : (List.replicate q (0 : Int) ++ pre ++ c :: List.replicate (xs.length - i) 0).length = q + xs.length + 1 := by simp; omega
    rw [hlen, ei, Int.toNat_natCast, show (((i + q : Nat) : Int) + 1).toNat = i + q + 1 by omega, rd_mid q pre c _ hpl]
    refine ev_pos (by omega) (ev_pos (by omega) (ev_pos (by omega) (ev_pos (by omega) (ev_pos (by omega) (ev_pos (by omega) (ev_pos (by omega) (ev_pos (by omega) ?_)))))))
    have hlow0 : 0 ≤ rd xs i * 2 ^ r % B := Int.emod_nonneg _ (by decide)
    have hlow1 : rd xs i * 2 ^ r % B < B := Int.emod_lt_of_pos _ (by decide)
    have hlowr : rd xs i * 2 ^ r % B % 2 ^ r = 0 := by
      rw [Int.emod_emod_of_dvd _ ⟨2 ^ (32 - r), hPB.symm⟩, Int.mul_emod_left]
    rw [or_join r (by omega) hlow0 hlowr hlow1 hc0 hc, show xs.length - i = (xs.length - (i + 1)) + 1 by omega, set_mid q pre c _ _ _ hpl]
    have hsum : rd xs i * 2 ^ r % B + c < B := by
      have h1 := Int.mul_ediv_add_emod (rd xs i * 2 ^ r % B) (2 ^ r)
      rw [hlowr, Int.add_zero] at h1
      have h2 : rd xs i * 2 ^ r % B / 2 ^ r < 2 ^ (32 - r) := Int.ediv_lt_of_lt_mul hP (by rw [Int.mul_comm (2 ^ (32 - r)) (2 ^ r), hPB]; exact hlow1)
      have h3 := Int.mul_le_mul_of_nonneg_left (show rd xs i * 2 ^ r % B / 2 ^ r + 1 ≤ 2 ^ (32 - r) by omega) (Int.le_of_lt hP)
      rw [Int.mul_add, h1, hPB] at h3
      omega
    have hu0 : 0 ≤ rd xs i * 2 ^ r / B := Int.ediv_nonneg hz0 (by decide)
    have hu1 : rd xs i * 2 ^ r / B < 2 ^ r := Int.ediv_lt_of_lt_mul (by decide) (by rw [Int.mul_comm]; exact Int.mul_lt_mul_of_pos_left ha.2 hP)
    have := ih (i + 1) (by omega) (by omega) (pre ++ [rd xs i * 2 ^ r % B + c]) (rd xs i * 2 ^ r / B) (hp.append (Dig.nil.cons (by omega) hsum)) (by simp [hpl]) hu0 hu1
    have e : val B (pre ++ [rd xs i * 2 ^ r % B + c]) + B ^ (i + 1) * (rd xs i * 2 ^ r / B + 2 ^ r * val B (xs.drop (i + 1))) = val B pre + B ^ i * (c + 2 ^ r * val B (xs.drop i)) := by
      rw [val_append, hpl, val_drop B xs i, Int.pow_succ]
      simp only [val, Int.mul_zero, Int.add_zero]
      have h1 := Int.mul_ediv_add_emod (rd xs i * 2 ^ r) B
      generalize rd xs i * 2 ^ r % B = u at *
      generalize rd xs i * 2 ^ r / B = v at *
      generalize val B (xs.drop (i + 1)) = w at *
      generalize rd xs (i : Int) = a at *
      generalize B ^ i = b at *
      generalize (2 : Int) ^ r = p at *
      generalize B = bb at *
      grind
    rw [e] at this
    rw [cast_succ]
    exact this
theorem shift_ok {n : Int} (h0 : 0 ≤ n) (h1 : n ≤ 100000) : nat_shift.f n = some 0 := by unfold nat_shift.f; rw [if_neg (by omega), if_neg (by omega)]
theorem shift_no {n : Int} (h : n < 0 ∨ 100000 < n) : nat_shift.f n = some 2 := by
  unfold nat_shift.f
  rcases h with h | h
  · rw [if_pos h]
  · rw [if_neg (by omega), if_pos (by omega)]
theorem shl_val (x : Int) {n : Int} (hn0 : 0 ≤ n) {q r : Nat} (hq : n / 32 = q) (hr : n % 32 = r) : B ^ q * (2 ^ r * x) = x * 2 ^ n.toNat := by
  have e : n.toNat = 32 * q + r := by omega
  have e2 : (B : Int) ^ q = 2 ^ (32 * q) := by rw [show (B : Int) = 2 ^ 32 by decide, ← Int.pow_mul]
  rw [e2, e, Int.pow_add]
  generalize (2 : Int) ^ (32 * q) = a
  generalize (2 : Int) ^ r = b
  grind
theorem shl_ev {x n : Int} (hx : 0 ≤ x) (hn0 : 0 ≤ n) (hn : n ≤ 100000) (hl : (dg B x).length < 1099511627776) : Ev (fun k => nat_Shl.f k (dg B x) n) (dg B (x * 2 ^ n.toNat), 0) := by
  unfold nat_Shl.f
  refine ev_eq (shift_ok hn0 hn) (ev_pos rfl (ev_succ ?_))
  simp only [nat_Shl.j0]
  by_cases hz : x = 0
  · subst hz
    refine ev_pos (by rw [dg_zero]; rfl) (ev_now ?_)
    rw [Int.zero_mul, dg_zero]
  · have hne : (dg B x).length ≠ 0 := fun h => hz ((dg_nil_iff hB hx).1 (List.length_eq_zero_iff.1 h))
    obtain ⟨q, hq⟩ : ∃ q : Nat, n / 32 = q := ⟨(n / 32).toNat, by omega⟩
    obtain ⟨r, hr⟩ : ∃ r : Nat, n % 32 = r := ⟨(n % 32).toNat, by omega⟩
    rw [ediv_tdiv hn0, hq]
    simp (disch := omega) only [w64]
    refine ev_neg (by simpa using hne) (ev_pos (by omega) (ev_pos (by omega) ?_))
    have := shl_l0 (dg B x) (dg_dig hB x hx) hl n hn0 q r hq hr hn _ 0 rfl (by omega) [] 0 Dig.nil rfl (Int.le_refl _) (Int.pow_pos (by decide))
    have el : (((dg B x).length : Int) + (q : Int) + 1).toNat = q + ((dg B x).length + 1) := by omega
    rw [el]
    have er : List.replicate (q + ((dg B x).length + 1)) (0 : Int) = List.replicate q 0 ++ [] ++ 0 :: List.replicate ((dg B x).length - 0) 0 := by
      rw [Nat.sub_zero, ← List.replicate_succ, List.append_nil, List.replicate_append_replicate]
    rw [er]
    rw [List.drop_zero, val_dg hB x hx, Int.pow_zero, Int.one_mul, Int.zero_add, val, Int.zero_add, shl_val x hn0 hq hr] at this
    exact this
theorem shl_no {xs : List Int} {n : Int} (h : n < 0 ∨ 100000 < n) : Ev (fun k => nat_Shl.f k xs n) ([], 2) := by
  unfold nat_Shl.f
  refine ev_eq (shift_no h) (ev_neg (by decide) (ev_succ ?_))
  simp only [nat_Shl.j0]
  exact ev_pos (by trivial) (ev_now rfl)
theorem shr_digit (a b w : Int) (ha0 : 0 ≤ a) (ha : a < B) (hb0 : 0 ≤ b) (hb : b < B) (r : Nat) (hr : r < 32) :
    Int.tmod (shr .u64 (Go.bits .or .u64 a (IntKind.u64.wrap (b * 4294967296))) (r : Int)) 4294967296 = (a + B * (b + B * w)) / 2 ^ r % B := by
  have hP : (0 : Int) < 2 ^ r := Int.pow_pos (by decide)
  have hPB : (2 : Int) ^ r * 2 ^ (32 - r) = B := by rw [← Int.pow_add, show r + (32 - r) = 32 by omega]; rfl
  simp only [B] at *
  rw [wu64 (by omega) (by omega)]
  have hor : Go.bits .or .u64 a (b * 4294967296) = b * 4294967296 + a := by
    have := bits_join .u64 64 (by decide) (fun n a b => wu64 a (by omega)) 32 (b * 4294967296) a (by omega) (by omega) (by omega) ha0 (by omega) (by omega)
    rw [← this]
    unfold Go.bits
    simp [BitVec.or_comm]
  rw [hor, shr_eq r (by omega), emod_tmod (Int.ediv_nonneg (by omega) (by omega))]
  have e : a + 4294967296 * (b + 4294967296 * w) = (b * 4294967296 + a) + 2 ^ r * (4294967296 * (2 ^ (32 - r) * w)) := by
    generalize (2 : Int) ^ r = p at *
    generalize (2 : Int) ^ (32 - r) = q at *
    grind
  rw [e, Int.add_mul_ediv_left _ _ (by omega), Int.add_mul_emod_self_left]
theorem shr_l0 (xs : List Int) (hx : Dig B xs) (hl : xs.length < 1099511627776) (n : Int) (hn0 : 0 ≤ n) (q r : Nat) (hq : n / 32 = q) (hr : n % 32 = r) (hn : n ≤ 100000) (hql : q ≤ xs.length) : ∀ d i : Nat, xs.length - q - i = d → i ≤ xs.length - q → ∀ (pre : List Int), Dig B pre → pre.length = i →
    val B pre + B ^ i * (val B (xs.drop (q + i)) / 2 ^ r) = val B (xs.drop q) / 2 ^ r →
    Ev (fun k => nat_Shr.l0 k xs n (pre ++ List.replicate (xs.length - q - i) 0) ((xs.length - q : Nat) : Int) i) (dg B (val B (xs.drop q) / 2 ^ r), 0) := by
  have hP : (0 : Int) < 2 ^ r := Int.pow_pos (by decide)
  intro d
  induction d with
  | zero =>
    intro i hd hi pre hp hpl he
    refine ev_succ ?_
    simp only [nat_Shr.l0]
    refine ev_neg (by omega) (ev_bind (trim_ev _ (by simp; omega)) (ev_now ?_))
    rw [show xs.length - q - i = 0 by omega, List.replicate_zero, List.append_nil, strip_dg hB hp, ← he, List.drop_eq_nil_of_le (show xs.length ≤ q + i by omega), val, Int.zero_ediv, Int.mul_zero, Int.add_zero]
  | succ d ih =>
    intro i hd hi pre hp hpl he
    have ha := dig_rd0 (by decide) hx (q + i)
    have hb := dig_rd0 (by decide) hx (q + i + 1)
    refine ev_succ ?_
    simp only [nat_Shr.l0]
    rw [ediv_tdiv hn0, emod_tmod hn0, hq, hr]
    simp (disch := omega) only [w64]
    have ei : ((i : Int) + (q : Int)) = ((q + i : Nat) : Int) := by omega
    rw [ei, cast_succ, Int.toNat_natCast]
    refine ev_pos (by omega) (ev_pos (by omega) (ev_pos (by omega) (ev_eq (at_eq xs (by omega)) (ev_pos (by omega) (ev_pos (by omega) (ev_pos (by simp; omega) ?_))))))
    rw [shr_digit _ _ (val B (xs.drop (q + i + 1 + 1))) ha.1 ha.2 hb.1 hb.2 r (by omega), show xs.length - q - i = (xs.length - q - (i + 1)) + 1 by omega, set_pre pre _ _ hpl]
    rw [← val_drop B xs (q + i + 1), ← val_drop B xs (q + i)]
    have hd0 : (0 : Int) ≤ val B (xs.drop (q + i)) / 2 ^ r % B := Int.emod_nonneg _ (by decide)
    have hd1 : val B (xs.drop (q + i)) / 2 ^ r % B < B := Int.emod_lt_of_pos _ (by decide)
    rw [cast_succ]
    refine ih (i + 1) (by omega) (by omega) _ (hp.append (Dig.nil.cons hd0 hd1)) (by simp [hpl]) ?_
    rw [← he, val_append, hpl, Int.pow_succ]
    have e1 : val B (xs.drop (q + (i + 1))) / 2 ^ r = val B (xs.drop (q + i)) / 2 ^ r / B := by
      have h1 : val B (xs.drop (q + i)) / B = val B (xs.drop (q + (i + 1))) := by
        rw [val_drop B xs (q + i), Int.add_mul_ediv_left _ _ (by decide), Int.ediv_eq_zero_of_lt ha.1 ha.2]
        rw [Int.zero_add]; rfl
      rw [← h1, Int.ediv_ediv_of_nonneg (by decide), Int.ediv_ediv_of_nonneg (by omega), Int.mul_comm]
    rw [e1]
    have h2 := Int.mul_ediv_add_emod (val B (xs.drop (q + i)) / 2 ^ r) B
    simp only [val, Int.mul_zero, Int.add_zero]
    generalize val B (xs.drop (q + i)) / 2 ^ r % B = u at *
    generalize val B (xs.drop (q + i)) / 2 ^ r / B = v at *
    generalize val B (xs.drop (q + i)) / 2 ^ r = w at *
    generalize B ^ i = b at *
    generalize B = bb at *
    grind
theorem val_take_drop (b : Int) (xs : List Int) (q : Nat) (h : q ≤ xs.length) : val b xs = val b (xs.take q) + b ^ q * val b (xs.drop q) := by
  conv => lhs; rw [← List.take_append_drop q xs]
  rw [val_append, List.length_take, Nat.min_eq_left h]
theorem shr_ev {x n : Int} (hx : 0 ≤ x) (hn0 : 0 ≤ n) (hn : n ≤ 100000) (hl : (dg B x).length < 1099511627776) : Ev (fun k => nat_Shr.f k (dg B x) n) (dg B (x / 2 ^ n.toNat), 0) := by
  unfold nat_Shr.f
  refine ev_eq (shift_ok hn0 hn) (ev_pos rfl (ev_succ ?_))
  simp only [nat_Shr.j0]
  obtain ⟨q, hq⟩ : ∃ q : Nat, n / 32 = q := ⟨(n / 32).toNat, by omega⟩
  obtain ⟨r, hr⟩ : ∃ r : Nat, n % 32 = r := ⟨(n % 32).toNat, by omega⟩
  have en : n.toNat = 32 * q + r := by omega
  have e2 : (B : Int) ^ q = 2 ^ (32 * q) := by rw [show (B : Int) = 2 ^ 32 by decide, ← Int.pow_mul]
  rw [ediv_tdiv hn0, hq]
  simp (disch := omega) only [w64]
  by_cases hge : (q : Int) ≥ ((dg B x).length : Int)
  · refine ev_pos (by simpa using hge) (ev_now ?_)
    have h1 := val_lt (b := B) (by decide) (dg_dig hB x hx)
    rw [val_dg hB x hx] at h1
    have h2 : x < 2 ^ n.toNat := by
      refine Int.lt_of_lt_of_le h1 (Int.le_trans (pow_mono (by decide) (show (dg B x).length ≤ q by omega)) ?_)
      rw [e2]
      exact pow_mono (by decide) (by omega)
    rw [Int.ediv_eq_zero_of_lt hx h2, dg_zero]
  · refine ev_neg (by simpa using hge) (ev_pos (by omega) (ev_pos (by omega) ?_))
    simp only [Option.bind_some, List.length_replicate]
    rw [show (((dg B x).length : Int) - (q : Int)).toNat = (dg B x).length - q by omega]
    have := shr_l0 (dg B x) (dg_dig hB x hx) hl n hn0 q r hq hr hn (by omega) _ 0 rfl (by omega) [] Dig.nil rfl (by simp [val])
    have ev : val B ((dg B x).drop q) / 2 ^ r = x / 2 ^ n.toNat := by
      have h1 := val_take_drop B (dg B x) q (by omega)
      have h2 := val_nonneg (b := B) (by decide) ((dg_dig hB x hx).take q)
      have h3 := val_lt (b := B) (by decide) ((dg_dig hB x hx).take q)
      rw [List.length_take, Nat.min_eq_left (by omega)] at h3
      rw [val_dg hB x hx] at h1
      have hP : (0 : Int) < B ^ q := Int.pow_pos (by decide)
      have h4 : x / B ^ q = val B ((dg B x).drop q) := by
        conv => lhs; rw [h1]
        rw [Int.add_mul_ediv_left _ _ (by omega), Int.ediv_eq_zero_of_lt h2 h3, Int.zero_add]
      rw [← h4, Int.ediv_ediv_of_nonneg (by omega), e2, ← Int.pow_add, ← en]
    rw [ev] at this
    exact this
theorem shr_no {xs : List Int} {n : Int} (h : n < 0 ∨ 100000 < n) : Ev (fun k => nat_Shr.f k xs n) ([], 2) := by
  unfold nat_Shr.f
  refine ev_eq (shift_no h) (ev_neg (by decide) (ev_succ ?_))
  simp only [nat_Shr.j0]
  exact ev_pos (by trivial) (ev_now rfl)
end Go.Proofs.Ytpjephicbiiamaa.B

end
section
namespace Go.Proofs.Ytpjephicbiiamaa.B
set_option linter.unusedVariables false
set_option linter.unusedSimpArgs false
open Go Go.RowKit Go.Proofs.YtpjephicbiiamaaW.PrintWords Go.Proofs.YtpjephicbiiamaaW.PrintLast Go.Proofs.YtpjephicbiiamaaW.PrintMore Go.Proofs.Ytpjephicbiiamaa.F Go.Proofs.Ytpjephicbiiamaa.A
theorem num_ev {n : Int} (h0 : 0 ≤ n) (h1 : n ≤ B) : Ev (fun k => triviumref02_Num.f k n) (dg D n) := by
  unfold triviumref02_Num.f
  have := muladd_ev (x := 0) (m := 1) (c := n) (by omega) (by omega) (by decide) h0 h1 (by rw [dg_zero]; simp)
  rw [dg_zero, Int.zero_mul, Int.zero_add] at this
  exact ev_bind this (ev_now rfl)
theorem pow2_len (j : Nat) : (dg D (2 ^ j)).length ≤ j + 1 := len_le hD (Int.pow_nonneg (by decide)) (by rw [Int.pow_succ]; have : (0 : Int) < 2 ^ j := Int.pow_pos (by decide); omega)
theorem power_l1 : ∀ (n j : Nat), n + j < 1000000000 → Ev (fun k => triviumref02_Power.l1 k (n : Int) (dg D (2 ^ j))) (dg D (2 ^ (j + n))) := by
  intro n
  induction n with
  | zero =>
    intro j h
    refine ev_succ ?_
    simp only [triviumref02_Power.l1]
    exact ev_neg (by omega) (ev_now rfl)
  | succ n ih =>
    intro j h
    refine ev_succ ?_
    simp only [triviumref02_Power.l1, cast_pred]
    simp (disch := omega) only [w64]
    have := pow2_len j
    refine ev_pos (by omega) (ev_bind (muladd_ev (Int.pow_nonneg (by decide)) (by decide) (by decide) (by decide) (by decide) (by omega)) ?_)
    rw [Int.add_zero, ← Int.pow_succ]
    have := ih (j + 1) (by omega)
    rwa [show j + 1 + n = j + (n + 1) by omega] at this
theorem power_l0 : ∀ (d n j : Nat), n / 16 = d → n + j < 1000000000 → Ev (fun k => triviumref02_Power.l0 k (n : Int) (dg D (2 ^ j))) (dg D (2 ^ (j + n))) := by
  intro d
  induction d with
  | zero =>
    intro n j hd h
    refine ev_succ ?_
    simp only [triviumref02_Power.l0]
    exact ev_neg (by omega) (power_l1 n j h)
  | succ d ih =>
    intro n j hd h
    refine ev_succ ?_
    simp only [triviumref02_Power.l0]
    simp (disch := omega) only [w64]
    have := pow2_len j
    refine ev_pos (by omega) (ev_bind (muladd_ev (Int.pow_nonneg (by decide)) (by decide) (by decide) (by decide) (by decide) (by omega)) ?_)
    rw [Int.add_zero, show (65536 : Int) = 2 ^ 16 by decide, ← Int.pow_add, show (n : Int) - 16 = ((n - 16 : Nat) : Int) by omega]
    have := ih (n - 16) (j + 16) (by omega) (by omega)
    rwa [show j + 16 + (n - 16) = j + n by omega] at this
theorem power_ev {n : Nat} (h : n < 1000000000) : Ev (fun k => triviumref02_Power.f k (n : Int)) (dg D (2 ^ n)) := by
  unfold triviumref02_Power.f
  refine ev_bind (num_ev (by omega) (by decide)) ?_
  have := power_l0 _ n 0 rfl (by omega)
  rwa [Int.pow_zero, Nat.zero_add] at this
theorem val_set (b : Int) : ∀ (xs : List Int) (i : Nat) (v : Int), i < xs.length → val b (xs.set i v) = val b xs + b ^ i * (v - rd xs i)
  | [], i, v, h => by simp at h
  | x :: xs, 0, v, h => by simp [val, rd]; omega
  | x :: xs, i + 1, v, h => by
    have ih := val_set b xs i v (by simpa using h)
    have e : rd (x :: xs) ((i + 1 : Nat) : Int) = rd xs (i : Int) := by simp [rd]
    rw [List.set_cons_succ, val, val, ih, e, Int.pow_succ]
    generalize val b xs = w
    generalize b ^ i = p
    grind
theorem Dig.set {b : Int} {xs : List Int} (h : Dig b xs) (i : Nat) {v : Int} (h0 : 0 ≤ v) (h1 : v < b) : Dig b (xs.set i v) := by
  intro y hy
  rcases List.mem_or_eq_of_mem_set hy with hy | rfl
  · exact h y hy
  · exact ⟨h0, h1⟩
theorem val_take_succ (b : Int) (xs : List Int) (i : Nat) (h : i < xs.length) : val b (xs.take (i + 1)) = val b (xs.take i) + b ^ i * rd xs i := by
  rw [take_succ_rd xs i h, val_append, List.length_take, Nat.min_eq_left (by omega)]
  simp [val]
theorem mul_lt_pow {b x y : Int} (hb : 0 < b) {m n : Nat} (hx0 : 0 ≤ x) (hx : x < b ^ m) (hy0 : 0 ≤ y) (hy : y < b ^ n) : x * y < b ^ (m + n) := by
  rw [Int.pow_add]
  have hp : (0 : Int) < b ^ m := Int.pow_pos hb
  have h1 : x * y ≤ b ^ m * y := Int.mul_le_mul_of_nonneg_right (Int.le_of_lt hx) hy0
  have h2 : b ^ m * y < b ^ m * b ^ n := Int.mul_lt_mul_of_pos_left hy hp
  omega
section
variable (xs ys : List Int) (hx : Dig D xs) (hy : Dig D ys) (hl : xs.length + ys.length < 1099511627776)
include hx hy hl
theorem mul_l2 (r : List Int) (i : Nat) (hi : i < xs.length)
    (K : ∀ o : List Int, Dig D o → o.length = xs.length + ys.length + 1 → val D o = val D (xs.take (i + 1)) * val D ys → Ev (fun k => triviumref02_Mul.l0 k xs ys o ((i + 1 : Nat) : Int)) r) :
    ∀ (t : Nat) (j : Nat), t = xs.length + ys.length + 1 - j → ∀ (o : List Int) (c : Int), Dig D o → o.length = xs.length + ys.length + 1 → 0 ≤ c → c < 10000 → j ≤ xs.length + ys.length →
    val D o + D ^ j * c = val D (xs.take (i + 1)) * val D ys → Ev (fun k => triviumref02_Mul.l2 k xs ys o (i : Int) c (j : Int)) r := by
  intro t
  have hxt := val_nonneg (b := D) (by decide) (hx.take (i + 1))
  have hyt := val_nonneg (b := D) (by decide) hy
  have hx1 := val_lt (b := D) (by decide) (hx.take (i + 1))
  have hy1 := val_lt (b := D) (by decide) hy
  have hlt := mul_lt_pow (b := D) (by decide) hxt hx1 hyt hy1
  rw [List.length_take, Nat.min_eq_left (by omega)] at hlt
  induction t with
  | zero =>
    intro j ht o c ho hlo hc0 hc hj he
    omega
  | succ t ih =>
    intro j ht o c ho hlo hc0 hc hj he
    have ho0 := val_nonneg (b := D) (by decide) ho
    refine ev_succ ?_
    simp only [triviumref02_Mul.l2]
    refine ev_ite (fun hcp => ?_) (fun hcz => ?_)
    ·
      have hjlt : j < xs.length + ys.length := by
        apply Nat.lt_of_not_le
        intro hle
        have h1 : (D : Int) ^ (i + 1 + ys.length) ≤ D ^ j := pow_mono (by decide) (by omega)
        have h2 : D ^ j * 1 ≤ D ^ j * c := Int.mul_le_mul_of_nonneg_left (by omega) (Int.pow_nonneg (by decide))
        omega
      have hr := rd_nonneg_lt ho (show j < o.length by omega)
      simp only [D] at *
      simp (disch := omega) only [w64, ediv_tdiv, emod_tmod]
      rw [Int.toNat_natCast]
      refine ev_pos (by omega) (ev_pos (by omega) ?_)
      rw [cast_succ]
      refine ih (j + 1) (by omega) _ _ (Dig.set ho j (by omega) (by omega)) (by rw [List.length_set, hlo]) (by omega) (by omega) (by omega) ?_
      rw [val_set _ _ _ _ (by omega), ← he, Int.pow_succ]
      have h1 := Int.mul_ediv_add_emod (c + rd o j) 10000
      generalize (c + rd o j) / 10000 = u at *
      generalize (c + rd o j) % 10000 = v at *
      generalize (10000 : Int) ^ j = p at *
      generalize val 10000 o = w at *
      grind
    · have hc0' : c = 0 := by omega
      rw [hc0', Int.mul_zero, Int.add_zero] at he
      simp (disch := omega) only [w64]
      exact K o ho hlo he
theorem mul_l1 (r : List Int) (i : Nat) (hi : i < xs.length)
    (K : ∀ o : List Int, Dig D o → o.length = xs.length + ys.length + 1 → val D o = val D (xs.take (i + 1)) * val D ys → Ev (fun k => triviumref02_Mul.l0 k xs ys o ((i + 1 : Nat) : Int)) r) :
    ∀ (d j : Nat), ys.length - j = d → j ≤ ys.length → ∀ (o : List Int) (c : Int), Dig D o → o.length = xs.length + ys.length + 1 → 0 ≤ c → c < 10000 →
    val D o + D ^ (i + j) * c = val D (xs.take i) * val D ys + D ^ i * (rd xs i * val D (ys.take j)) → Ev (fun k => triviumref02_Mul.l1 k xs ys o (i : Int) c (j : Int)) r := by
  intro d
  induction d with
  | zero =>
    intro j hd hj o c ho hlo hc0 hc he
    refine ev_succ ?_
    simp only [triviumref02_Mul.l1]
    refine ev_neg (by omega) ?_
    simp (disch := omega) only [w64]
    rw [show (i : Int) + (ys.length : Int) = ((i + ys.length : Nat) : Int) by omega]
    have hj2 : i + ys.length ≤ xs.length + ys.length := by omega
    refine mul_l2 xs ys hx hy hl r i hi K _ (i + ys.length) rfl o c ho hlo hc0 hc hj2 ?_
    rw [show i + ys.length = i + j by omega, he, List.take_of_length_le (show ys.length ≤ j by omega), val_take_succ _ _ _ hi]
    generalize val D (xs.take i) = p
    generalize val D ys = q
    generalize D ^ i = s
    grind
  | succ d ih =>
    intro j hd hj o c ho hlo hc0 hc he
    have hr := rd_nonneg_lt ho (show i + j < o.length by omega)
    have ha := rd_nonneg_lt hx hi
    have hb := rd_nonneg_lt hy (show j < ys.length by omega)
    have hm0 := Int.mul_nonneg ha.1 hb.1
    have hm1 : rd xs i * rd ys j ≤ 9999 * 9999 := Int.mul_le_mul (by simp only [D] at ha; omega) (by simp only [D] at hb; omega) hb.1 (by decide)
    refine ev_succ ?_
    simp only [triviumref02_Mul.l1]
    rw [show (i : Int) + (j : Int) = ((i + j : Nat) : Int) by omega]
    simp only [D] at *
    generalize hm : rd xs i * rd ys j = m at *
    have hs0 : 0 ≤ c + rd o ((i + j : Nat) : Int) + m := by omega
    simp (disch := omega) only [w64, ediv_tdiv, emod_tmod]
    rw [Int.toNat_natCast]
    refine ev_pos (by omega) (ev_pos (by omega) (ev_pos (by omega) (ev_pos (by omega) (ev_pos (by omega) (ev_pos (by omega) ?_)))))
    rw [cast_succ]
    refine ih (j + 1) (by omega) (by omega) _ _ (Dig.set ho _ (by omega) (by omega)) (by rw [List.length_set, hlo]) (by omega) (by omega) ?_
    rw [val_set _ _ _ _ (by omega), val_take_succ _ _ _ (by omega), show i + (j + 1) = i + j + 1 by omega, Int.pow_succ]
    have h1 := Int.mul_ediv_add_emod (c + rd o ((i + j : Nat) : Int) + m) 10000
    have hpw : (10000 : Int) ^ (i + j) = 10000 ^ i * 10000 ^ j := Int.pow_add ..
    generalize (c + rd o ((i + j : Nat) : Int) + m) / 10000 = u at *
    generalize (c + rd o ((i + j : Nat) : Int) + m) % 10000 = v at *
    rw [hpw] at he ⊢
    generalize val 10000 (xs.take i) = p at *
    generalize val 10000 ys = q at *
    generalize val 10000 (ys.take j) = s at *
    generalize val 10000 o = w at *
    generalize (10000 : Int) ^ i = a at *
    generalize (10000 : Int) ^ j = b at *
    grind
theorem mul_l0 : ∀ (d i : Nat), xs.length - i = d → i ≤ xs.length → ∀ (o : List Int), Dig D o → o.length = xs.length + ys.length + 1 → val D o = val D (xs.take i) * val D ys → Ev (fun k => triviumref02_Mul.l0 k xs ys o (i : Int)) (dg D (val D xs * val D ys)) := by
  intro d
  induction d with
  | zero =>
    intro i hd hi o ho hlo he
    refine ev_succ ?_
    simp only [triviumref02_Mul.l0]
    refine ev_neg (by omega) (ev_bind (rtrim_ev _ (by omega)) (ev_now ?_))
    rw [strip_dg hD ho, he, List.take_of_length_le (by omega)]
  | succ d ih =>
    intro i hd hi o ho hlo he
    refine ev_succ ?_
    simp only [triviumref02_Mul.l0]
    refine ev_pos (by omega) ?_
    exact mul_l1 xs ys hx hy hl _ i (by omega) (fun o' h1 h2 h3 => ih (i + 1) (by omega) (by omega) o' h1 h2 h3) _ 0 rfl (by omega) o 0 ho hlo (by omega) (by omega) (by rw [he]; simp [val])
end
theorem rmul_ev {x y : Int} (hx : 0 ≤ x) (hy : 0 ≤ y) (hl1 : (dg D x).length < 549755813887) (hl2 : (dg D y).length < 549755813887) : Ev (fun k => triviumref02_Mul.f k (dg D x) (dg D y)) (dg D (x * y)) := by
  have := mul_l0 (dg D x) (dg D y) (dg_dig hD x hx) (dg_dig hD y hy) (by omega) _ 0 rfl (by omega) (List.replicate ((dg D x).length + (dg D y).length + 1) 0) (Dig.zeros (by decide) _) (by simp) (by rw [val_zeros]; simp [val])
  rw [val_dg hD x hx, val_dg hD y hy] at this
  unfold triviumref02_Mul.f
  simp (disch := omega) only [w64]
  rw [show (((dg D x).length : Int) + ((dg D y).length : Int) + 1).toNat = (dg D x).length + (dg D y).length + 1 by omega]
  exact ev_pos (by omega) (ev_pos (by omega) this)
theorem div_uniq {a b q r : Int} (hb : 0 < b) (hr0 : 0 ≤ r) (hr : r < b) (h : b * q + r = a) : a / b = q ∧ a % b = r := by
  subst h
  exact ⟨by rw [Int.mul_add_ediv_left _ _ (by omega), Int.ediv_eq_zero_of_lt hr0 hr, Int.add_zero], by rw [Int.mul_add_emod_self_left, Int.emod_eq_of_lt hr0 hr]⟩
set_option linter.unusedSectionVars false
section
variable (xs : List Int) (hx : Dig D xs) (y : Int) (hy : 0 < y) (hl : xs.length < 549755813887) (hyl : (dg D y).length < 549755813887)
include hx hy hl hyl
theorem div_l1 (i : Nat) (hi : i < xs.length) (res : List Int × List Int) (q : List Int) (r' : Int) (hr0 : 0 ≤ r') (hr : r' < D * y)
    (K : ∀ lo : Int, 0 ≤ lo → lo < D → lo * y ≤ r' → r' < (lo + 1) * y → Ev (fun k => triviumref02_Div.l0 k xs (dg D y) (List.replicate i 0 ++ lo :: q) (dg D (r' - lo * y)) ((i : Int) - 1)) res) :
    ∀ (n : Nat) (lo hi : Int), (hi - lo).toNat = n → 0 ≤ lo → lo < hi → hi ≤ 10000 → lo * y ≤ r' → r' < hi * y →
    Ev (fun k => triviumref02_Div.l1 k xs (dg D y) (List.replicate (i + 1) 0 ++ q) (dg D r') (i : Int) lo hi) res := by
  have hrl : (dg D r').length ≤ (dg D y).length + 1 := by
    refine dg_len_le hD _ _ hr0 ?_
    have h1 := val_lt (b := D) (by decide) (dg_dig hD y (by omega))
    rw [val_dg hD y (by omega)] at h1
    rw [Int.pow_succ, Int.mul_comm]
    exact Int.lt_of_lt_of_le hr (Int.mul_le_mul_of_nonneg_left (Int.le_of_lt h1) (by decide))
  intro n
  induction n using Nat.strongRecOn with
  | ind n ih =>
    intro lo hi' hn h0 hlh hh hlo hhi
    refine ev_succ ?_
    simp only [triviumref02_Div.l1]
    have hB' : (10000 : Int) ≤ B := by decide
    simp (disch := omega) only [w64, ediv_tdiv]
    refine ev_ite (fun hgt => ?_) (fun hle => ?_)
    · have hm0 : 0 ≤ (lo + hi') / 2 := by omega
      refine ev_bind (muladd_ev (by omega) hm0 (by omega) (Int.le_refl _) (by decide) (by omega)) ?_
      rw [Int.add_zero, Int.mul_comm y]
      have hmy : 0 ≤ (lo + hi') / 2 * y := Int.mul_nonneg hm0 (by omega)
      have hml : (dg D ((lo + hi') / 2 * y)).length < 17592186044416 := by
        have : (dg D ((lo + hi') / 2 * y)).length ≤ (dg D y).length + 1 := by
          refine dg_len_le hD _ _ hmy ?_
          have h1 := val_lt (b := D) (by decide) (dg_dig hD y (by omega))
          rw [val_dg hD y (by omega)] at h1
          rw [Int.pow_succ, Int.mul_comm _ (D : Int)]
          have h2 : (lo + hi') / 2 * y ≤ (D - 1) * y := Int.mul_le_mul_of_nonneg_right (by simp only [D]; omega) (by omega)
          have h3 : (D : Int) * y ≤ D * D ^ (dg D y).length := Int.mul_le_mul_of_nonneg_left (Int.le_of_lt h1) (by decide)
          rw [Int.sub_mul, Int.one_mul] at h2
          omega
        omega
      refine ev_bind (rcmp_ev hmy hr0 hml) (ev_ite (fun hc => ?_) (fun hc => ?_))
      · refine ih _ ?_ _ _ rfl hm0 (by omega) hh ?_ hhi
        · omega
        · unfold cmpI at hc; split at hc
          · omega
          · split at hc <;> omega
      · refine ih _ ?_ _ _ rfl h0 (by omega) (by omega) hlo ?_
        · omega
        · unfold cmpI at hc; split at hc
          · omega
          · split at hc <;> omega
    · have he : hi' = lo + 1 := by omega
      subst he
      refine ev_pos (by omega) (ev_pos (by simp; omega) (ev_bind (muladd_ev (by omega) h0 (by omega) (Int.le_refl _) (by decide) (by omega)) ?_))
      rw [Int.add_zero, Int.mul_comm y]
      refine ev_bind (rsub_ev (Int.mul_nonneg h0 (by omega)) hlo (by omega)) ?_
      rw [Int.toNat_natCast, set_zeros]
      exact K lo h0 (by simp only [D]; omega) hlo hhi
theorem div_l0 : ∀ i : Nat, i ≤ xs.length → ∀ (q : List Int) (r : Int), Dig D q → 0 ≤ r → r < y → y * val D q + r = val D (xs.drop i) → q.length + i = xs.length →
    Ev (fun k => triviumref02_Div.l0 k xs (dg D y) (List.replicate i 0 ++ q) (dg D r) ((i : Int) - 1)) (dg D (val D xs / y), dg D (val D xs % y)) := by
  intro i
  induction i with
  | zero =>
    intro hi q r hq hr0 hr he hlq
    refine ev_succ ?_
    simp only [triviumref02_Div.l0]
    refine ev_neg (by omega) (ev_bind (rtrim_ev _ (by simp; omega)) (ev_now ?_))
    rw [List.drop_zero] at he
    obtain ⟨e1, e2⟩ := div_uniq hy hr0 hr he
    rw [e1, e2]
    simp only [List.replicate_zero, List.nil_append]
    rw [strip_dg hD hq]
  | succ i ih =>
    intro hi q r hq hr0 hr he hlq
    have ha := rd_nonneg_lt hx (show i < xs.length by omega)
    refine ev_succ ?_
    simp only [triviumref02_Div.l0, cast_pred, Option.bind_some]
    have hrl := dg_len_mono hD hr0 (Int.le_of_lt hr)
    have hr'0 : 0 ≤ rd xs i + D * r := by have := Int.mul_nonneg (show (0 : Int) ≤ D by decide) hr0; omega
    have hr' : rd xs i + D * r < D * y := by
      have := Int.mul_le_mul_of_nonneg_left (show r + 1 ≤ y by omega) (show (0 : Int) ≤ D by decide)
      rw [Int.mul_add] at this
      omega
    have hdr : Dig D ([rd xs i] ++ dg D r) := (dg_dig hD r hr0).cons ha.1 ha.2
    have hev : strip ([rd xs i] ++ dg D r) = dg D (rd xs i + D * r) := by
      rw [strip_dg hD hdr]
      simp only [List.cons_append, List.nil_append, val, val_dg hD r hr0]
    refine ev_pos (by omega) (ev_pos (by omega) (ev_pos (by omega) (ev_pos (by simp; omega) (ev_bind (rtrim_ev _ (by simp; omega)) ?_))))
    rw [hev]
    refine div_l1 xs hx y hy hl hyl i (by omega) _ q _ hr'0 hr' ?_ _ 0 10000 rfl (by omega) (by omega) (by omega) (by omega) hr'
    intro lo h0 h1 h2 h3
    refine ih (by omega) _ _ (hq.cons h0 h1) (by omega) (by rw [Int.add_mul, Int.one_mul] at h3; omega) ?_ (by simp; omega)
    rw [drop_rd xs i (by omega)]
    simp only [val]
    rw [← he]
    generalize val D q = s
    generalize (D : Int) = dd
    grind
end
theorem rdiv_ev {x y : Int} (hx : 0 ≤ x) (hy : 0 < y) (hl1 : (dg D x).length < 549755813887) (hl2 : (dg D y).length < 549755813887) : Ev (fun k => triviumref02_Div.f k (dg D x) (dg D y)) (dg D (x / y), dg D (x % y)) := by
  have := div_l0 (dg D x) (dg_dig hD x hx) y hy hl1 hl2 _ (Nat.le_refl _) [] 0 Dig.nil (by omega) hy (by rw [List.drop_length]; simp [val]) (by simp)
  rw [val_dg hD x hx, List.append_nil, dg_zero] at this
  unfold triviumref02_Div.f
  simp (disch := omega) only [w64, Int.toNat_natCast]
  exact ev_pos (by omega) (ev_pos (by omega) this)
end Go.Proofs.Ytpjephicbiiamaa.B

end
section
namespace Go.Proofs.Ytpjephicbiiamaa.Pure
set_option linter.unusedVariables false
set_option linter.unusedSimpArgs false
open Go Go.RowKit Go.Proofs.YtpjephicbiiamaaW.PrintWords Go.Proofs.YtpjephicbiiamaaW.PrintLast Go.Proofs.YtpjephicbiiamaaW.PrintMore Go.Proofs.Ytpjephicbiiamaa.F Go.Proofs.Ytpjephicbiiamaa.A Go.Proofs.Ytpjephicbiiamaa.B
theorem works_ev : Ev (fun k => triviumlaw02_works.f k) true := Ev.of (fun k => triviumlaw02_works.mono k) (k := 10) (by decide +kernel)
theorem j1_ev {x n : Int} (hx : 0 ≤ x) (hx1 : x < bnd 768) (hn : n ≤ 400 ∨ 100000 < n) : Ev (fun k => triviumlaw02_NatShifts.j1 k (dg B x) n (dg D x)) true := by
  have a1 := bnd_len hB hx hx1
  have a2 := bnd_len hD hx hx1
  refine ev_succ ?_
  simp only [triviumlaw02_NatShifts.j1]
  have tail : ∀ u d e f, Ev (fun k => triviumlaw02_NatShifts.j2 k n (dg D x) u e d f false) true →
      Ev (fun k => (nat_Bits.f k (dg B x)).bind fun t556 => (triviumref02_Bits.f k (dg D x)).bind fun t557 => if t556 = t557 then (nat_Zeros.f k (dg B x)).bind fun t558 => (triviumref02_Zeros.f k (dg D x)).bind fun t559 => triviumlaw02_NatShifts.j2 k n (dg D x) u e d f (t558 != t559) else triviumlaw02_NatShifts.j2 k n (dg D x) u e d f true) true := by
    intro u d e f h
    refine ev_bind (bits_ev hx (by omega)) (ev_bind (rbits_ev hx (by omega)) (ev_pos rfl ?_))
    by_cases hz : x = 0
    · subst hz
      refine ev_bind zeros_zero (ev_bind rzeros_zero ?_)
      simpa using h
    · obtain ⟨z, hz⟩ := Tz.ex (show 0 < x by omega)
      refine ev_bind (zeros_ev hz (by omega)) (ev_bind (rzeros_ev hz (by omega)) ?_)
      simpa using h
  by_cases hbad : n < 0 ∨ 100000 < n
  · refine ev_bind (shl_no hbad) (ev_bind (shr_no hbad) (tail _ _ _ _ ?_))
    have last : Ev (fun k => triviumlaw02_NatShifts.j3 k n (dg D x) [] 2 [] 2 true) true := by
      refine ev_succ ?_
      simp only [triviumlaw02_NatShifts.j3]
      refine ev_pos (by trivial) (ev_pos (by trivial) (ev_pos (by trivial) (ev_pos (by simp [wrap64]) (ev_bind works_ev (ev_now rfl)))))
    refine ev_succ ?_
    simp only [triviumlaw02_NatShifts.j2]
    refine ev_neg (by simp) (ev_ite (fun h => last) (fun h => ?_))
    rw [decide_eq_true (show n > 100000 by omega)]
    exact last
  · obtain ⟨m, rfl⟩ := Int.eq_ofNat_of_zero_le (show 0 ≤ n by omega)
    have hp : (0 : Int) < 2 ^ m := Int.pow_pos (by decide)
    have hs0 : 0 ≤ x * 2 ^ m := Int.mul_nonneg hx (by omega)
    have hs1 : x * 2 ^ m < bnd (768 + m) := by
      rw [bnd_add]
      exact Int.mul_lt_mul_of_pos_right hx1 hp
    have hd0 : 0 ≤ x / 2 ^ m := Int.ediv_nonneg hx (by omega)
    have hd1 : x / 2 ^ m < bnd 768 := by
      have := Int.ediv_le_self (2 ^ m : Int) hx
      omega
    have s1 := bnd_len hB hs0 hs1
    have s2 := bnd_len hD hs0 hs1
    have d1 := bnd_len hB hd0 hd1
    have d2 := bnd_len hD hd0 hd1
    have p2 := pow2_len m
    refine ev_bind (shl_ev hx (by omega) (by omega) (by omega)) (ev_bind (shr_ev hx (by omega) (by omega) (by omega)) ?_)
    simp only [Int.toNat_natCast]
    refine tail _ _ _ _ (ev_succ ?_)
    simp only [triviumlaw02_NatShifts.j2]
    refine ev_neg (by simp) (ev_neg (by omega) ?_)
    rw [decide_eq_false (show ¬ (m : Int) > 100000 by omega)]
    refine ev_succ ?_
    simp only [triviumlaw02_NatShifts.j3]
    refine ev_neg (by simp) (ev_bind (power_ev (by omega)) (ev_bind (rdiv_ev hx hp (by omega) (by omega)) (ev_pos (by trivial) (ev_pos (by trivial) ?_))))
    refine ev_bind (power_ev (by omega)) (ev_bind (rmul_ev hx (by omega) (by omega) (by omega)) (ev_bind (back_ev hs0 (by omega)) (ev_bind (same_ev _ _ (by omega)) (ev_pos (by simp) ?_))))
    exact ev_bind (back_ev hd0 (by omega)) (ev_bind (same_ev _ _ (by omega)) (ev_pos (by simp) (ev_bind works_ev (ev_now rfl))))
theorem NatShifts : triviumlaw02_NatShifts.Pure := by
  intro l0 n hm0 hl0 hw0 hn
  refine Ev.rounds ?_
  unfold triviumlaw02_NatShifts.f
  have hx := cl_nonneg l0 24
  have hx1 := cl_bnd l0 24
  change _ < bnd 768 at hx1
  refine ev_bind (clean_ev l0 24 (fun x h => (wf_u64 (hw0 x h)).1) (by omega)) ?_
  generalize cl l0 24 = x at *
  have a1 := bnd_len hB hx hx1
  refine ev_bind (of_ev hx (by omega)) (ev_ite (fun h => ?_) (fun h => ?_))
  · refine ev_succ ?_
    simp only [triviumlaw02_NatShifts.j0]
    by_cases h2 : n ≤ 100000
    · rw [decide_eq_true h2]
      refine ev_pos rfl ?_
      rw [emod_tmod (by omega)]
      exact j1_ev hx hx1 (by omega)
    · rw [decide_eq_false h2]
      exact ev_neg (by simp) (j1_ev hx hx1 (by omega))
  · refine ev_succ ?_
    simp only [triviumlaw02_NatShifts.j0]
    exact ev_neg (by simp) (j1_ev hx hx1 (by omega))
end Go.Proofs.Ytpjephicbiiamaa.Pure

end
section
namespace Go.Proofs.Ytpjephicbiiamaa.natShifts
open Go.Proofs.YtpjephicbiiamaaW
open Go.ChangeShapes Go.WideShapes Go.ChangeAt Go.RowKit
open Go.ChangeMaps (open_string shut_string)
set_option linter.unusedVariables false
theorem own : ownKnob Try.prog.godebug = none := by kernel_rfl
theorem laidOut : laidOutB Try.prog = true := by kernel_rfl
def IsRow (k : IntKind) (w : World) (a : Option Addr) (len cap : Nat) (zs : List Int) : Prop :=
  (a = none ∧ len = 0 ∧ cap = 0 ∧ zs = []) ∨
  ∃ x, a = some x ∧ len ≤ cap ∧ cap ≤ maxLen ∧ zs.length = cap ∧ (∀ i, i < zs.length → w.cell? (x.add i) = some (.int k (zs.getD i 0))) ∧ ∀ n ∈ zs, (Lit.int k n).wf = true
set_option maxRecDepth 100000 in
theorem lifted (os : Os) (started : os.Started) (H : Type) (enc : TypeId × Value → H) :
    ReturnsInHanded {} Try.checked os 13 .any (Rows.natShiftsSpec.pre6 enc Try.prog Try.f13 Rows.natShiftsRow.domain false) (Rows.natShiftsSpec.post enc Try.prog Try.f13 false true false false) := by
  refine returnsInHanded_of_change_sized (C := Try.checked) own started (by kernel_rfl) Try.func13
    (ChangeSpec.witness6 (enc := enc) (C := Try.checked) false ⟨#[], #[.slice none 0 0, .int .i64 0], []⟩ 8 (by kernel_rfl) (by kernel_rfl) (by kernel_rfl) (by kernel_rfl)) ?_
  intro W base args ds gs before hval0 hW hcnd hsz0 _
  have hsz : (DataW.weightsEach Try.prog (Try.f13.params.toList ++ Rows.natShiftsSpec.plain.varTypes Try.prog) (ds ++ gs)).all (· ≤ reachBytes) = true := hsz0
  have hval : ∀ (j : Nat) t v, Try.f13.params[j]? = some t → args[j]? = some v → Value.okWide Try.prog W .any base t v := hval0
  have hW' := hW
  obtain ⟨p, q, hA0, hV, rfl, hfz, hnd⟩ := hW
  have hA : DataW.TrodAll enc Try.prog W 0 (fun _ => true) true Try.f13.params.toList args.toList ds p := hA0
  rw [Try.params13] at hA hval hsz
  obtain ⟨v0, vs0, d0, ds0, p0, q0, hargs, rfl, rfl, h0, r0⟩ := trodAll_cons hA
  obtain ⟨v1, vs1, d1, ds1, p1, q1, rfl, rfl, rfl, h1, r1⟩ := trodAll_cons r0
  obtain ⟨rfl, rfl, rfl⟩ := trodAll_nil r1
  obtain rfl : args = #[v0, v1] := by cases args; simp_all
  obtain ⟨rfl, rfl⟩ := trodVars_none hV
  obtain ⟨a0, len0, cap0, rfl⟩ := okWide_slice Try.underlying23 (hval 0 23 v0 rfl rfl)
  have k0 := h0
  have lt0 : ∀ x ∈ p0, x.block < W.heap.size := by obtain ⟨m, hm⟩ := k0; exact DataW.trod_lt m _ _ _ hm
  obtain ⟨z0, w0⟩ : ∃ zs, IsRow .u64 W a0 len0 cap0 zs := by
    obtain ⟨fuel, hf⟩ := h0
    rcases open_ints Try.underlying23 Try.underlying54 (by kernel_rfl) hf with ⟨hcs, _⟩ | ⟨x, l, c, zs, hcs, _, hl, hm, hz, _, hcell, hwz⟩
    · simp [Value.cells] at hcs
      obtain ⟨rfl, rfl, rfl⟩ := hcs
      exact ⟨[], .inl ⟨rfl, rfl, rfl, rfl⟩⟩
    · simp [Value.cells] at hcs
      obtain ⟨rfl, rfl, rfl⟩ := hcs
      exact ⟨zs, .inr ⟨_, rfl, hl, hm, by simpa using hz, hcell, hwz⟩⟩
  have y0 : len0 * 8 ≤ 140737488351232 := PrintWords.sized_ints hsz (j := 0) (t := 23) rfl rfl Try.underlying23 Try.underlying54 (by kernel_rfl) (by kernel_rfl) h0
  obtain ⟨a1, rfl, rfl, rfl, w1⟩ := open_int Try.underlying3 (hval 1 3 v1 rfl rfl) h1
  clear hA0 hval0 hsz0 hsz
  refine (F.triviumlaw02_NatShifts.walk Pure.NatShifts a0 len0 cap0 z0 a1 W w0 y0 w1).mono fun e W' ⟨he, bel⟩ => ?_
  subst he
  exact ⟨_, rfl, _, _, _, [], _, [], hW', trodAll_mk1 (shut_bool Try.underlying4 _), (trodAll_cons_mk (Below.trod laidOut (by kernel_rfl) (of_decide_eq_true (by kernel_rfl)) k0 bel lt0) (trodAll_cons_mk (shut_int Try.underlying3 w1) trodAll_mk0)), rfl, bel.frame _, fun h => by cases h⟩
theorem over : Rows.natShiftsRow.holds Try.pinned (OpenSpec.ofChange Rows.natShiftsSpec) :=
  OpenClaim.holds_of_wide 13 Try.f13 rfl rfl rfl rfl rfl rfl rfl ⟨rfl, rfl, rfl, rfl, rfl⟩ rfl rfl rfl rfl rfl (by kernel_rfl) Try.func13 (by kernel_rfl)
    (of_decide_eq_true (by kernel_rfl)) (by unfold Func.isWrapper; first | (rw [if_pos (by decide +kernel)]; kernel_rfl) | (rw [if_neg (by decide +kernel)]; exact ⟨rfl, rfl⟩))
    (fun os started H enc _ => lifted os started H enc)
theorem proved : Rows.NatShiftsSaid := over
#print axioms proved
end Go.Proofs.Ytpjephicbiiamaa.natShifts
namespace Go.Proofs.Ytpjephicbiiamaa
theorem natShifts_holds : Rows.NatShiftsSaid := natShifts.proved
end Go.Proofs.Ytpjephicbiiamaa

end
