/- divide.Small answers what the document's division by one limb does, or refuses: for all limbs that come in (14 of them are looked at) and every divisor. -/
import Derived.Laws.BitsLemmas
import Derived.Test.YtiakcfkcmfmdiaaRows
import Derived.WalkKit
import Derived.ProofKit
import Derived.OpenShut
import Derived.ShutString
import Derived.ChangeOld
import Derived.Below
import Derived.SizedLaws
import Derived.Test.YtiakcfkcmfmdiaaCDivideSmalls3
set_option linter.unusedVariables false
set_option linter.unusedSimpArgs false
set_option linter.unusedSectionVars false
section
namespace Go.Proofs.Ytiakcfkcmfmdiaa.A
set_option linter.unusedVariables false
set_option linter.unusedSimpArgs false
open Go Go.RowKit Go.Proofs.YtiakcfkcmfmdiaaW.PrintWords Go.Proofs.YtiakcfkcmfmdiaaW.PrintLast Go.Proofs.YtiakcfkcmfmdiaaW.PrintMore
section
variable {α β : Type} {f g : Nat → Option α} {r : α}
theorem ev_pos {c : Prop} [Decidable c] (h : c) (k : Ev f r) : Ev (fun n => if c then f n else g n) r := by
  simpa only [if_pos h] using k
theorem ev_neg {c : Prop} [Decidable c] (h : ¬ c) (k : Ev g r) : Ev (fun n => if c then f n else g n) r := by
  simpa only [if_neg h] using k
theorem ev_ite {c : Prop} [Decidable c] (hp : c → Ev f r) (hn : ¬ c → Ev g r) : Ev (fun n => if c then f n else g n) r := by
  by_cases h : c
  · exact ev_pos h (hp h)
  · exact ev_neg h (hn h)
theorem ev_now {a : α} (h : a = r) : Ev (fun _ => some a) r := ⟨0, fun _ _ => by rw [h]⟩
theorem ev_bind {a : β} {g : Nat → Option β} {f : Nat → β → Option α} (h : Ev g a) (k : Ev (fun n => f n a) r) : Ev (fun n => (g n).bind (f n)) r := h.bind k
theorem ev_eq {a : β} {x : Option β} {f : Nat → β → Option α} (h : x = some a) (k : Ev (fun n => f n a) r) : Ev (fun n => x.bind (f n)) r := by
  subst h; exact k
end
theorem w64 {x : Int} (h0 : -9223372036854775808 ≤ x) (h1 : x ≤ 9223372036854775807) : wrap64 x = x := by unfold wrap64; omega
theorem wu64 {x : Int} (h0 : 0 ≤ x) (h1 : x ≤ 18446744073709551615) : IntKind.u64.wrap x = x := by
  have e : IntKind.u64.wrap x = x % 18446744073709551616 := by simp [IntKind.wrap, IntKind.bits, IntKind.signed]
  rw [e]; omega
theorem mask32 {x : Int} (h0 : 0 ≤ x) (h1 : x ≤ 18446744073709551615) : Go.bits .and .u64 x 4294967295 = x % 4294967296 := by
  have := bits_mask .u64 64 (by decide) (fun n a b => wu64 a (by omega)) 32 (by decide) x h0 (by omega)
  simpa using this
theorem wf_u64 {x : Int} (h : (Lit.int .u64 x).wf = true) : 0 ≤ x ∧ x ≤ 18446744073709551615 := by
  simp [Lit.wf, IntKind.min, IntKind.max, IntKind.signed, IntKind.bits] at h; omega
theorem rd_nat (xs : List Int) (i : Nat) : rd xs (i : Int) = xs.getD i 0 := by simp [rd]
def val (b : Int) : List Int → Int
  | [] => 0
  | x :: xs => x + b * val b xs
def Dig (b : Int) (xs : List Int) : Prop := ∀ x ∈ xs, 0 ≤ x ∧ x < b
theorem Dig.nil {b : Int} : Dig b [] := fun _ h => by cases h
theorem Dig.cons {b x : Int} {xs : List Int} (h0 : 0 ≤ x) (h1 : x < b) (h : Dig b xs) : Dig b (x :: xs) := by
  intro y hy
  rcases List.mem_cons.1 hy with rfl | hy
  · exact ⟨h0, h1⟩
  · exact h y hy
theorem Dig.head {b x : Int} {xs : List Int} (h : Dig b (x :: xs)) : 0 ≤ x ∧ x < b := h x (List.mem_cons_self ..)
theorem Dig.tail {b x : Int} {xs : List Int} (h : Dig b (x :: xs)) : Dig b xs := fun y hy => h y (List.mem_cons_of_mem _ hy)
theorem Dig.append {b : Int} {xs ys : List Int} (h : Dig b xs) (k : Dig b ys) : Dig b (xs ++ ys) := by
  intro y hy
  rcases List.mem_append.1 hy with hy | hy
  · exact h y hy
  · exact k y hy
theorem Dig.rd {b : Int} {xs : List Int} (h : Dig b xs) {i : Int} (h0 : 0 ≤ i) (h1 : i < xs.length) : 0 ≤ rd xs i ∧ rd xs i < b := by
  obtain ⟨j, rfl⟩ := Int.eq_ofNat_of_zero_le h0
  have hj : j < xs.length := by omega
  rw [rd_nat, List.getD, List.getElem?_eq_getElem hj]
  exact h _ (List.getElem_mem hj)
theorem Dig.take {b : Int} {xs : List Int} (h : Dig b xs) (i : Nat) : Dig b (xs.take i) := fun y hy => h y (List.mem_of_mem_take hy)
theorem Dig.mono {b c : Int} {xs : List Int} (h : Dig b xs) (hc : b ≤ c) : Dig c xs := fun x hx => ⟨(h x hx).1, by have := (h x hx).2; omega⟩
theorem val_append (b : Int) (xs ys : List Int) : val b (xs ++ ys) = val b xs + b ^ xs.length * val b ys := by
  induction xs with
  | nil => simp [val]
  | cons x xs ih =>
    simp only [List.cons_append, val, ih, List.length_cons, Int.pow_succ, Int.mul_add]
    rw [Int.mul_comm (b ^ xs.length) b, Int.mul_assoc, Int.add_assoc]
theorem val_nonneg {b : Int} (hb : 0 ≤ b) : ∀ {xs : List Int}, Dig b xs → 0 ≤ val b xs
  | [], _ => Int.le_refl _
  | x :: xs, h => by
    have := val_nonneg hb h.tail
    have := Int.mul_nonneg hb this
    have := h.head.1
    simp only [val]; omega
theorem val_lt {b : Int} (hb : 0 < b) : ∀ {xs : List Int}, Dig b xs → val b xs < b ^ xs.length
  | [], _ => by simp [val]
  | x :: xs, h => by
    have h1 := val_lt hb h.tail
    have h2 : b * (val b xs + 1) ≤ b * b ^ xs.length := Int.mul_le_mul_of_nonneg_left (by omega) (by omega)
    have := h.head.2
    rw [Int.mul_add] at h2
    simp only [val, List.length_cons, Int.pow_succ]
    rw [Int.mul_comm (b ^ xs.length) b]
    omega
def dgN (b : Nat) (n : Nat) : List Int := if h : 2 ≤ b ∧ 0 < n then ((n % b : Nat) : Int) :: dgN b (n / b) else []
termination_by n
decreasing_by exact Nat.div_lt_self h.2 h.1
def dg (b n : Int) : List Int := dgN b.toNat n.toNat
theorem dgN_zero (b : Nat) : dgN b 0 = [] := by rw [dgN, dif_neg (by omega)]
theorem dgN_pos {b n : Nat} (hb : 2 ≤ b) (hn : 0 < n) : dgN b n = ((n % b : Nat) : Int) :: dgN b (n / b) := by rw [dgN, dif_pos ⟨hb, hn⟩]
theorem dg_zero (b : Int) : dg b 0 = [] := dgN_zero _
theorem dg_pos {b n : Int} (hb : 2 ≤ b) (hn : 0 < n) : dg b n = n % b :: dg b (n / b) := by
  obtain ⟨c, rfl⟩ := Int.eq_ofNat_of_zero_le (show (0 : Int) ≤ b by omega)
  obtain ⟨m, rfl⟩ := Int.eq_ofNat_of_zero_le (show (0 : Int) ≤ n by omega)
  have e : ((m : Int) / (c : Int)).toNat = m / c := by rw [← Int.natCast_ediv]; rfl
  unfold dg
  rw [e]
  simp only [Int.toNat_natCast]
  rw [dgN_pos (by omega) (by omega)]
  simp
theorem dg_ind {b : Int} (hb : 2 ≤ b) {P : Int → Prop} (h0 : P 0) (h1 : ∀ n, 0 < n → P (n / b) → P n) : ∀ n : Int, 0 ≤ n → P n := by
  have H : ∀ m : Nat, ∀ n : Int, 0 ≤ n → n.toNat = m → P n := by
    intro m
    induction m using Nat.strongRecOn with
    | ind m ih =>
      intro n hn hm
      by_cases hz : n = 0
      · rw [hz]; exact h0
      · have hl : n / b < n := Int.ediv_lt_of_lt_mul (by omega) (by
          have : n * 2 ≤ n * b := Int.mul_le_mul_of_nonneg_left hb hn
          omega)
        have hg : 0 ≤ n / b := Int.ediv_nonneg hn (by omega)
        exact h1 n (by omega) (ih _ (by omega) _ hg rfl)
  exact fun n hn => H _ n hn rfl
theorem dg_dig {b : Int} (hb : 2 ≤ b) (n : Int) (hn : 0 ≤ n) : Dig b (dg b n) := by
  refine dg_ind hb (P := fun n => Dig b (dg b n)) ?_ ?_ n hn
  · rw [dg_zero]; exact Dig.nil
  · intro n hn ih
    rw [dg_pos hb hn]
    exact ih.cons (Int.emod_nonneg _ (by omega)) (Int.emod_lt_of_pos _ (by omega))
theorem val_dg {b : Int} (hb : 2 ≤ b) (n : Int) (hn : 0 ≤ n) : val b (dg b n) = n := by
  refine dg_ind hb (P := fun n => val b (dg b n) = n) ?_ ?_ n hn
  · rw [dg_zero]; rfl
  · intro n hn ih
    rw [dg_pos hb hn]
    simp only [val, ih]
    have := Int.emod_add_mul_ediv n b
    omega
def strip (xs : List Int) : List Int := match xs with
  | [] => []
  | x :: xs => match strip xs with
    | [] => if x = 0 then [] else [x]
    | y :: ys => x :: y :: ys
theorem strip_dg {b : Int} (hb : 2 ≤ b) : ∀ {xs : List Int}, Dig b xs → strip xs = dg b (val b xs)
  | [], _ => by rw [val, dg_zero]; rfl
  | x :: xs, h => by
    have ih := strip_dg hb h.tail
    have hx := h.head
    have hv := val_nonneg (by omega) h.tail
    have hm : 0 ≤ b * val b xs := Int.mul_nonneg (by omega) hv
    have e1 : (x + b * val b xs) % b = x := by rw [Int.add_mul_emod_self_left]; exact Int.emod_eq_of_lt hx.1 hx.2
    have e2 : (x + b * val b xs) / b = val b xs := by rw [Int.add_mul_ediv_left _ _ (by omega), Int.ediv_eq_zero_of_lt hx.1 hx.2]; omega
    rw [strip, val]
    by_cases hz : val b xs = 0
    · rw [hz, dg_zero] at ih
      rw [ih, hz, Int.mul_zero, Int.add_zero]
      by_cases hx0 : x = 0
      · rw [hx0, dg_zero]; rfl
      · rw [dg_pos hb (by omega), Int.emod_eq_of_lt hx.1 hx.2, Int.ediv_eq_zero_of_lt hx.1 hx.2, dg_zero]
        simp [hx0]
    · have hmv : 0 < val b xs := by omega
      have hp : 0 < b * val b xs := Int.mul_pos (by omega) hmv
      rw [dg_pos hb (show 0 < x + b * val b xs by omega), e1, e2, ih, dg_pos hb hmv]
theorem dg_len_le {b : Int} (hb : 2 ≤ b) (k : Nat) : ∀ n : Int, 0 ≤ n → n < b ^ k → (dg b n).length ≤ k := by
  induction k with
  | zero => intro n h0 h1; have : n = 0 := by simp at h1; omega
            rw [this, dg_zero]; simp
  | succ k ih =>
    intro n h0 h1
    by_cases hz : n = 0
    · rw [hz, dg_zero]; simp
    · rw [dg_pos hb (by omega), List.length_cons]
      have := ih (n / b) (Int.ediv_nonneg h0 (by omega)) (Int.ediv_lt_of_lt_mul (by omega) (by rw [← Int.pow_succ]; exact h1))
      omega
theorem pow_mono {b : Int} (hb : 1 ≤ b) {m n : Nat} (h : m ≤ n) : b ^ m ≤ b ^ n := by
  obtain ⟨d, rfl⟩ := Nat.exists_eq_add_of_le h
  rw [Int.pow_add]
  have h1 : 0 < b ^ m := Int.pow_pos (by omega)
  have h2 : 0 < b ^ d := Int.pow_pos (by omega)
  have := Int.mul_le_mul_of_nonneg_left (show 1 ≤ b ^ d by omega) (Int.le_of_lt h1)
  omega
theorem dg_inj {b m n : Int} (hb : 2 ≤ b) (hm : 0 ≤ m) (hn : 0 ≤ n) (h : dg b m = dg b n) : m = n := by
  rw [← val_dg hb m hm, ← val_dg hb n hn, h]
theorem dg_nil_iff {b n : Int} (hb : 2 ≤ b) (hn : 0 ≤ n) : dg b n = [] ↔ n = 0 := by
  constructor
  · intro h
    exact dg_inj hb hn (Int.le_refl _) (by rw [h, dg_zero])
  · rintro rfl; exact dg_zero _
end Go.Proofs.Ytiakcfkcmfmdiaa.A

end
section
namespace Go.Proofs.Ytiakcfkcmfmdiaa.B
set_option linter.unusedVariables false
set_option linter.unusedSimpArgs false
open Go Go.RowKit Go.Proofs.YtiakcfkcmfmdiaaW.PrintWords Go.Proofs.YtiakcfkcmfmdiaaW.PrintLast Go.Proofs.YtiakcfkcmfmdiaaW.PrintMore Go.Proofs.Ytiakcfkcmfmdiaa.F Go.Proofs.Ytiakcfkcmfmdiaa.A
abbrev B : Int := 4294967296
abbrev D : Int := 10000
theorem ev_succ {α : Type} {g : Nat → Option α} {r : α} (h : Ev (fun k => g (k + 1)) r) : Ev g r := by
  obtain ⟨K, hK⟩ := h
  refine ⟨K + 1, fun k hk => ?_⟩
  obtain ⟨m, rfl⟩ : ∃ m, k = m + 1 := ⟨k - 1, by omega⟩
  exact hK m (by omega)
theorem strip_snoc_zero (xs : List Int) : strip (xs ++ [0]) = strip xs := by
  induction xs with
  | nil => rfl
  | cons x xs ih => rw [List.cons_append, strip, strip, ih]
theorem strip_snoc (xs : List Int) {y : Int} (hy : y ≠ 0) : strip (xs ++ [y]) = xs ++ [y] := by
  induction xs with
  | nil => simp [strip, hy]
  | cons x xs ih =>
    rw [List.cons_append, strip, ih]
    cases xs <;> rfl
theorem take_succ_rd (xs : List Int) (i : Nat) (h : i < xs.length) : xs.take (i + 1) = xs.take i ++ [rd xs i] := by
  rw [List.take_succ_eq_append_getElem h, rd_nat, List.getD, List.getElem?_eq_getElem h]; rfl
theorem cast_pred (i : Nat) : ((i + 1 : Nat) : Int) - 1 = i := by omega
theorem cast_succ (i : Nat) : (i : Int) + 1 = ((i + 1 : Nat) : Int) := by omega
theorem trim_l0 (xs : List Int) (hl : xs.length < 17592186044416) : ∀ i : Nat, i ≤ xs.length → Ev (fun k => nat_trim.l0 k xs (i : Int)) (strip (xs.take i)) := by
  intro i
  induction i with
  | zero =>
    intro h
    refine ev_succ ?_
    simp only [nat_trim.l0]
    refine ev_neg (by omega) (ev_pos (by omega) (ev_pos (by omega) (ev_now ?_)))
    rfl
  | succ i ih =>
    intro h
    refine ev_succ ?_
    simp only [nat_trim.l0, cast_pred, Int.toNat_natCast]
    simp (disch := omega) only [w64]
    refine ev_pos (by omega) (ev_pos (by omega) (ev_pos (by omega) ?_))
    rw [take_succ_rd xs i (by omega)]
    refine ev_ite (fun hz => ?_) (fun hz => ?_)
    · rw [hz, strip_snoc_zero]; exact ih (by omega)
    · refine ev_pos (by omega) (ev_pos (by omega) (ev_now ?_))
      rw [strip_snoc _ hz]
theorem trim_ev (xs : List Int) (hl : xs.length < 17592186044416) : Ev (fun k => nat_trim.f k xs) (strip xs) := by
  have := trim_l0 xs hl xs.length (Nat.le_refl _)
  rwa [List.take_length] at this
theorem rtrim_l0 (xs : List Int) (hl : xs.length < 17592186044416) : ∀ i : Nat, i ≤ xs.length → Ev (fun k => triviumref02_Trim.l0 k xs (i : Int)) (strip (xs.take i)) := by
  intro i
  induction i with
  | zero =>
    intro h
    refine ev_succ ?_
    simp only [triviumref02_Trim.l0, Option.bind_some]
    refine ev_neg (by omega) (ev_pos (by omega) (ev_pos (by omega) (ev_pos (by simp; try omega) (ev_now ?_))))
    rfl
  | succ i ih =>
    intro h
    refine ev_succ ?_
    simp only [triviumref02_Trim.l0, Option.bind_some, cast_pred, Int.toNat_natCast]
    simp (disch := omega) only [w64]
    refine ev_pos (by omega) (ev_pos (by omega) (ev_pos (by omega) ?_))
    rw [take_succ_rd xs i (by omega)]
    refine ev_ite (fun hz => ?_) (fun hz => ?_)
    · rw [hz, strip_snoc_zero]; exact ih (by omega)
    · refine ev_pos (by omega) (ev_pos (by omega) (ev_pos (by simp [List.length_take]; omega) (ev_now ?_)))
      rw [strip_snoc _ hz]; rfl
theorem rtrim_ev (xs : List Int) (hl : xs.length < 17592186044416) : Ev (fun k => triviumref02_Trim.f k xs) (strip xs) := by
  have := rtrim_l0 xs hl xs.length (Nat.le_refl _)
  rwa [List.take_length] at this
theorem clean_l1 : ∀ n : Nat, ∀ xs : List Int, xs.length = n → xs.length < 17592186044416 → Ev (fun k => triviumref02_Clean.l1 k xs) (strip xs) := by
  intro n
  induction n with
  | zero =>
    intro xs hn hl
    refine ev_succ ?_
    simp only [triviumref02_Clean.l1]
    refine ev_neg (by omega) (ev_now ?_)
    rw [List.length_eq_zero_iff.1 hn]; rfl
  | succ n ih =>
    intro xs hn hl
    have e : xs = xs.take n ++ [rd xs n] := by rw [← take_succ_rd xs n (by omega), ← hn, List.take_length]
    refine ev_succ ?_
    simp only [triviumref02_Clean.l1]
    rw [hn]
    simp only [cast_pred, Int.toNat_natCast]
    simp (disch := omega) only [w64, Int.toNat_natCast]
    refine ev_pos (by omega) (ev_pos (by omega) (ev_pos (by omega) ?_))
    refine ev_ite (fun hz => ?_) (fun hz => ?_)
    · rw [hz] at e
      refine ev_pos (by omega) ?_
      conv => rhs; rw [e, strip_snoc_zero]
      exact ih _ (by rw [List.length_take]; omega) (by rw [List.length_take]; omega)
    · refine ev_now ?_
      conv => rhs; rw [e, strip_snoc _ hz]
      exact e
def cl (xs : List Int) (m : Nat) : Int := val B ((xs.take m).map (· % B))
theorem dig_map (xs : List Int) : Dig B (xs.map (· % B)) := by
  intro y hy
  obtain ⟨x, -, rfl⟩ := List.mem_map.1 hy
  exact ⟨Int.emod_nonneg _ (by decide), Int.emod_lt_of_pos _ (by decide)⟩
theorem cl_nonneg (xs : List Int) (m : Nat) : 0 ≤ cl xs m := val_nonneg (by decide) (dig_map _)
theorem cl_lt (xs : List Int) (m : Nat) : cl xs m < B ^ m := by
  have h := val_lt (b := B) (by decide) (dig_map (xs.take m))
  have h2 : ((xs.take m).map (· % B)).length ≤ m := by rw [List.length_map, List.length_take]; omega
  exact Int.lt_of_lt_of_le h (pow_mono (by decide) h2)
theorem clean_l0 (xs : List Int) (m : Nat) (hu : ∀ x ∈ xs, 0 ≤ x) (hl : xs.length < 17592186044416) : ∀ d i : Nat, min xs.length m - i = d → i ≤ min xs.length m →
    Ev (fun k => triviumref02_Clean.l0 k xs m ((xs.take i).map (· % B)) i) (strip ((xs.take m).map (· % B))) := by
  intro d
  induction d with
  | zero =>
    intro i hd hi
    have e : xs.take i = xs.take m := by
      rcases Nat.le_total xs.length m with h | h
      · rw [List.take_of_length_le (show xs.length ≤ i by omega), List.take_of_length_le h]
      · rw [show i = m by omega]
    have key : Ev (fun k => triviumref02_Clean.j1 k ((xs.take i).map (· % B))) (strip ((xs.take m).map (· % B))) := by
      refine ev_succ ?_
      simp only [triviumref02_Clean.j1]
      rw [e]
      exact clean_l1 _ _ rfl (by rw [List.length_map, List.length_take]; omega)
    refine ev_succ ?_
    simp only [triviumref02_Clean.l0]
    refine ev_ite (fun h1 => ?_) (fun h1 => key)
    exact ev_neg (by omega) key
  | succ d ih =>
    intro i hd hi
    refine ev_succ ?_
    simp only [triviumref02_Clean.l0]
    simp (disch := omega) only [w64]
    have hr : 0 ≤ rd xs i := by
      rw [rd_nat, List.getD, List.getElem?_eq_getElem (show i < xs.length by omega)]
      exact hu _ (List.getElem_mem _)
    refine ev_pos (by omega) (ev_pos (by omega) (ev_pos (by omega) (ev_pos (by rw [List.length_map, List.length_take]; omega) ?_)))
    have := ih (i + 1) (by omega) (by omega)
    rw [take_succ_rd xs i (by omega), List.map_append] at this
    rw [cast_succ, Int.tmod_eq_emod_of_nonneg hr]
    exact this
theorem clean_ev (xs : List Int) (m : Nat) (hu : ∀ x ∈ xs, 0 ≤ x) (hl : xs.length < 17592186044416) : Ev (fun k => triviumref02_Clean.f k xs m) (dg B (cl xs m)) := by
  have := clean_l0 xs m hu hl _ 0 rfl (by omega)
  rw [strip_dg (by decide) (dig_map _)] at this
  exact this
theorem same_l0 (xs ys : List Int) (hl : xs.length < 17592186044416) (he : xs.length = ys.length) : ∀ d i : Nat, xs.length - i = d → i ≤ xs.length → xs.take i = ys.take i →
    Ev (fun k => triviumref02_Same.l0 k xs ys i) (decide (xs = ys)) := by
  intro d
  induction d with
  | zero =>
    intro i hd hi hp
    refine ev_succ ?_
    simp only [triviumref02_Same.l0]
    refine ev_neg (by omega) (ev_now ?_)
    rw [List.take_of_length_le (by omega), List.take_of_length_le (by omega)] at hp
    simp [hp]
  | succ d ih =>
    intro i hd hi hp
    refine ev_succ ?_
    simp only [triviumref02_Same.l0]
    simp (disch := omega) only [w64]
    refine ev_pos (by omega) (ev_pos (by omega) (ev_pos (by omega) ?_))
    refine ev_ite (fun hr => ?_) (fun hr => ev_now ?_)
    · rw [cast_succ]
      exact ih (i + 1) (by omega) (by omega) (by rw [take_succ_rd xs i (by omega), take_succ_rd ys i (by omega), hp, hr])
    · have : xs ≠ ys := fun h => hr (by rw [h])
      simp [this]
theorem same_ev (xs ys : List Int) (hl : xs.length < 17592186044416) : Ev (fun k => triviumref02_Same.f k xs ys) (decide (xs = ys)) := by
  unfold triviumref02_Same.f
  refine ev_ite (fun h => ?_) (fun h => ev_now ?_)
  · exact same_l0 xs ys hl (by omega) _ 0 rfl (by omega) rfl
  · have : xs ≠ ys := fun e => h (by rw [e])
    simp [this]
end Go.Proofs.Ytiakcfkcmfmdiaa.B

end
section
namespace Go.Proofs.Ytiakcfkcmfmdiaa.B
set_option linter.unusedVariables false
set_option linter.unusedSimpArgs false
open Go Go.RowKit Go.Proofs.YtiakcfkcmfmdiaaW.PrintWords Go.Proofs.YtiakcfkcmfmdiaaW.PrintLast Go.Proofs.YtiakcfkcmfmdiaaW.PrintMore Go.Proofs.Ytiakcfkcmfmdiaa.F Go.Proofs.Ytiakcfkcmfmdiaa.A
theorem hD : (2 : Int) ≤ D := by decide
theorem hB : (2 : Int) ≤ B := by decide
theorem pow_base_mono {a b : Int} (ha : 0 ≤ a) (h : a ≤ b) : ∀ k : Nat, a ^ k ≤ b ^ k
  | 0 => by simp
  | k + 1 => by
    rw [Int.pow_succ, Int.pow_succ]
    have h1 : 0 ≤ a ^ k := Int.pow_nonneg ha
    exact Int.mul_le_mul (pow_base_mono ha h k) h ha (by have := pow_base_mono ha h k; omega)
theorem len_le {b x : Int} (hb : 2 ≤ b) {K : Nat} (h0 : 0 ≤ x) (h1 : x < 2 ^ K) : (dg b x).length ≤ K :=
  dg_len_le hb K x h0 (Int.lt_of_lt_of_le h1 (pow_base_mono (by decide) hb K))
theorem ediv_tdiv {a b : Int} (h : 0 ≤ a) : Int.tdiv a b = a / b := Int.tdiv_eq_ediv_of_nonneg h
theorem emod_tmod {a b : Int} (h : 0 ≤ a) : Int.tmod a b = a % b := Int.tmod_eq_emod_of_nonneg h
theorem drop_rd (xs : List Int) (i : Nat) (h : i < xs.length) : xs.drop i = rd xs i :: xs.drop (i + 1) := by
  rw [List.drop_eq_getElem_cons h, rd_nat, List.getD, List.getElem?_eq_getElem h]; rfl
theorem rd_nonneg_lt {b : Int} {xs : List Int} (h : Dig b xs) {i : Nat} (hi : i < xs.length) : 0 ≤ rd xs i ∧ rd xs i < b := h.rd (by omega) (by omega)
theorem muladd_l1 : ∀ c : Int, 0 ≤ c → ∀ out : List Int, Dig D out → c ≤ 9223372036854775807 → out.length + (dg D c).length < 17592186044416 →
    Ev (fun k => triviumref02_MulAdd.l1 k c out) (dg D (val D out + D ^ out.length * c)) := by
  refine dg_ind hD ?_ ?_
  · intro out ho hc hl
    refine ev_succ ?_
    simp only [triviumref02_MulAdd.l1]
    refine ev_neg (by omega) (ev_bind (rtrim_ev out (by omega)) (ev_now ?_))
    rw [strip_dg hD ho, Int.mul_zero, Int.add_zero]
  · intro c hc ih out ho hc2 hl
    have e : (dg D c).length = (dg D (c / D)).length + 1 := by rw [dg_pos hD hc]; rfl
    simp only [D] at *
    refine ev_succ ?_
    simp only [triviumref02_MulAdd.l1]
    rw [ediv_tdiv (by omega), emod_tmod (by omega)]
    simp (disch := omega) only [w64]
    refine ev_pos hc (ev_pos (by omega) ?_)
    have := ih (out ++ [c % 10000]) (ho.append (Dig.nil.cons (by omega) (by omega))) (by omega) (by rw [List.length_append]; simp; omega)
    rw [val_append, List.length_append] at this
    have ev : val 10000 out + 10000 ^ out.length * val 10000 [c % 10000] + 10000 ^ (out.length + [c % 10000].length) * (c / 10000) = val 10000 out + 10000 ^ out.length * c := by
      have h2 : 10000 ^ (out.length + [c % 10000].length) * (c / 10000) = 10000 ^ out.length * (10000 * (c / 10000)) := by
        rw [Int.pow_add, List.length_singleton, Int.pow_one, Int.mul_assoc]
      rw [h2, Int.add_assoc, ← Int.mul_add]
      congr 2
      simp only [val]; omega
    rw [ev] at this
    exact this
theorem muladd_l0 (xs : List Int) (m : Int) (hx : Dig D xs) (hm0 : 0 ≤ m) (hm : m ≤ B) (hl : xs.length < 1099511627776) : ∀ d i : Nat, xs.length - i = d → i ≤ xs.length → ∀ (c : Int) (out : List Int), 0 ≤ c → c ≤ B → Dig D out → out.length = i →
    Ev (fun k => triviumref02_MulAdd.l0 k xs m c out i) (dg D (val D out + D ^ out.length * (c + m * val D (xs.drop i)))) := by
  intro d
  induction d with
  | zero =>
    intro i hd hi c out hc0 hc ho hlo
    refine ev_succ ?_
    simp only [triviumref02_MulAdd.l0]
    rw [List.drop_eq_nil_of_le (by omega), val, Int.mul_zero, Int.add_zero]
    have hcl : (dg D c).length ≤ 9 := dg_len_le hD 9 c hc0 (by simp only [D, B] at *; omega)
    exact ev_neg (by omega) (muladd_l1 c hc0 out ho (by simp only [B] at hc; omega) (by omega))
  | succ d ih =>
    intro i hd hi c out hc0 hc ho hlo
    have hr := rd_nonneg_lt hx (show i < xs.length by omega)
    have hp0 : 0 ≤ rd xs i * m := Int.mul_nonneg hr.1 hm0
    have hp1 : rd xs i * m ≤ 9999 * m := Int.mul_le_mul_of_nonneg_right (by simp only [D] at hr; omega) hm0
    refine ev_succ ?_
    simp only [triviumref02_MulAdd.l0]
    simp only [B, D] at *
    simp (disch := omega) only [w64, ediv_tdiv, emod_tmod]
    refine ev_pos (by omega) (ev_pos (by omega) (ev_pos (by omega) ?_))
    have hq0 : 0 ≤ c + rd xs i * m := by omega
    generalize hp : rd xs i * m = p at *
    have := ih (i + 1) (by omega) (by omega) ((c + p) / 10000) (out ++ [(c + p) % 10000]) (by omega) (by omega) (ho.append (Dig.nil.cons (by omega) (by omega))) (by rw [List.length_append, hlo]; rfl)
    rw [cast_succ]
    have ev : val 10000 (out ++ [(c + p) % 10000]) + 10000 ^ (out ++ [(c + p) % 10000]).length * ((c + p) / 10000 + m * val 10000 (xs.drop (i + 1))) = val 10000 out + 10000 ^ out.length * (c + m * val 10000 (xs.drop i)) := by
      rw [val_append, List.length_append, Int.pow_add, drop_rd xs i (by omega)]
      simp only [val, List.length_cons, List.length_nil, Int.mul_zero, Int.add_zero, Nat.zero_add, Int.pow_succ, Int.pow_zero, Int.one_mul]
      rw [Int.mul_assoc, Int.add_assoc, ← Int.mul_add]
      congr 2
      have : m * (rd xs ↑i + 10000 * val 10000 (xs.drop (i + 1))) = p + 10000 * (m * val 10000 (xs.drop (i + 1))) := by
        rw [Int.mul_add, Int.mul_comm m, hp, ← Int.mul_assoc, Int.mul_comm m 10000, Int.mul_assoc]
      rw [this]
      omega
    rw [ev] at this
    exact this
theorem muladd_ev {x m c : Int} (hx : 0 ≤ x) (hm0 : 0 ≤ m) (hm : m ≤ B) (hc0 : 0 ≤ c) (hc : c ≤ B) (hl : (dg D x).length < 1099511627776) :
    Ev (fun k => triviumref02_MulAdd.f k (dg D x) m c) (dg D (x * m + c)) := by
  have := muladd_l0 (dg D x) m (dg_dig hD x hx) hm0 hm hl _ 0 rfl (by omega) c [] hc0 hc Dig.nil rfl
  rw [List.drop_zero, val_dg hD x hx] at this
  have e : val D [] + D ^ ([] : List Int).length * (c + m * x) = x * m + c := by
    simp [val, Int.mul_comm m x]; omega
  rw [e] at this
  exact this
theorem set_zeros (i : Nat) (q : List Int) (v : Int) : (List.replicate (i + 1) 0 ++ q).set i v = List.replicate i 0 ++ v :: q := by
  induction i with
  | zero => rfl
  | succ i ih => rw [List.replicate_succ, List.cons_append, List.set_cons_succ, ih]; rfl
theorem divsmall_l0 (xs : List Int) (d : Int) (hx : Dig D xs) (hd0 : 0 < d) (hd : d ≤ B) (hl : xs.length < 1099511627776) : ∀ i : Nat, i ≤ xs.length → ∀ (q : List Int) (r : Int), Dig D q → 0 ≤ r → r < d →
    d * val D q + r = val D (xs.drop i) → q.length + i = xs.length →
    Ev (fun k => triviumref02_DivSmall.l0 k xs d (List.replicate i 0 ++ q) r ((i : Int) - 1)) (dg D (val D xs / d), val D xs % d) := by
  intro i
  induction i with
  | zero =>
    intro hi q r hq hr0 hr he hlq
    refine ev_succ ?_
    simp only [triviumref02_DivSmall.l0]
    refine ev_neg (by omega) (ev_bind (rtrim_ev _ (by simp; omega)) (ev_now ?_))
    rw [List.drop_zero] at he
    have e1 : val D xs / d = val D q := by
      rw [← he, Int.mul_add_ediv_left _ _ (by omega), Int.ediv_eq_zero_of_lt hr0 hr]; omega
    have e2 : val D xs % d = r := by
      rw [← he, Int.mul_add_emod_self_left, Int.emod_eq_of_lt hr0 hr]
    rw [e1, e2]
    simp only [List.replicate_zero, List.nil_append]
    rw [strip_dg hD hq]
  | succ i ih =>
    intro hi q r hq hr0 hr he hlq
    have ha := rd_nonneg_lt hx (show i < xs.length by omega)
    simp only [B, D] at *
    refine ev_succ ?_
    simp only [triviumref02_DivSmall.l0, cast_pred]
    have ht0 : 0 ≤ 10000 * r + rd xs i := by omega
    simp (disch := omega) only [w64]
    rw [ediv_tdiv ht0, emod_tmod ht0]
    have hqd : (10000 * r + rd xs i) / d < 10000 := Int.ediv_lt_of_lt_mul hd0 (by omega)
    have hqd0 : 0 ≤ (10000 * r + rd xs i) / d := Int.ediv_nonneg ht0 (by omega)
    have hm0 : 0 ≤ (10000 * r + rd xs i) % d := Int.emod_nonneg _ (by omega)
    have hm1 : (10000 * r + rd xs i) % d < d := Int.emod_lt_of_pos _ hd0
    have hdm := Int.mul_ediv_add_emod (10000 * r + rd xs i) d
    simp (disch := omega) only [w64]
    refine ev_pos (by omega) (ev_pos (by omega) (ev_pos (by omega) (ev_neg (by omega) (ev_pos (by simp; omega) ?_))))
    rw [Int.toNat_natCast, set_zeros]
    refine ih (by omega) _ _ (hq.cons hqd0 hqd) hm0 hm1 ?_ (by simp; omega)
    rw [drop_rd xs i (by omega)]
    simp only [val]
    rw [← he]
    generalize (10000 * r + rd xs i) / d = s at *
    generalize (10000 * r + rd xs i) % d = u at *
    rw [Int.mul_add, Int.mul_left_comm d 10000]
    omega
theorem divsmall_ev {x d : Int} (hx : 0 ≤ x) (hd0 : 0 < d) (hd : d ≤ B) (hl : (dg D x).length < 1099511627776) :
    Ev (fun k => triviumref02_DivSmall.f k (dg D x) d) (dg D (x / d), x % d) := by
  have := divsmall_l0 (dg D x) d (dg_dig hD x hx) hd0 hd hl _ (Nat.le_refl _) [] 0 Dig.nil (by omega) hd0 (by rw [List.drop_length]; simp [val]) (by simp)
  rw [val_dg hD x hx, List.append_nil] at this
  unfold triviumref02_DivSmall.f
  simp (disch := omega) only [w64, Int.toNat_natCast]
  exact ev_pos (by omega) (ev_pos (by omega) this)
theorem back_l0 : ∀ x : Int, 0 ≤ x → ∀ out : List Int, (dg D x).length < 1099511627776 → out.length + (dg B x).length < 17592186044416 → Ev (fun k => triviumref02_Back.l0 k (dg D x) out) (out ++ dg B x) := by
  refine dg_ind hB ?_ ?_
  · intro out hl ho
    refine ev_succ ?_
    simp only [triviumref02_Back.l0, dg_zero]
    exact ev_neg (by simp) (ev_now (by simp))
  · intro x hx ih out hl ho
    refine ev_succ ?_
    simp only [triviumref02_Back.l0]
    have hne : (dg D x).length ≠ 0 := by
      intro h
      have := (dg_nil_iff hD (Int.le_of_lt hx)).1 (List.length_eq_zero_iff.1 h)
      omega
    have e : (dg B x).length = (dg B (x / B)).length + 1 := by rw [dg_pos hB hx]; rfl
    refine ev_pos (by omega) (ev_bind (divsmall_ev (by omega) (by decide) (Int.le_refl _) hl) (ev_pos (by omega) ?_))
    have hm0 : 0 ≤ x % B := by simp only [B]; omega
    have hm1 : x % B < B := by simp only [B]; omega
    dsimp only
    rw [wu64 hm0 (by simp only [B] at hm1 ⊢; omega)]
    have hle : (dg D (x / B)).length ≤ (dg D x).length := by
      apply dg_len_le hD _ _ (by simp only [B]; omega)
      have h1 := val_lt (b := D) (by decide) (dg_dig hD x (by omega))
      rw [val_dg hD x (by omega)] at h1
      have : x / B ≤ x := by simp only [B]; omega
      omega
    have := ih (out ++ [x % B]) (by omega) (by simp; omega)
    rw [dg_pos hB hx]
    simpa using this
theorem back_ev {x : Int} (hx : 0 ≤ x) (hl : (dg D x).length < 1099511627776) : Ev (fun k => triviumref02_Back.f k (dg D x)) (dg B x) := by
  have hle : (dg B x).length ≤ (dg D x).length := by
    apply dg_len_le hB _ _ hx
    have h1 := val_lt (b := D) (by decide) (dg_dig hD x (by omega))
    rw [val_dg hD x (by omega)] at h1
    exact Int.lt_of_lt_of_le h1 (pow_base_mono (by decide) (by decide) _)
  have := back_l0 x hx [] hl (by simp; omega)
  rw [List.nil_append] at this
  exact this
theorem of_l0 (xs : List Int) (hx : Dig B xs) (hl : xs.length < 1000000000) : ∀ i : Nat, i ≤ xs.length → ∀ acc : Int, 0 ≤ acc → acc < B ^ (xs.length - i) →
    Ev (fun k => triviumref02_Of.l0 k xs (dg D acc) ((i : Int) - 1)) (dg D (acc * B ^ i + val B (xs.take i))) := by
  intro i
  induction i with
  | zero =>
    intro hi acc h0 h1
    refine ev_succ ?_
    simp only [triviumref02_Of.l0]
    refine ev_neg (by omega) (ev_now ?_)
    simp [val]
  | succ i ih =>
    intro hi acc h0 h1
    have ha := rd_nonneg_lt hx (show i < xs.length by omega)
    have hal : (dg D acc).length < 1099511627776 := by
      have : (dg D acc).length ≤ 32 * (xs.length - (i + 1)) := len_le hD h0 (by
        have e : (B : Int) = 2 ^ 32 := by decide
        rw [e, ← Int.pow_mul] at h1; exact h1)
      omega
    refine ev_succ ?_
    simp only [triviumref02_Of.l0, cast_pred]
    have e1 : wrap64 (Int.tmod (rd xs i) 4294967296) = rd xs i := by
      rw [emod_tmod ha.1, Int.emod_eq_of_lt ha.1 ha.2, w64 (by omega) (by have := ha.2; simp only [B] at this; omega)]
    rw [e1]
    simp (disch := omega) only [w64]
    refine ev_pos (by omega) (ev_pos (by omega) (ev_pos (by omega) (ev_bind (muladd_ev h0 (by decide) (Int.le_refl _) ha.1 (by omega) hal) ?_)))
    have h2 : acc * B + rd xs i < B ^ (xs.length - i) := by
      have e : xs.length - i = (xs.length - (i + 1)) + 1 := by omega
      rw [e, Int.pow_succ]
      have h3 : (acc + 1) * B ≤ B ^ (xs.length - (i + 1)) * B := Int.mul_le_mul_of_nonneg_right (by omega) (by decide)
      rw [Int.add_mul] at h3
      omega
    have := ih (by omega) (acc * B + rd xs i) (by have := Int.mul_nonneg h0 (show (0 : Int) ≤ B by decide); omega) h2
    have e3 : (acc * B + rd xs i) * B ^ i + val B (xs.take i) = acc * B ^ (i + 1) + val B (xs.take (i + 1)) := by
      rw [take_succ_rd xs i (by omega), val_append, List.length_take, Nat.min_eq_left (by omega), Int.pow_succ, Int.add_mul]
      simp only [val, Int.mul_zero, Int.add_zero]
      rw [Int.mul_comm (rd xs ↑i) (B ^ i), Int.mul_assoc acc, Int.mul_comm B]
      omega
    rw [e3] at this
    exact this
theorem of_dig (xs : List Int) (hx : Dig B xs) (hl : xs.length < 1000000000) : Ev (fun k => triviumref02_Of.f k xs) (dg D (val B xs)) := by
  have := of_l0 xs hx hl _ (Nat.le_refl _) 0 (Int.le_refl _) (by rw [Nat.sub_self]; decide)
  rw [dg_zero, List.take_length, Int.zero_mul, Int.zero_add] at this
  unfold triviumref02_Of.f
  simp (disch := omega) only [w64]
  exact this
theorem of_ev {x : Int} (hx : 0 ≤ x) (hl : (dg B x).length < 1000000000) : Ev (fun k => triviumref02_Of.f k (dg B x)) (dg D x) := by
  have := of_dig (dg B x) (dg_dig hB x hx) hl
  rwa [val_dg hB x hx] at this
end Go.Proofs.Ytiakcfkcmfmdiaa.B

end
section
namespace Go.Proofs.Ytiakcfkcmfmdiaa.B
set_option linter.unusedVariables false
set_option linter.unusedSimpArgs false
open Go Go.RowKit Go.Proofs.YtiakcfkcmfmdiaaW.PrintWords Go.Proofs.YtiakcfkcmfmdiaaW.PrintLast Go.Proofs.YtiakcfkcmfmdiaaW.PrintMore Go.Proofs.Ytiakcfkcmfmdiaa.F Go.Proofs.Ytiakcfkcmfmdiaa.A
theorem dg_len_mono {b x y : Int} (hb : 2 ≤ b) (hx : 0 ≤ x) (h : x ≤ y) : (dg b x).length ≤ (dg b y).length := by
  apply dg_len_le hb _ _ hx
  have h1 := val_lt (b := b) (by omega) (dg_dig hb y (by omega))
  rw [val_dg hb y (by omega)] at h1
  omega
def bnd (K : Nat) : Int := 2 ^ K
theorem bnd_len {b x : Int} {K : Nat} (hb : 2 ≤ b) (h0 : 0 ≤ x) (h1 : x < bnd K) : (dg b x).length ≤ K := len_le hb h0 h1
theorem cl_bnd (xs : List Int) (m : Nat) : cl xs m < bnd (32 * m) := by
  have := cl_lt xs m
  have e : B = (2 : Int) ^ 32 := by decide
  rw [e, ← Int.pow_mul] at this
  exact this
end Go.Proofs.Ytiakcfkcmfmdiaa.B

end
section
namespace Go.Proofs.Ytiakcfkcmfmdiaa.B
set_option linter.unusedVariables false
set_option linter.unusedSimpArgs false
open Go Go.RowKit Go.Proofs.YtiakcfkcmfmdiaaW.PrintWords Go.Proofs.YtiakcfkcmfmdiaaW.PrintLast Go.Proofs.YtiakcfkcmfmdiaaW.PrintMore Go.Proofs.Ytiakcfkcmfmdiaa.F Go.Proofs.Ytiakcfkcmfmdiaa.A
theorem Dig.set {b : Int} {xs : List Int} (h : Dig b xs) (i : Nat) {v : Int} (h0 : 0 ≤ v) (h1 : v < b) : Dig b (xs.set i v) := by
  intro y hy
  rcases List.mem_or_eq_of_mem_set hy with hy | rfl
  · exact h y hy
  · exact ⟨h0, h1⟩
section
variable (xs ys : List Int) (hx : Dig D xs) (hy : Dig D ys) (hl : xs.length + ys.length < 1099511627776)
include hx hy hl
end
set_option linter.unusedSectionVars false
section
variable (xs : List Int) (hx : Dig D xs) (y : Int) (hy : 0 < y) (hl : xs.length < 549755813887) (hyl : (dg D y).length < 549755813887)
include hx hy hl hyl
end
end Go.Proofs.Ytiakcfkcmfmdiaa.B

end
section
namespace Go.Proofs.Ytiakcfkcmfmdiaa.B
set_option linter.unusedVariables false
set_option linter.unusedSimpArgs false
open Go Go.RowKit Go.Proofs.YtiakcfkcmfmdiaaW.PrintWords Go.Proofs.YtiakcfkcmfmdiaaW.PrintLast Go.Proofs.YtiakcfkcmfmdiaaW.PrintMore Go.Proofs.Ytiakcfkcmfmdiaa.F Go.Proofs.Ytiakcfkcmfmdiaa.A
end Go.Proofs.Ytiakcfkcmfmdiaa.B

end
section
namespace Go.Proofs.Ytiakcfkcmfmdiaa.B
set_option linter.unusedVariables false
set_option linter.unusedSimpArgs false
open Go Go.RowKit Go.Proofs.YtiakcfkcmfmdiaaW.PrintWords Go.Proofs.YtiakcfkcmfmdiaaW.PrintLast Go.Proofs.YtiakcfkcmfmdiaaW.PrintMore Go.Proofs.Ytiakcfkcmfmdiaa.F Go.Proofs.Ytiakcfkcmfmdiaa.A
theorem make_l0 (xs : List Int) (hx : Dig B xs) (hl : xs.length < 17592186044416) : ∀ d i : Nat, xs.length - i = d → i ≤ xs.length → Ev (fun k => nat_Make.l0 k (xs.take i) xs xs.length i) (dg B (val B xs), 0) := by
  intro d
  induction d with
  | zero =>
    intro i hd hi
    refine ev_succ ?_
    simp only [nat_Make.l0]
    refine ev_neg (by omega) (ev_bind (trim_ev _ (by rw [List.length_take]; omega)) (ev_now ?_))
    rw [List.take_of_length_le (by omega), strip_dg hB hx]
  | succ d ih =>
    intro i hd hi
    have ha := rd_nonneg_lt hx (show i < xs.length by omega)
    refine ev_succ ?_
    simp only [nat_Make.l0]
    simp (disch := omega) only [w64]
    refine ev_pos (by omega) (ev_pos (by omega) (ev_pos (by omega) (ev_neg (by have := ha.2; simp only [B] at this; omega) (ev_pos (by rw [List.length_take]; omega) ?_))))
    rw [← take_succ_rd xs i (by omega), cast_succ]
    exact ih (i + 1) (by omega) (by omega)
theorem make_dig (xs : List Int) (hx : Dig B xs) (hl : xs.length < 17592186044416) : Ev (fun k => nat_Make.f k xs) (dg B (val B xs), 0) := by
  have := make_l0 xs hx hl _ 0 rfl (by omega)
  unfold nat_Make.f
  exact ev_pos (by omega) (ev_pos (by omega) this)
end Go.Proofs.Ytiakcfkcmfmdiaa.B

end
section
namespace Go.Proofs.Ytiakcfkcmfmdiaa.B
set_option linter.unusedVariables false
set_option linter.unusedSimpArgs false
open Go Go.RowKit Go.Proofs.YtiakcfkcmfmdiaaW.PrintWords Go.Proofs.YtiakcfkcmfmdiaaW.PrintLast Go.Proofs.YtiakcfkcmfmdiaaW.PrintMore Go.Proofs.Ytiakcfkcmfmdiaa.F Go.Proofs.Ytiakcfkcmfmdiaa.A
theorem or_hi {x y : Int} (hx0 : 0 ≤ x) (hx : x < 4294967296) (hy0 : 0 ≤ y) (hy : y < 4294967296) : Go.bits .or .u64 (x * 4294967296) y = x * 4294967296 + y :=
  bits_join .u64 64 (by decide) (fun n a b => wu64 a (by omega)) 32 (x * 4294967296) y (by omega) (by omega) (by omega) hy0 (by omega) (by omega)
theorem limb_div {r a d0 d : Int} (hd0 : 0 ≤ d0) (hd1 : d0 ≤ 18446744073709551615) (hd : d0 % 4294967296 = d) (hr0 : 0 ≤ r) (hr : r < d) (ha0 : 0 ≤ a) (ha : a < 4294967296) :
    limb_Div.f r a d0 = some ((r * 4294967296 + a) / d, (r * 4294967296 + a) % d, 0) := by
  have hdB : d < 4294967296 := by omega
  have ht0 : 0 ≤ r * 4294967296 + a := by omega
  have hq0 : 0 ≤ (r * 4294967296 + a) / d := Int.ediv_nonneg ht0 (by omega)
  have hq1 : (r * 4294967296 + a) / d < 4294967296 := Int.ediv_lt_of_lt_mul (by omega) (by
    have : (r + 1) * 4294967296 ≤ d * 4294967296 := Int.mul_le_mul_of_nonneg_right (by omega) (by decide)
    rw [Int.mul_comm 4294967296 d]
    omega)
  unfold limb_Div.f
  rw [mask32 hd0 hd1, hd, mask32 (x := r) hr0 (by omega), mask32 (x := a) ha0 (by omega), Int.emod_eq_of_lt hr0 (show r < 4294967296 by omega), Int.emod_eq_of_lt ha0 ha, if_neg (by omega), if_neg (by omega), wu64 (x := r * 4294967296) (by omega) (by omega), or_hi hr0 (by omega) ha0 ha, ediv_tdiv ht0, emod_tmod ht0, wu64 hq0 (by omega)]
theorem dsmall_l0 (xs : List Int) (d0 d : Int) (hd00 : 0 ≤ d0) (hd1 : d0 ≤ 18446744073709551615) (hd : d0 % 4294967296 = d) (hdp : 0 < d) (hx : Dig B xs) (hl : xs.length < 1099511627776) : ∀ i : Nat, i ≤ xs.length → ∀ (q : List Int) (r : Int), Dig B q → 0 ≤ r → r < d →
    d * val B q + r = val B (xs.drop i) → q.length + i = xs.length →
    Ev (fun k => divide_Small.l0 k xs d0 (List.replicate i 0 ++ q) r (xs.length : Int) ((xs.length : Int) - i)) (dg B (val B xs / d), val B xs % d, 0) := by
  intro i
  induction i with
  | zero =>
    intro hi q r hq hr0 hr he hlq
    refine ev_succ ?_
    simp only [divide_Small.l0]
    simp only [List.replicate_zero, List.nil_append]
    refine ev_neg (by omega) (ev_bind (make_dig q hq (by omega)) (ev_now ?_))
    rw [List.drop_zero] at he
    have e1 : val B xs / d = val B q := by
      rw [← he, Int.mul_add_ediv_left _ _ (by omega), Int.ediv_eq_zero_of_lt hr0 hr]; omega
    have e2 : val B xs % d = r := by
      rw [← he, Int.mul_add_emod_self_left, Int.emod_eq_of_lt hr0 hr]
    rw [e1, e2]
  | succ i ih =>
    intro hi q r hq hr0 hr he hlq
    have ha := rd_nonneg_lt hx (show i < xs.length by omega)
    simp only [B] at *
    refine ev_succ ?_
    simp only [divide_Small.l0]
    have ei : wrap64 (wrap64 ((xs.length : Int) - 1) - ((xs.length : Int) - ((i + 1 : Nat) : Int))) = (i : Int) := by
      rw [w64 (x := (xs.length : Int) - 1) (by omega) (by omega), w64 (by omega) (by omega)]; omega
    have ec : wrap64 ((xs.length : Int) - ((i + 1 : Nat) : Int) + 1) = (xs.length : Int) - (i : Int) := by
      rw [w64 (by omega) (by omega)]; omega
    rw [ei, ec]
    have ht0 : 0 ≤ r * 4294967296 + rd xs i := by omega
    have hm0 : 0 ≤ (r * 4294967296 + rd xs i) % d := Int.emod_nonneg _ (by omega)
    have hm1 : (r * 4294967296 + rd xs i) % d < d := Int.emod_lt_of_pos _ hdp
    have hqd0 : 0 ≤ (r * 4294967296 + rd xs i) / d := Int.ediv_nonneg ht0 (by omega)
    have hqd : (r * 4294967296 + rd xs i) / d < 4294967296 := Int.ediv_lt_of_lt_mul hdp (by
      have : (r + 1) * 4294967296 ≤ d * 4294967296 := Int.mul_le_mul_of_nonneg_right (by omega) (by decide)
      rw [Int.mul_comm 4294967296 d]
      omega)
    have hdm := Int.mul_ediv_add_emod (r * 4294967296 + rd xs i) d
    refine ev_pos (by omega) (ev_pos (by omega) (ev_pos (by omega) (ev_eq (limb_div hd00 hd1 hd hr0 hr ha.1 ha.2) (ev_pos (by simp; omega) ?_))))
    simp only []
    rw [Int.toNat_natCast, set_zeros]
    refine ih (by omega) _ _ (hq.cons hqd0 hqd) hm0 hm1 ?_ (by simp; omega)
    rw [drop_rd xs i (by omega)]
    simp only [val]
    rw [← he]
    generalize (r * 4294967296 + rd xs i) / d = s at *
    generalize (r * 4294967296 + rd xs i) % d = u at *
    rw [Int.mul_add, Int.mul_left_comm d 4294967296, Int.mul_comm r] at *
    omega
theorem dsmall_ev {x d0 : Int} (hx : 0 ≤ x) (hd0 : 0 ≤ d0) (hd1 : d0 ≤ 18446744073709551615) (hd : d0 % 4294967296 ≠ 0) (hl : (dg B x).length < 1099511627776) :
    Ev (fun k => divide_Small.f k (dg B x) d0) (dg B (x / (d0 % 4294967296)), x % (d0 % 4294967296), 0) := by
  have := dsmall_l0 (dg B x) d0 _ hd0 hd1 rfl (by omega) (dg_dig hB x hx) hl _ (Nat.le_refl _) [] 0 Dig.nil (by omega) (by omega) (by rw [List.drop_length]; simp [val]) (by simp)
  rw [val_dg hB x hx, List.append_nil, Int.sub_self] at this
  unfold divide_Small.f
  rw [emod_tmod hd0]
  simp only [Int.toNat_natCast]
  exact ev_neg hd (ev_pos (by omega) (ev_pos (by omega) this))
theorem dsmall_no {xs : List Int} {d0 : Int} (hd0 : 0 ≤ d0) (hd : d0 % 4294967296 = 0) : Ev (fun k => divide_Small.f k xs d0) ([], 0, 3) := by
  unfold divide_Small.f
  rw [emod_tmod hd0]
  exact ev_pos hd (ev_now rfl)
theorem rsmall_ev {x d0 : Int} (hx : 0 ≤ x) (hd0 : 0 ≤ d0) (hd1 : d0 ≤ 18446744073709551615) (hd : d0 % 4294967296 ≠ 0) (hl : (dg B x).length < 100000000) (hl2 : (dg D x).length < 1099511627776) :
    Ev (fun k => triviumref04_Small.f k (dg B x) d0) (dg B (x / (d0 % 4294967296)), x % (d0 % 4294967296), 0) := by
  have hdp : 0 < d0 % 4294967296 := by omega
  have hq : 0 ≤ x / (d0 % 4294967296) := Int.ediv_nonneg hx (by omega)
  have hqx : x / (d0 % 4294967296) ≤ x := Int.ediv_le_self _ hx
  have hm : 0 ≤ x % (d0 % 4294967296) := Int.emod_nonneg _ (by omega)
  have hm1 : x % (d0 % 4294967296) < d0 % 4294967296 := Int.emod_lt_of_pos _ hdp
  unfold triviumref04_Small.f
  rw [emod_tmod hd0, w64 (by omega) (by omega)]
  refine ev_neg hd (ev_bind (of_ev hx (by omega)) (ev_bind (divsmall_ev hx hdp (by unfold B; omega) hl2) (ev_bind (back_ev hq ?_) (ev_now ?_))))
  · have := dg_len_mono hD hq hqx
    omega
  · rw [wu64 hm (by omega)]
theorem rsmall_no {xs : List Int} {d0 : Int} (hd0 : 0 ≤ d0) (hd : d0 % 4294967296 = 0) : Ev (fun k => triviumref04_Small.f k xs d0) ([], 0, 3) := by
  unfold triviumref04_Small.f
  rw [emod_tmod hd0]
  exact ev_pos hd (ev_now rfl)
end Go.Proofs.Ytiakcfkcmfmdiaa.B

end
section
namespace Go.Proofs.Ytiakcfkcmfmdiaa.Pure
set_option linter.unusedVariables false
set_option linter.unusedSimpArgs false
open Go Go.RowKit Go.Proofs.YtiakcfkcmfmdiaaW.PrintWords Go.Proofs.YtiakcfkcmfmdiaaW.PrintLast Go.Proofs.YtiakcfkcmfmdiaaW.PrintMore Go.Proofs.Ytiakcfkcmfmdiaa.F Go.Proofs.Ytiakcfkcmfmdiaa.A Go.Proofs.Ytiakcfkcmfmdiaa.B
set_option maxRecDepth 100000 in
theorem works04_ev : Ev (fun k => triviumlaw04_works.f k) true := Ev.of (fun k => triviumlaw04_works.mono k) (k := 150) (by decide +kernel)
theorem DivideSmalls : triviumlaw04_DivideSmalls.Pure := by
  intro l0 d hl0 hb0 hw0 hd
  replace hd := wf_u64 hd
  have hml : maxLen = 9223372036854775807 := rfl
  refine Ev.rounds ?_
  unfold triviumlaw04_DivideSmalls.f
  have hx := cl_nonneg l0 14
  have hx1 := cl_bnd l0 14
  refine ev_bind (clean_ev l0 14 (fun x h => (wf_u64 (hw0 x h)).1) (by omega)) ?_
  have a1 := bnd_len hB hx hx1
  have a2 := bnd_len hD hx hx1
  by_cases h : d % 4294967296 = 0
  · refine ev_bind (dsmall_no hd.1 h) (ev_bind (rsmall_no hd.1 h) (ev_bind (same_ev _ _ (by simp)) ?_))
    exact ev_pos (by simp) (ev_pos rfl (ev_pos rfl (ev_bind works04_ev (ev_now rfl))))
  · have hq : 0 ≤ cl l0 14 / (d % 4294967296) := Int.ediv_nonneg hx (by omega)
    have hqx : cl l0 14 / (d % 4294967296) ≤ cl l0 14 := Int.ediv_le_self _ hx
    have a3 := bnd_len hB hq (by omega : cl l0 14 / (d % 4294967296) < bnd (32 * 14))
    refine ev_bind (dsmall_ev hx hd.1 hd.2 h (by omega)) (ev_bind (rsmall_ev hx hd.1 hd.2 h (by omega) (by omega)) (ev_bind (same_ev _ _ (by simp only []; omega)) ?_))
    exact ev_pos (by simp) (ev_pos rfl (ev_pos rfl (ev_bind works04_ev (ev_now rfl))))
end Go.Proofs.Ytiakcfkcmfmdiaa.Pure

end
section
namespace Go.Proofs.Ytiakcfkcmfmdiaa.divideSmalls
open Go.Proofs.YtiakcfkcmfmdiaaW
open Go.ChangeShapes Go.WideShapes Go.ChangeAt Go.RowKit
open Go.ChangeMaps (open_string shut_string)
set_option linter.unusedVariables false
theorem own : ownKnob Try.prog.godebug = none := by kernel_rfl
theorem laidOut : laidOutB Try.prog = true := by kernel_rfl
def IsRow (k : IntKind) (w : World) (a : Option Addr) (len cap : Nat) (zs : List Int) : Prop :=
  (a = none ∧ len = 0 ∧ cap = 0 ∧ zs = []) ∨
  ∃ x, a = some x ∧ len ≤ cap ∧ cap ≤ maxLen ∧ zs.length = cap ∧ (∀ i, i < zs.length → w.cell? (x.add i) = some (.int k (zs.getD i 0))) ∧ ∀ n ∈ zs, (Lit.int k n).wf = true
set_option maxRecDepth 100000 in
theorem lifted (os : Os) (started : os.Started) (H : Type) (enc : TypeId × Value → H) :
    ReturnsInHanded {} Try.checked os 6 .any (Rows.divideSmallsSpec.pre6 enc Try.prog Try.f6 Rows.divideSmallsRow.domain false) (Rows.divideSmallsSpec.post enc Try.prog Try.f6 false true false false) := by
  refine returnsInHanded_of_change_sized (C := Try.checked) own started (by kernel_rfl) Try.func6
    (ChangeSpec.witness6 (enc := enc) (C := Try.checked) false ⟨#[], #[.slice none 0 0, .int .u64 0], []⟩ 8 (by kernel_rfl) (by kernel_rfl) (by kernel_rfl) (by kernel_rfl)) ?_
  intro W base args ds gs before hval0 hW hcnd hsz0 _
  have hsz : (DataW.weightsEach Try.prog (Try.f6.params.toList ++ Rows.divideSmallsSpec.plain.varTypes Try.prog) (ds ++ gs)).all (· ≤ reachBytes) = true := hsz0
  have hval : ∀ (j : Nat) t v, Try.f6.params[j]? = some t → args[j]? = some v → Value.okWide Try.prog W .any base t v := hval0
  have hW' := hW
  obtain ⟨p, q, hA0, hV, rfl, hfz, hnd⟩ := hW
  have hA : DataW.TrodAll enc Try.prog W 0 (fun _ => true) true Try.f6.params.toList args.toList ds p := hA0
  rw [Try.params6] at hA hval hsz
  obtain ⟨v0, vs0, d0, ds0, p0, q0, hargs, rfl, rfl, h0, r0⟩ := trodAll_cons hA
  obtain ⟨v1, vs1, d1, ds1, p1, q1, rfl, rfl, rfl, h1, r1⟩ := trodAll_cons r0
  obtain ⟨rfl, rfl, rfl⟩ := trodAll_nil r1
  obtain rfl : args = #[v0, v1] := by cases args; simp_all
  obtain ⟨rfl, rfl⟩ := trodVars_none hV
  obtain ⟨a0, len0, cap0, rfl⟩ := okWide_slice Try.underlying45 (hval 0 45 v0 rfl rfl)
  have k0 := h0
  have lt0 : ∀ x ∈ p0, x.block < W.heap.size := by obtain ⟨m, hm⟩ := k0; exact DataW.trod_lt m _ _ _ hm
  obtain ⟨z0, w0⟩ : ∃ zs, IsRow .u64 W a0 len0 cap0 zs := by
    obtain ⟨fuel, hf⟩ := h0
    rcases open_ints Try.underlying45 Try.underlying23 (by kernel_rfl) hf with ⟨hcs, _⟩ | ⟨x, l, c, zs, hcs, _, hl, hm, hz, _, hcell, hwz⟩
    · simp [Value.cells] at hcs
      obtain ⟨rfl, rfl, rfl⟩ := hcs
      exact ⟨[], .inl ⟨rfl, rfl, rfl, rfl⟩⟩
    · simp [Value.cells] at hcs
      obtain ⟨rfl, rfl, rfl⟩ := hcs
      exact ⟨zs, .inr ⟨_, rfl, hl, hm, by simpa using hz, hcell, hwz⟩⟩
  have y0 : len0 * 8 ≤ 140737488351232 := PrintWords.sized_ints hsz (j := 0) (t := 45) rfl rfl Try.underlying45 Try.underlying23 (by kernel_rfl) (by kernel_rfl) h0
  obtain ⟨a1, rfl, rfl, rfl, w1⟩ := open_int Try.underlying23 (hval 1 23 v1 rfl rfl) h1
  clear hA0 hval0 hsz0 hsz
  refine (F.triviumlaw04_DivideSmalls.walk Pure.DivideSmalls a0 len0 cap0 z0 a1 W w0 y0 w1).mono fun e W' ⟨he, bel⟩ => ?_
  subst he
  exact ⟨_, rfl, _, _, _, [], _, [], hW', trodAll_mk1 (shut_bool Try.underlying4 _), (trodAll_cons_mk (Below.trod laidOut (by kernel_rfl) (of_decide_eq_true (by kernel_rfl)) k0 bel lt0) (trodAll_cons_mk (shut_int Try.underlying23 w1) trodAll_mk0)), rfl, bel.frame _, fun h => by cases h⟩
theorem over : Rows.divideSmallsRow.holds Try.pinned (OpenSpec.ofChange Rows.divideSmallsSpec) :=
  OpenClaim.holds_of_wide 6 Try.f6 rfl rfl rfl rfl rfl rfl rfl ⟨rfl, rfl, rfl, rfl, rfl⟩ rfl rfl rfl rfl rfl (by kernel_rfl) Try.func6 (by kernel_rfl)
    (of_decide_eq_true (by kernel_rfl)) (by unfold Func.isWrapper; first | (rw [if_pos (by decide +kernel)]; kernel_rfl) | (rw [if_neg (by decide +kernel)]; exact ⟨rfl, rfl⟩))
    (fun os started H enc _ => lifted os started H enc)
theorem proved : Rows.DivideSmallsSaid := over
#print axioms proved
end Go.Proofs.Ytiakcfkcmfmdiaa.divideSmalls
namespace Go.Proofs.Ytiakcfkcmfmdiaa
theorem divideSmalls_holds : Rows.DivideSmallsSaid := divideSmalls.proved
end Go.Proofs.Ytiakcfkcmfmdiaa

end
