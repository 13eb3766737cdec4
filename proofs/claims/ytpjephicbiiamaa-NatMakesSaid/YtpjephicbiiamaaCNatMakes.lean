/- What the Go code does, function by function: out of my run of the printer (wip/mp.py), mended by wip/post.py. -/
import Derived.Laws.BitsLemmas
import Derived.Test.YtpjephicbiiamaaRows
import Derived.WalkKit
import Derived.ProofKit
import Derived.OpenShut
import Derived.ShutString
import Derived.ChangeOld
import Derived.Below
import Derived.SizedLaws
import Derived.Test.YtpjephicbiiamaaCNatMakes2
set_option linter.unusedVariables false
set_option linter.unusedSimpArgs false
set_option linter.unusedSectionVars false
section
namespace Go.Proofs.Ytpjephicbiiamaa.A
set_option linter.unusedVariables false
set_option linter.unusedSimpArgs false
open Go Go.RowKit Go.Proofs.YtpjephicbiiamaaW.PrintWords Go.Proofs.YtpjephicbiiamaaW.PrintLast Go.Proofs.YtpjephicbiiamaaW.PrintMore
section
variable {α β : Type} {f g : Nat → Option α} {r : α}
theorem ev_pos {c : Prop} [Decidable c] (h : c) (k : Ev f r) : Ev (fun n => if c then f n else g n) r := by
  simpa only [if_pos h] using k
theorem ev_neg {c : Prop} [Decidable c] (h : ¬ c) (k : Ev g r) : Ev (fun n => if c then f n else g n) r := by
  simpa only [if_neg h] using k
theorem ev_ite {c : Prop} [Decidable c] (hp : c → Ev f r) (hn : ¬ c → Ev g r) : Ev (fun n => if c then f n else g n) r := by
  by_cases h : c
  · exact ev_pos h (hp h)
  · exact ev_neg h (hn h)
theorem ev_now {a : α} (h : a = r) : Ev (fun _ => some a) r := ⟨0, fun _ _ => by rw [h]⟩
theorem ev_bind {a : β} {g : Nat → Option β} {f : Nat → β → Option α} (h : Ev g a) (k : Ev (fun n => f n a) r) : Ev (fun n => (g n).bind (f n)) r := h.bind k
end
theorem w64 {x : Int} (h0 : -9223372036854775808 ≤ x) (h1 : x ≤ 9223372036854775807) : wrap64 x = x := by unfold wrap64; omega
theorem wu64 {x : Int} (h0 : 0 ≤ x) (h1 : x ≤ 18446744073709551615) : IntKind.u64.wrap x = x := by
  have e : IntKind.u64.wrap x = x % 18446744073709551616 := by simp [IntKind.wrap, IntKind.bits, IntKind.signed]
  rw [e]; omega
theorem bit1 {x : Int} (h0 : 0 ≤ x) (h1 : x ≤ 18446744073709551615) : Go.bits .and .u64 x 1 = x % 2 := by
  have := bits_mask .u64 64 (by decide) (fun n a b => wu64 a (by omega)) 1 (by decide) x h0 (by omega)
  simpa using this
theorem wf_u64 {x : Int} (h : (Lit.int .u64 x).wf = true) : 0 ≤ x ∧ x ≤ 18446744073709551615 := by
  simp [Lit.wf, IntKind.min, IntKind.max, IntKind.signed, IntKind.bits] at h; omega
theorem rd_nat (xs : List Int) (i : Nat) : rd xs (i : Int) = xs.getD i 0 := by simp [rd]
def val (b : Int) : List Int → Int
  | [] => 0
  | x :: xs => x + b * val b xs
def Dig (b : Int) (xs : List Int) : Prop := ∀ x ∈ xs, 0 ≤ x ∧ x < b
theorem Dig.nil {b : Int} : Dig b [] := fun _ h => by cases h
theorem Dig.cons {b x : Int} {xs : List Int} (h0 : 0 ≤ x) (h1 : x < b) (h : Dig b xs) : Dig b (x :: xs) := by
  intro y hy
  rcases List.mem_cons.1 hy with rfl | hy
  · exact ⟨h0, h1⟩
  · exact h y hy
theorem Dig.head {b x : Int} {xs : List Int} (h : Dig b (x :: xs)) : 0 ≤ x ∧ x < b := h x (List.mem_cons_self ..)
theorem Dig.tail {b x : Int} {xs : List Int} (h : Dig b (x :: xs)) : Dig b xs := fun y hy => h y (List.mem_cons_of_mem _ hy)
theorem Dig.append {b : Int} {xs ys : List Int} (h : Dig b xs) (k : Dig b ys) : Dig b (xs ++ ys) := by
  intro y hy
  rcases List.mem_append.1 hy with hy | hy
  · exact h y hy
  · exact k y hy
theorem Dig.rd {b : Int} {xs : List Int} (h : Dig b xs) {i : Int} (h0 : 0 ≤ i) (h1 : i < xs.length) : 0 ≤ rd xs i ∧ rd xs i < b := by
  obtain ⟨j, rfl⟩ := Int.eq_ofNat_of_zero_le h0
  have hj : j < xs.length := by omega
  rw [rd_nat, List.getD, List.getElem?_eq_getElem hj]
  exact h _ (List.getElem_mem hj)
theorem Dig.take {b : Int} {xs : List Int} (h : Dig b xs) (i : Nat) : Dig b (xs.take i) := fun y hy => h y (List.mem_of_mem_take hy)
theorem Dig.mono {b c : Int} {xs : List Int} (h : Dig b xs) (hc : b ≤ c) : Dig c xs := fun x hx => ⟨(h x hx).1, by have := (h x hx).2; omega⟩
theorem val_append (b : Int) (xs ys : List Int) : val b (xs ++ ys) = val b xs + b ^ xs.length * val b ys := by
  induction xs with
  | nil => simp [val]
  | cons x xs ih =>
    simp only [List.cons_append, val, ih, List.length_cons, Int.pow_succ, Int.mul_add]
    rw [Int.mul_comm (b ^ xs.length) b, Int.mul_assoc, Int.add_assoc]
theorem val_nonneg {b : Int} (hb : 0 ≤ b) : ∀ {xs : List Int}, Dig b xs → 0 ≤ val b xs
  | [], _ => Int.le_refl _
  | x :: xs, h => by
    have := val_nonneg hb h.tail
    have := Int.mul_nonneg hb this
    have := h.head.1
    simp only [val]; omega
theorem val_lt {b : Int} (hb : 0 < b) : ∀ {xs : List Int}, Dig b xs → val b xs < b ^ xs.length
  | [], _ => by simp [val]
  | x :: xs, h => by
    have h1 := val_lt hb h.tail
    have h2 : b * (val b xs + 1) ≤ b * b ^ xs.length := Int.mul_le_mul_of_nonneg_left (by omega) (by omega)
    have := h.head.2
    rw [Int.mul_add] at h2
    simp only [val, List.length_cons, Int.pow_succ]
    rw [Int.mul_comm (b ^ xs.length) b]
    omega
def dgN (b : Nat) (n : Nat) : List Int := if h : 2 ≤ b ∧ 0 < n then ((n % b : Nat) : Int) :: dgN b (n / b) else []
termination_by n
decreasing_by exact Nat.div_lt_self h.2 h.1
def dg (b n : Int) : List Int := dgN b.toNat n.toNat
theorem dgN_zero (b : Nat) : dgN b 0 = [] := by rw [dgN, dif_neg (by omega)]
theorem dgN_pos {b n : Nat} (hb : 2 ≤ b) (hn : 0 < n) : dgN b n = ((n % b : Nat) : Int) :: dgN b (n / b) := by rw [dgN, dif_pos ⟨hb, hn⟩]
theorem dg_zero (b : Int) : dg b 0 = [] := dgN_zero _
theorem dg_pos {b n : Int} (hb : 2 ≤ b) (hn : 0 < n) : dg b n = n % b :: dg b (n / b) := by
  obtain ⟨c, rfl⟩ := Int.eq_ofNat_of_zero_le (show (0 : Int) ≤ b by omega)
  obtain ⟨m, rfl⟩ := Int.eq_ofNat_of_zero_le (show (0 : Int) ≤ n by omega)
  have e : ((m : Int) / (c : Int)).toNat = m / c := by rw [← Int.natCast_ediv]; rfl
  unfold dg
  rw [e]
  simp only [Int.toNat_natCast]
  rw [dgN_pos (by omega) (by omega)]
  simp
theorem dg_ind {b : Int} (hb : 2 ≤ b) {P : Int → Prop} (h0 : P 0) (h1 : ∀ n, 0 < n → P (n / b) → P n) : ∀ n : Int, 0 ≤ n → P n := by
  have H : ∀ m : Nat, ∀ n : Int, 0 ≤ n → n.toNat = m → P n := by
    intro m
    induction m using Nat.strongRecOn with
    | ind m ih =>
      intro n hn hm
      by_cases hz : n = 0
      · rw [hz]; exact h0
      · have hl : n / b < n := Int.ediv_lt_of_lt_mul (by omega) (by
          have : n * 2 ≤ n * b := Int.mul_le_mul_of_nonneg_left hb hn
          omega)
        have hg : 0 ≤ n / b := Int.ediv_nonneg hn (by omega)
        exact h1 n (by omega) (ih _ (by omega) _ hg rfl)
  exact fun n hn => H _ n hn rfl
theorem dg_dig {b : Int} (hb : 2 ≤ b) (n : Int) (hn : 0 ≤ n) : Dig b (dg b n) := by
  refine dg_ind hb (P := fun n => Dig b (dg b n)) ?_ ?_ n hn
  · rw [dg_zero]; exact Dig.nil
  · intro n hn ih
    rw [dg_pos hb hn]
    exact ih.cons (Int.emod_nonneg _ (by omega)) (Int.emod_lt_of_pos _ (by omega))
theorem val_dg {b : Int} (hb : 2 ≤ b) (n : Int) (hn : 0 ≤ n) : val b (dg b n) = n := by
  refine dg_ind hb (P := fun n => val b (dg b n) = n) ?_ ?_ n hn
  · rw [dg_zero]; rfl
  · intro n hn ih
    rw [dg_pos hb hn]
    simp only [val, ih]
    have := Int.emod_add_mul_ediv n b
    omega
def strip (xs : List Int) : List Int := match xs with
  | [] => []
  | x :: xs => match strip xs with
    | [] => if x = 0 then [] else [x]
    | y :: ys => x :: y :: ys
theorem strip_dg {b : Int} (hb : 2 ≤ b) : ∀ {xs : List Int}, Dig b xs → strip xs = dg b (val b xs)
  | [], _ => by rw [val, dg_zero]; rfl
  | x :: xs, h => by
    have ih := strip_dg hb h.tail
    have hx := h.head
    have hv := val_nonneg (by omega) h.tail
    have hm : 0 ≤ b * val b xs := Int.mul_nonneg (by omega) hv
    have e1 : (x + b * val b xs) % b = x := by rw [Int.add_mul_emod_self_left]; exact Int.emod_eq_of_lt hx.1 hx.2
    have e2 : (x + b * val b xs) / b = val b xs := by rw [Int.add_mul_ediv_left _ _ (by omega), Int.ediv_eq_zero_of_lt hx.1 hx.2]; omega
    rw [strip, val]
    by_cases hz : val b xs = 0
    · rw [hz, dg_zero] at ih
      rw [ih, hz, Int.mul_zero, Int.add_zero]
      by_cases hx0 : x = 0
      · rw [hx0, dg_zero]; rfl
      · rw [dg_pos hb (by omega), Int.emod_eq_of_lt hx.1 hx.2, Int.ediv_eq_zero_of_lt hx.1 hx.2, dg_zero]
        simp [hx0]
    · have hmv : 0 < val b xs := by omega
      have hp : 0 < b * val b xs := Int.mul_pos (by omega) hmv
      rw [dg_pos hb (show 0 < x + b * val b xs by omega), e1, e2, ih, dg_pos hb hmv]
theorem dg_len_le {b : Int} (hb : 2 ≤ b) (k : Nat) : ∀ n : Int, 0 ≤ n → n < b ^ k → (dg b n).length ≤ k := by
  induction k with
  | zero => intro n h0 h1; have : n = 0 := by simp at h1; omega
            rw [this, dg_zero]; simp
  | succ k ih =>
    intro n h0 h1
    by_cases hz : n = 0
    · rw [hz, dg_zero]; simp
    · rw [dg_pos hb (by omega), List.length_cons]
      have := ih (n / b) (Int.ediv_nonneg h0 (by omega)) (Int.ediv_lt_of_lt_mul (by omega) (by rw [← Int.pow_succ]; exact h1))
      omega
theorem pow_mono {b : Int} (hb : 1 ≤ b) {m n : Nat} (h : m ≤ n) : b ^ m ≤ b ^ n := by
  obtain ⟨d, rfl⟩ := Nat.exists_eq_add_of_le h
  rw [Int.pow_add]
  have h1 : 0 < b ^ m := Int.pow_pos (by omega)
  have h2 : 0 < b ^ d := Int.pow_pos (by omega)
  have := Int.mul_le_mul_of_nonneg_left (show 1 ≤ b ^ d by omega) (Int.le_of_lt h1)
  omega
theorem dg_len_ge {b : Int} (hb : 2 ≤ b) (k : Nat) (n : Int) (h0 : 0 ≤ n) (h1 : b ^ k ≤ n) : k < (dg b n).length := by
  have hl := val_lt (b := b) (by omega) (dg_dig hb n h0)
  rw [val_dg hb n h0] at hl
  apply Nat.lt_of_not_le
  intro hle
  have : b ^ (dg b n).length ≤ b ^ k := pow_mono (by omega) hle
  omega
theorem dg_inj {b m n : Int} (hb : 2 ≤ b) (hm : 0 ≤ m) (hn : 0 ≤ n) (h : dg b m = dg b n) : m = n := by
  rw [← val_dg hb m hm, ← val_dg hb n hn, h]
theorem dg_nil_iff {b n : Int} (hb : 2 ≤ b) (hn : 0 ≤ n) : dg b n = [] ↔ n = 0 := by
  constructor
  · intro h
    exact dg_inj hb hn (Int.le_refl _) (by rw [h, dg_zero])
  · rintro rfl; exact dg_zero _
end Go.Proofs.Ytpjephicbiiamaa.A

end
section
namespace Go.Proofs.Ytpjephicbiiamaa.B
set_option linter.unusedVariables false
set_option linter.unusedSimpArgs false
open Go Go.RowKit Go.Proofs.YtpjephicbiiamaaW.PrintWords Go.Proofs.YtpjephicbiiamaaW.PrintLast Go.Proofs.YtpjephicbiiamaaW.PrintMore Go.Proofs.Ytpjephicbiiamaa.F Go.Proofs.Ytpjephicbiiamaa.A
abbrev B : Int := 4294967296
abbrev D : Int := 10000
theorem ev_succ {α : Type} {g : Nat → Option α} {r : α} (h : Ev (fun k => g (k + 1)) r) : Ev g r := by
  obtain ⟨K, hK⟩ := h
  refine ⟨K + 1, fun k hk => ?_⟩
  obtain ⟨m, rfl⟩ : ∃ m, k = m + 1 := ⟨k - 1, by omega⟩
  exact hK m (by omega)
theorem strip_snoc_zero (xs : List Int) : strip (xs ++ [0]) = strip xs := by
  induction xs with
  | nil => rfl
  | cons x xs ih => rw [List.cons_append, strip, strip, ih]
theorem strip_snoc (xs : List Int) {y : Int} (hy : y ≠ 0) : strip (xs ++ [y]) = xs ++ [y] := by
  induction xs with
  | nil => simp [strip, hy]
  | cons x xs ih =>
    rw [List.cons_append, strip, ih]
    cases xs <;> rfl
theorem take_succ_rd (xs : List Int) (i : Nat) (h : i < xs.length) : xs.take (i + 1) = xs.take i ++ [rd xs i] := by
  rw [List.take_succ_eq_append_getElem h, rd_nat, List.getD, List.getElem?_eq_getElem h]; rfl
theorem cast_pred (i : Nat) : ((i + 1 : Nat) : Int) - 1 = i := by omega
theorem cast_succ (i : Nat) : (i : Int) + 1 = ((i + 1 : Nat) : Int) := by omega
theorem trim_l0 (xs : List Int) (hl : xs.length < 17592186044416) : ∀ i : Nat, i ≤ xs.length → Ev (fun k => nat_trim.l0 k xs (i : Int)) (strip (xs.take i)) := by
  intro i
  induction i with
  | zero =>
    intro h
    refine ev_succ ?_
    simp only [nat_trim.l0]
    refine ev_neg (by omega) (ev_pos (by omega) (ev_pos (by omega) (ev_now ?_)))
    rfl
  | succ i ih =>
    intro h
    refine ev_succ ?_
    simp only [nat_trim.l0, cast_pred, Int.toNat_natCast]
    simp (disch := omega) only [w64]
    refine ev_pos (by omega) (ev_pos (by omega) (ev_pos (by omega) ?_))
    rw [take_succ_rd xs i (by omega)]
    refine ev_ite (fun hz => ?_) (fun hz => ?_)
    · rw [hz, strip_snoc_zero]; exact ih (by omega)
    · refine ev_pos (by omega) (ev_pos (by omega) (ev_now ?_))
      rw [strip_snoc _ hz]
theorem trim_ev (xs : List Int) (hl : xs.length < 17592186044416) : Ev (fun k => nat_trim.f k xs) (strip xs) := by
  have := trim_l0 xs hl xs.length (Nat.le_refl _)
  rwa [List.take_length] at this
theorem rtrim_l0 (xs : List Int) (hl : xs.length < 17592186044416) : ∀ i : Nat, i ≤ xs.length → Ev (fun k => triviumref02_Trim.l0 k xs (i : Int)) (strip (xs.take i)) := by
  intro i
  induction i with
  | zero =>
    intro h
    refine ev_succ ?_
    simp only [triviumref02_Trim.l0, Option.bind_some]
    refine ev_neg (by omega) (ev_pos (by omega) (ev_pos (by omega) (ev_pos (by simp; try omega) (ev_now ?_))))
    rfl
  | succ i ih =>
    intro h
    refine ev_succ ?_
    simp only [triviumref02_Trim.l0, Option.bind_some, cast_pred, Int.toNat_natCast]
    simp (disch := omega) only [w64]
    refine ev_pos (by omega) (ev_pos (by omega) (ev_pos (by omega) ?_))
    rw [take_succ_rd xs i (by omega)]
    refine ev_ite (fun hz => ?_) (fun hz => ?_)
    · rw [hz, strip_snoc_zero]; exact ih (by omega)
    · refine ev_pos (by omega) (ev_pos (by omega) (ev_pos (by simp [List.length_take]; omega) (ev_now ?_)))
      rw [strip_snoc _ hz]; rfl
theorem rtrim_ev (xs : List Int) (hl : xs.length < 17592186044416) : Ev (fun k => triviumref02_Trim.f k xs) (strip xs) := by
  have := rtrim_l0 xs hl xs.length (Nat.le_refl _)
  rwa [List.take_length] at this
theorem clean_l1 : ∀ n : Nat, ∀ xs : List Int, xs.length = n → xs.length < 17592186044416 → Ev (fun k => triviumref02_Clean.l1 k xs) (strip xs) := by
  intro n
  induction n with
  | zero =>
    intro xs hn hl
    refine ev_succ ?_
    simp only [triviumref02_Clean.l1]
    refine ev_neg (by omega) (ev_now ?_)
    rw [List.length_eq_zero_iff.1 hn]; rfl
  | succ n ih =>
    intro xs hn hl
    have e : xs = xs.take n ++ [rd xs n] := by rw [← take_succ_rd xs n (by omega), ← hn, List.take_length]
    refine ev_succ ?_
    simp only [triviumref02_Clean.l1]
    rw [hn]
    simp only [cast_pred, Int.toNat_natCast]
    simp (disch := omega) only [w64, Int.toNat_natCast]
    refine ev_pos (by omega) (ev_pos (by omega) (ev_pos (by omega) ?_))
    refine ev_ite (fun hz => ?_) (fun hz => ?_)
    · rw [hz] at e
      refine ev_pos (by omega) ?_
      conv => rhs; rw [e, strip_snoc_zero]
      exact ih _ (by rw [List.length_take]; omega) (by rw [List.length_take]; omega)
    · refine ev_now ?_
      conv => rhs; rw [e, strip_snoc _ hz]
      exact e
def cl (xs : List Int) (m : Nat) : Int := val B ((xs.take m).map (· % B))
theorem dig_map (xs : List Int) : Dig B (xs.map (· % B)) := by
  intro y hy
  obtain ⟨x, -, rfl⟩ := List.mem_map.1 hy
  exact ⟨Int.emod_nonneg _ (by decide), Int.emod_lt_of_pos _ (by decide)⟩
theorem cl_nonneg (xs : List Int) (m : Nat) : 0 ≤ cl xs m := val_nonneg (by decide) (dig_map _)
theorem cl_lt (xs : List Int) (m : Nat) : cl xs m < B ^ m := by
  have h := val_lt (b := B) (by decide) (dig_map (xs.take m))
  have h2 : ((xs.take m).map (· % B)).length ≤ m := by rw [List.length_map, List.length_take]; omega
  exact Int.lt_of_lt_of_le h (pow_mono (by decide) h2)
theorem clean_l0 (xs : List Int) (m : Nat) (hu : ∀ x ∈ xs, 0 ≤ x) (hl : xs.length < 17592186044416) : ∀ d i : Nat, min xs.length m - i = d → i ≤ min xs.length m →
    Ev (fun k => triviumref02_Clean.l0 k xs m ((xs.take i).map (· % B)) i) (strip ((xs.take m).map (· % B))) := by
  intro d
  induction d with
  | zero =>
    intro i hd hi
    have e : xs.take i = xs.take m := by
      rcases Nat.le_total xs.length m with h | h
      · rw [List.take_of_length_le (show xs.length ≤ i by omega), List.take_of_length_le h]
      · rw [show i = m by omega]
    have key : Ev (fun k => triviumref02_Clean.j1 k ((xs.take i).map (· % B))) (strip ((xs.take m).map (· % B))) := by
      refine ev_succ ?_
      simp only [triviumref02_Clean.j1]
      rw [e]
      exact clean_l1 _ _ rfl (by rw [List.length_map, List.length_take]; omega)
    refine ev_succ ?_
    simp only [triviumref02_Clean.l0]
    refine ev_ite (fun h1 => ?_) (fun h1 => key)
    exact ev_neg (by omega) key
  | succ d ih =>
    intro i hd hi
    refine ev_succ ?_
    simp only [triviumref02_Clean.l0]
    simp (disch := omega) only [w64]
    have hr : 0 ≤ rd xs i := by
      rw [rd_nat, List.getD, List.getElem?_eq_getElem (show i < xs.length by omega)]
      exact hu _ (List.getElem_mem _)
    refine ev_pos (by omega) (ev_pos (by omega) (ev_pos (by omega) (ev_pos (by rw [List.length_map, List.length_take]; omega) ?_)))
    have := ih (i + 1) (by omega) (by omega)
    rw [take_succ_rd xs i (by omega), List.map_append] at this
    rw [cast_succ, Int.tmod_eq_emod_of_nonneg hr]
    exact this
theorem clean_ev (xs : List Int) (m : Nat) (hu : ∀ x ∈ xs, 0 ≤ x) (hl : xs.length < 17592186044416) : Ev (fun k => triviumref02_Clean.f k xs m) (dg B (cl xs m)) := by
  have := clean_l0 xs m hu hl _ 0 rfl (by omega)
  rw [strip_dg (by decide) (dig_map _)] at this
  exact this
theorem same_l0 (xs ys : List Int) (hl : xs.length < 17592186044416) (he : xs.length = ys.length) : ∀ d i : Nat, xs.length - i = d → i ≤ xs.length → xs.take i = ys.take i →
    Ev (fun k => triviumref02_Same.l0 k xs ys i) (decide (xs = ys)) := by
  intro d
  induction d with
  | zero =>
    intro i hd hi hp
    refine ev_succ ?_
    simp only [triviumref02_Same.l0]
    refine ev_neg (by omega) (ev_now ?_)
    rw [List.take_of_length_le (by omega), List.take_of_length_le (by omega)] at hp
    simp [hp]
  | succ d ih =>
    intro i hd hi hp
    refine ev_succ ?_
    simp only [triviumref02_Same.l0]
    simp (disch := omega) only [w64]
    refine ev_pos (by omega) (ev_pos (by omega) (ev_pos (by omega) ?_))
    refine ev_ite (fun hr => ?_) (fun hr => ev_now ?_)
    · rw [cast_succ]
      exact ih (i + 1) (by omega) (by omega) (by rw [take_succ_rd xs i (by omega), take_succ_rd ys i (by omega), hp, hr])
    · have : xs ≠ ys := fun h => hr (by rw [h])
      simp [this]
theorem same_ev (xs ys : List Int) (hl : xs.length < 17592186044416) : Ev (fun k => triviumref02_Same.f k xs ys) (decide (xs = ys)) := by
  unfold triviumref02_Same.f
  refine ev_ite (fun h => ?_) (fun h => ev_now ?_)
  · exact same_l0 xs ys hl (by omega) _ 0 rfl (by omega) rfl
  · have : xs ≠ ys := fun e => h (by rw [e])
    simp [this]
def cmpI (x y : Int) : Int := if x < y then -1 else if y < x then 1 else 0
theorem val_lt_top {b : Int} (hb : 2 ≤ b) {p q s : List Int} {x y : Int} (hp : Dig b p) (hq : Dig b q) (hl : p.length = q.length) (hxy : x < y) :
    val b (p ++ x :: s) < val b (q ++ y :: s) := by
  rw [val_append, val_append, hl]
  have h1 := val_lt (b := b) (by omega) hp
  have h2 := val_nonneg (b := b) (by omega) hq
  have hpw : 0 < b ^ q.length := Int.pow_pos (by omega)
  have h3 : b ^ q.length * (val b (x :: s) + 1) ≤ b ^ q.length * val b (y :: s) := Int.mul_le_mul_of_nonneg_left (by simp only [val]; omega) (Int.le_of_lt hpw)
  rw [hl] at h1
  rw [Int.mul_add] at h3
  omega
theorem split_at (xs : List Int) (i : Nat) (h : i < xs.length) : xs = xs.take i ++ rd xs i :: xs.drop (i + 1) := by
  conv => lhs; rw [← List.take_append_drop (i + 1) xs, take_succ_rd xs i h]
  simp
theorem cmp_l0 {b : Int} (hb : 2 ≤ b) (f : Nat → List Int → List Int → Int → Option Int)
    (hf : ∀ k x0 x1 x5, f (k + 1) x0 x1 x5 = if x5 ≥ 0 then (if 0 ≤ x5 then (if x5 < (x0.length : Int) then (if x5 < (x1.length : Int) then (if (rd x0 x5) < (rd x1 x5) then (some (-1)) else (if (rd x0 x5) > (rd x1 x5) then (some 1) else (f k x0 x1 (wrap64 (x5 - 1))))) else (none)) else (none)) else (none)) else (some 0))
    (xs ys : List Int) (hx : Dig b xs) (hy : Dig b ys) (hl : xs.length < 17592186044416) (he : xs.length = ys.length) : ∀ i : Nat, i ≤ xs.length → xs.drop i = ys.drop i →
    Ev (fun k => f k xs ys ((i : Int) - 1)) (cmpI (val b xs) (val b ys)) := by
  intro i
  induction i with
  | zero =>
    intro hi hp
    refine ev_succ ?_
    simp only [hf]
    refine ev_neg (by omega) (ev_now ?_)
    simp only [List.drop_zero] at hp
    simp [cmpI, hp]
  | succ i ih =>
    intro hi hp
    refine ev_succ ?_
    simp only [hf, cast_pred]
    simp (disch := omega) only [w64]
    refine ev_pos (by omega) (ev_pos (by omega) (ev_pos (by omega) (ev_pos (by omega) ?_)))
    have ex := split_at xs i (by omega)
    have ey := split_at ys i (by omega)
    rw [← hp] at ey
    refine ev_ite (fun hr => ev_now ?_) (fun hr => ev_ite (fun hr' => ev_now ?_) (fun hr' => ?_))
    · have := val_lt_top hb (s := xs.drop (i + 1)) (hx.take i) (hy.take i) (by simp; omega) hr
      rw [← ex, ← ey] at this
      simp [cmpI, this]
    · have := val_lt_top hb (s := xs.drop (i + 1)) (hy.take i) (hx.take i) (by simp; omega) hr'
      rw [← ex, ← ey] at this
      simp [cmpI, this, Int.not_lt.2 (Int.le_of_lt this)]
    · refine ih (by omega) ?_
      have e : rd xs i = rd ys i := by omega
      have gx : xs.drop i = rd xs i :: xs.drop (i + 1) := by
        rw [List.drop_eq_getElem_cons (show i < xs.length by omega), rd_nat, List.getD, List.getElem?_eq_getElem (show i < xs.length by omega)]; rfl
      have gy : ys.drop i = rd ys i :: ys.drop (i + 1) := by
        rw [List.drop_eq_getElem_cons (show i < ys.length by omega), rd_nat, List.getD, List.getElem?_eq_getElem (show i < ys.length by omega)]; rfl
      rw [gx, gy, e, hp]
theorem dg_lt_of_len {b x y : Int} (hb : 2 ≤ b) (hx : 0 ≤ x) (hy : 0 ≤ y) (h : (dg b x).length < (dg b y).length) : x < y := by
  apply Int.lt_of_not_ge
  intro hge
  have h1 := val_lt (b := b) (by omega) (dg_dig hb x hx)
  rw [val_dg hb x hx] at h1
  have := dg_len_le hb _ y hy (Int.lt_of_le_of_lt hge h1)
  omega
theorem rcmp_ev {x y : Int} (hx : 0 ≤ x) (hy : 0 ≤ y) (hl : (dg D x).length < 17592186044416) : Ev (fun k => triviumref02_Cmp.f k (dg D x) (dg D y)) (cmpI x y) := by
  have hb : (2 : Int) ≤ D := by decide
  unfold triviumref02_Cmp.f
  refine ev_ite (fun h => ?_) (fun h => ev_ite (fun h' => ev_now ?_) (fun h' => ev_now ?_))
  · simp (disch := omega) only [w64]
    have := cmp_l0 hb triviumref02_Cmp.l0 (fun _ _ _ _ => rfl) (dg D x) (dg D y) (dg_dig hb x hx) (dg_dig hb y hy) hl (by omega) _ (Nat.le_refl _) (by rw [List.drop_length, List.drop_eq_nil_of_le (by omega)])
    rwa [val_dg hb x hx, val_dg hb y hy] at this
  · have := dg_lt_of_len hb hx hy (by omega)
    simp [cmpI, this]
  · have := dg_lt_of_len hb hy hx (by omega)
    simp [cmpI, this, Int.not_lt.2 (Int.le_of_lt this)]
end Go.Proofs.Ytpjephicbiiamaa.B

end
section
namespace Go.Proofs.Ytpjephicbiiamaa.B
set_option linter.unusedVariables false
set_option linter.unusedSimpArgs false
open Go Go.RowKit Go.Proofs.YtpjephicbiiamaaW.PrintWords Go.Proofs.YtpjephicbiiamaaW.PrintLast Go.Proofs.YtpjephicbiiamaaW.PrintMore Go.Proofs.Ytpjephicbiiamaa.F Go.Proofs.Ytpjephicbiiamaa.A
theorem hD : (2 : Int) ≤ D := by decide
theorem hB : (2 : Int) ≤ B := by decide
theorem pow_base_mono {a b : Int} (ha : 0 ≤ a) (h : a ≤ b) : ∀ k : Nat, a ^ k ≤ b ^ k
  | 0 => by simp
  | k + 1 => by
    rw [Int.pow_succ, Int.pow_succ]
    have h1 : 0 ≤ a ^ k := Int.pow_nonneg ha
    exact Int.mul_le_mul (pow_base_mono ha h k) h ha (by have := pow_base_mono ha h k; omega)
theorem len_le {b x : Int} (hb : 2 ≤ b) {K : Nat} (h0 : 0 ≤ x) (h1 : x < 2 ^ K) : (dg b x).length ≤ K :=
  dg_len_le hb K x h0 (Int.lt_of_lt_of_le h1 (pow_base_mono (by decide) hb K))
theorem ediv_tdiv {a b : Int} (h : 0 ≤ a) : Int.tdiv a b = a / b := Int.tdiv_eq_ediv_of_nonneg h
theorem emod_tmod {a b : Int} (h : 0 ≤ a) : Int.tmod a b = a % b := Int.tmod_eq_emod_of_nonneg h
theorem drop_rd (xs : List Int) (i : Nat) (h : i < xs.length) : xs.drop i = rd xs i :: xs.drop (i + 1) := by
  rw [List.drop_eq_getElem_cons h, rd_nat, List.getD, List.getElem?_eq_getElem h]; rfl
theorem rd_nonneg_lt {b : Int} {xs : List Int} (h : Dig b xs) {i : Nat} (hi : i < xs.length) : 0 ≤ rd xs i ∧ rd xs i < b := h.rd (by omega) (by omega)
theorem muladd_l1 : ∀ c : Int, 0 ≤ c → ∀ out : List Int, Dig D out → c ≤ 9223372036854775807 → out.length + (dg D c).length < 17592186044416 →
    Ev (fun k => triviumref02_MulAdd.l1 k c out) (dg D (val D out + D ^ out.length * c)) := by
  refine dg_ind hD ?_ ?_
  · intro out ho hc hl
    refine ev_succ ?_
    simp only [triviumref02_MulAdd.l1]
    refine ev_neg (by omega) (ev_bind (rtrim_ev out (by omega)) (ev_now ?_))
    rw [strip_dg hD ho, Int.mul_zero, Int.add_zero]
  · intro c hc ih out ho hc2 hl
    have e : (dg D c).length = (dg D (c / D)).length + 1 := by rw [dg_pos hD hc]; rfl
    simp only [D] at *
    refine ev_succ ?_
    simp only [triviumref02_MulAdd.l1]
    rw [ediv_tdiv (by omega), emod_tmod (by omega)]
    simp (disch := omega) only [w64]
    refine ev_pos hc (ev_pos (by omega) ?_)
    have := ih (out ++ [c % 10000]) (ho.append (Dig.nil.cons (by omega) (by omega))) (by omega) (by rw [List.length_append]; simp; omega)
    rw [val_append, List.length_append] at this
    have ev : val 10000 out + 10000 ^ out.length * val 10000 [c % 10000] + 10000 ^ (out.length + [c % 10000].length) * (c / 10000) = val 10000 out + 10000 ^ out.length * c := by
      have h2 : 10000 ^ (out.length + [c % 10000].length) * (c / 10000) = 10000 ^ out.length * (10000 * (c / 10000)) := by
        rw [Int.pow_add, List.length_singleton, Int.pow_one, Int.mul_assoc]
      rw [h2, Int.add_assoc, ← Int.mul_add]
      congr 2
      simp only [val]; omega
    rw [ev] at this
    exact this
theorem muladd_l0 (xs : List Int) (m : Int) (hx : Dig D xs) (hm0 : 0 ≤ m) (hm : m ≤ B) (hl : xs.length < 1099511627776) : ∀ d i : Nat, xs.length - i = d → i ≤ xs.length → ∀ (c : Int) (out : List Int), 0 ≤ c → c ≤ B → Dig D out → out.length = i →
    Ev (fun k => triviumref02_MulAdd.l0 k xs m c out i) (dg D (val D out + D ^ out.length * (c + m * val D (xs.drop i)))) := by
  intro d
  induction d with
  | zero =>
    intro i hd hi c out hc0 hc ho hlo
    refine ev_succ ?_
    simp only [triviumref02_MulAdd.l0]
    rw [List.drop_eq_nil_of_le (by omega), val, Int.mul_zero, Int.add_zero]
    have hcl : (dg D c).length ≤ 9 := dg_len_le hD 9 c hc0 (by simp only [D, B] at *; omega)
    exact ev_neg (by omega) (muladd_l1 c hc0 out ho (by simp only [B] at hc; omega) (by omega))
  | succ d ih =>
    intro i hd hi c out hc0 hc ho hlo
    have hr := rd_nonneg_lt hx (show i < xs.length by omega)
    have hp0 : 0 ≤ rd xs i * m := Int.mul_nonneg hr.1 hm0
    have hp1 : rd xs i * m ≤ 9999 * m := Int.mul_le_mul_of_nonneg_right (by simp only [D] at hr; omega) hm0
    refine ev_succ ?_
    simp only [triviumref02_MulAdd.l0]
    simp only [B, D] at *
    simp (disch := omega) only [w64, ediv_tdiv, emod_tmod]
    refine ev_pos (by omega) (ev_pos (by omega) (ev_pos (by omega) ?_))
    have hq0 : 0 ≤ c + rd xs i * m := by omega
    generalize hp : rd xs i * m = p at *
    have := ih (i + 1) (by omega) (by omega) ((c + p) / 10000) (out ++ [(c + p) % 10000]) (by omega) (by omega) (ho.append (Dig.nil.cons (by omega) (by omega))) (by rw [List.length_append, hlo]; rfl)
    rw [cast_succ]
    have ev : val 10000 (out ++ [(c + p) % 10000]) + 10000 ^ (out ++ [(c + p) % 10000]).length * ((c + p) / 10000 + m * val 10000 (xs.drop (i + 1))) = val 10000 out + 10000 ^ out.length * (c + m * val 10000 (xs.drop i)) := by
      rw [val_append, List.length_append, Int.pow_add, drop_rd xs i (by omega)]
      simp only [val, List.length_cons, List.length_nil, Int.mul_zero, Int.add_zero, Nat.zero_add, Int.pow_succ, Int.pow_zero, Int.one_mul]
      rw [Int.mul_assoc, Int.add_assoc, ← Int.mul_add]
      congr 2
      have : m * (rd xs ↑i + 10000 * val 10000 (xs.drop (i + 1))) = p + 10000 * (m * val 10000 (xs.drop (i + 1))) := by
        rw [Int.mul_add, Int.mul_comm m, hp, ← Int.mul_assoc, Int.mul_comm m 10000, Int.mul_assoc]
      rw [this]
      omega
    rw [ev] at this
    exact this
theorem muladd_ev {x m c : Int} (hx : 0 ≤ x) (hm0 : 0 ≤ m) (hm : m ≤ B) (hc0 : 0 ≤ c) (hc : c ≤ B) (hl : (dg D x).length < 1099511627776) :
    Ev (fun k => triviumref02_MulAdd.f k (dg D x) m c) (dg D (x * m + c)) := by
  have := muladd_l0 (dg D x) m (dg_dig hD x hx) hm0 hm hl _ 0 rfl (by omega) c [] hc0 hc Dig.nil rfl
  rw [List.drop_zero, val_dg hD x hx] at this
  have e : val D [] + D ^ ([] : List Int).length * (c + m * x) = x * m + c := by
    simp [val, Int.mul_comm m x]; omega
  rw [e] at this
  exact this
theorem of_l0 (xs : List Int) (hx : Dig B xs) (hl : xs.length < 1000000000) : ∀ i : Nat, i ≤ xs.length → ∀ acc : Int, 0 ≤ acc → acc < B ^ (xs.length - i) →
    Ev (fun k => triviumref02_Of.l0 k xs (dg D acc) ((i : Int) - 1)) (dg D (acc * B ^ i + val B (xs.take i))) := by
  intro i
  induction i with
  | zero =>
    intro hi acc h0 h1
    refine ev_succ ?_
    simp only [triviumref02_Of.l0]
    refine ev_neg (by omega) (ev_now ?_)
    simp [val]
  | succ i ih =>
    intro hi acc h0 h1
    have ha := rd_nonneg_lt hx (show i < xs.length by omega)
    have hal : (dg D acc).length < 1099511627776 := by
      have : (dg D acc).length ≤ 32 * (xs.length - (i + 1)) := len_le hD h0 (by
        have e : (B : Int) = 2 ^ 32 := by decide
        rw [e, ← Int.pow_mul] at h1; exact h1)
      omega
    refine ev_succ ?_
    simp only [triviumref02_Of.l0, cast_pred]
    have e1 : wrap64 (Int.tmod (rd xs i) 4294967296) = rd xs i := by
      rw [emod_tmod ha.1, Int.emod_eq_of_lt ha.1 ha.2, w64 (by omega) (by have := ha.2; simp only [B] at this; omega)]
    rw [e1]
    simp (disch := omega) only [w64]
    refine ev_pos (by omega) (ev_pos (by omega) (ev_pos (by omega) (ev_bind (muladd_ev h0 (by decide) (Int.le_refl _) ha.1 (by omega) hal) ?_)))
    have h2 : acc * B + rd xs i < B ^ (xs.length - i) := by
      have e : xs.length - i = (xs.length - (i + 1)) + 1 := by omega
      rw [e, Int.pow_succ]
      have h3 : (acc + 1) * B ≤ B ^ (xs.length - (i + 1)) * B := Int.mul_le_mul_of_nonneg_right (by omega) (by decide)
      rw [Int.add_mul] at h3
      omega
    have := ih (by omega) (acc * B + rd xs i) (by have := Int.mul_nonneg h0 (show (0 : Int) ≤ B by decide); omega) h2
    have e3 : (acc * B + rd xs i) * B ^ i + val B (xs.take i) = acc * B ^ (i + 1) + val B (xs.take (i + 1)) := by
      rw [take_succ_rd xs i (by omega), val_append, List.length_take, Nat.min_eq_left (by omega), Int.pow_succ, Int.add_mul]
      simp only [val, Int.mul_zero, Int.add_zero]
      rw [Int.mul_comm (rd xs ↑i) (B ^ i), Int.mul_assoc acc, Int.mul_comm B]
      omega
    rw [e3] at this
    exact this
theorem of_dig (xs : List Int) (hx : Dig B xs) (hl : xs.length < 1000000000) : Ev (fun k => triviumref02_Of.f k xs) (dg D (val B xs)) := by
  have := of_l0 xs hx hl _ (Nat.le_refl _) 0 (Int.le_refl _) (by rw [Nat.sub_self]; decide)
  rw [dg_zero, List.take_length, Int.zero_mul, Int.zero_add] at this
  unfold triviumref02_Of.f
  simp (disch := omega) only [w64]
  exact this
theorem of_ev {x : Int} (hx : 0 ≤ x) (hl : (dg B x).length < 1000000000) : Ev (fun k => triviumref02_Of.f k (dg B x)) (dg D x) := by
  have := of_dig (dg B x) (dg_dig hB x hx) hl
  rwa [val_dg hB x hx] at this
end Go.Proofs.Ytpjephicbiiamaa.B

end
section
namespace Go.Proofs.Ytpjephicbiiamaa.B
set_option linter.unusedVariables false
set_option linter.unusedSimpArgs false
open Go Go.RowKit Go.Proofs.YtpjephicbiiamaaW.PrintWords Go.Proofs.YtpjephicbiiamaaW.PrintLast Go.Proofs.YtpjephicbiiamaaW.PrintMore Go.Proofs.Ytpjephicbiiamaa.F Go.Proofs.Ytpjephicbiiamaa.A
theorem rd_ge (xs : List Int) {i : Int} (h : (xs.length : Int) ≤ i) : rd xs i = 0 := by
  unfold rd
  rw [List.getD, List.getElem?_eq_none (by omega)]; rfl
theorem val_drop (b : Int) (xs : List Int) (i : Nat) : val b (xs.drop i) = rd xs i + b * val b (xs.drop (i + 1)) := by
  by_cases h : i < xs.length
  · rw [drop_rd xs i h]; rfl
  · rw [List.drop_eq_nil_of_le (by omega), List.drop_eq_nil_of_le (by omega), rd_ge xs (by omega)]; simp [val]
def bnd (K : Nat) : Int := 2 ^ K
theorem bnd_len {b x : Int} {K : Nat} (hb : 2 ≤ b) (h0 : 0 ≤ x) (h1 : x < bnd K) : (dg b x).length ≤ K := len_le hb h0 h1
theorem bnd_pos (K : Nat) : 0 < bnd K := Int.pow_pos (by decide)
theorem cl_bnd (xs : List Int) (m : Nat) : cl xs m < bnd (32 * m) := by
  have := cl_lt xs m
  have e : B = (2 : Int) ^ 32 := by decide
  rw [e, ← Int.pow_mul] at this
  exact this
end Go.Proofs.Ytpjephicbiiamaa.B

end
section
namespace Go.Proofs.Ytpjephicbiiamaa.B
set_option linter.unusedVariables false
set_option linter.unusedSimpArgs false
open Go Go.RowKit Go.Proofs.YtpjephicbiiamaaW.PrintWords Go.Proofs.YtpjephicbiiamaaW.PrintLast Go.Proofs.YtpjephicbiiamaaW.PrintMore Go.Proofs.Ytpjephicbiiamaa.F Go.Proofs.Ytpjephicbiiamaa.A
theorem len2_eq {x : Int} {n : Nat} (h0 : 2 ^ n ≤ x) (h1 : x < 2 ^ (n + 1)) : (dg 2 x).length = n + 1 := by
  have hp : (0 : Int) < 2 ^ n := Int.pow_pos (by decide)
  have a := dg_len_le (b := 2) (by decide) (n + 1) x (by omega) h1
  have c := dg_len_ge (b := 2) (by decide) n x (by omega) h0
  omega
theorem emod_pow_succ (x : Int) (k : Nat) : x % 2 ^ (k + 1) = x % 2 ^ k + 2 ^ k * (x / 2 ^ k % 2) := by
  have hp : (0 : Int) < 2 ^ k := Int.pow_pos (by decide)
  have h1 := Int.mul_ediv_add_emod x (2 ^ k)
  have h2 := Int.mul_ediv_add_emod (x / 2 ^ k) 2
  have h3 : (0 : Int) ≤ x % 2 ^ k := Int.emod_nonneg _ (by omega)
  have h4 : x % 2 ^ k < 2 ^ k := Int.emod_lt_of_pos _ hp
  have h5 : (x / 2 ^ k % 2) = 0 ∨ (x / 2 ^ k % 2) = 1 := by omega
  have e : x = 2 ^ (k + 1) * (x / 2 ^ k / 2) + (x % 2 ^ k + 2 ^ k * (x / 2 ^ k % 2)) := by
    have : (2 : Int) ^ (k + 1) * (x / 2 ^ k / 2) = 2 ^ k * (2 * (x / 2 ^ k / 2)) := by rw [Int.pow_succ, Int.mul_assoc]
    rw [this]
    have : 2 ^ k * (2 * (x / 2 ^ k / 2)) + 2 ^ k * (x / 2 ^ k % 2) = 2 ^ k * (x / 2 ^ k) := by rw [← Int.mul_add, h2]
    omega
  conv => lhs; rw [e]
  rw [Int.mul_add_emod_self_left, Int.emod_eq_of_lt]
  · rcases h5 with h | h <;> rw [h] <;> omega
  · rw [Int.pow_succ]
    rcases h5 with h | h <;> rw [h] <;> omega
theorem shr_eq {x : Int} (i : Nat) (hi : i ≤ 64) : shr .u64 x (i : Int) = x / 2 ^ i := by
  unfold shr
  rw [Int.toNat_natCast, show min i IntKind.u64.bits = i by simp [IntKind.bits]; omega]
theorem ediv_le_self' {x : Int} (h : 0 ≤ x) (k : Nat) : 0 ≤ x / 2 ^ k ∧ x / 2 ^ k ≤ x := by
  have hp : (0 : Int) < 2 ^ k := Int.pow_pos (by decide)
  exact ⟨Int.ediv_nonneg h (by omega), Int.ediv_le_self _ h⟩
theorem limb_bits_l0 {x : Int} (h0 : 0 ≤ x) (h1 : x < B) : ∀ d i : Nat, 32 - i = d → i ≤ 32 → Ev (fun k => limb_Bits.l0 k x ((dg 2 (x % 2 ^ i)).length : Int) i) ((dg 2 x).length : Int) := by
  intro d
  induction d with
  | zero =>
    intro i hd hi
    have : i = 32 := by omega
    subst this
    refine ev_succ ?_
    simp only [limb_Bits.l0]
    refine ev_neg (by omega) (ev_now ?_)
    rw [Int.emod_eq_of_lt h0 (by simp only [B] at h1; omega)]
  | succ d ih =>
    intro i hd hi
    have hs := ediv_le_self' h0 i
    simp only [B] at h1
    refine ev_succ ?_
    simp only [limb_Bits.l0]
    rw [shr_eq i (by omega), bit1 hs.1 (by omega)]
    simp (disch := omega) only [w64]
    refine ev_pos (by omega) (ev_pos (by omega) ?_)
    have hp : (0 : Int) < 2 ^ i := Int.pow_pos (by decide)
    have a3 : (0 : Int) ≤ x % 2 ^ i := Int.emod_nonneg _ (by omega)
    have a4 : x % 2 ^ i < 2 ^ i := Int.emod_lt_of_pos _ hp
    have := ih (i + 1) (by omega) (by omega)
    rw [emod_pow_succ] at this
    refine ev_ite (fun hb => ?_) (fun hb => ?_)
    · rw [hb, Int.mul_one, len2_eq (n := i) (by omega) (by rw [Int.pow_succ]; omega)] at this
      exact this
    · rw [show x / 2 ^ i % 2 = 0 by omega, Int.mul_zero, Int.add_zero] at this
      exact this
theorem limb_bits {x : Int} (h0 : 0 ≤ x) (h1 : x < B) : Ev (fun k => limb_Bits.f k x) ((dg 2 x).length : Int) := by
  have := limb_bits_l0 h0 h1 _ 0 rfl (by omega)
  rw [show x % 2 ^ 0 = 0 by simp [Int.emod_one], dg_zero] at this
  exact this
theorem rd_last_ne {b n : Int} (hb : 2 ≤ b) : ∀ n : Int, 0 ≤ n → 0 < n → rd (dg b n) (((dg b n).length : Int) - 1) ≠ 0 := by
  refine dg_ind hb ?_ ?_
  · intro h; omega
  · intro n hn ih _
    rw [dg_pos hb hn]
    by_cases hz : n / b = 0
    · rw [hz, dg_zero]
      simp only [List.length_cons, List.length_nil]
      have : n % b = n := by have := Int.mul_ediv_add_emod n b; rw [hz] at this; omega
      rw [this]
      simp [rd]; omega
    · have hq : 0 < n / b := by have : 0 ≤ n / b := Int.ediv_nonneg (by omega) (by omega); omega
      have := ih hq
      have hne : (dg b (n / b)).length ≠ 0 := by
        intro h
        have := (dg_nil_iff hb (Int.le_of_lt hq)).1 (List.length_eq_zero_iff.1 h)
        omega
      obtain ⟨m, hm⟩ : ∃ m, (dg b (n / b)).length = m + 1 := ⟨_, (Nat.succ_pred_eq_of_ne_zero hne).symm⟩
      rw [hm] at this
      rw [List.length_cons, hm]
      simp only [rd] at *
      rw [show (((m + 1 + 1 : Nat) : Int) - 1).toNat = m + 1 by omega]
      rw [show (((m + 1 : Nat) : Int) - 1).toNat = m by omega] at this
      simpa using this
theorem bits_ev {x : Int} (hx : 0 ≤ x) (hl : (dg B x).length < 1099511627776) : Ev (fun k => nat_Bits.f k (dg B x)) ((dg 2 x).length : Int) := by
  unfold nat_Bits.f
  simp (disch := omega) only [w64]
  by_cases hz : x = 0
  · subst hz
    refine ev_pos (by rw [dg_zero]; simp) (ev_now (by rw [dg_zero]; rfl))
  · have hpos : 0 < x := by omega
    have hne : (dg B x).length ≠ 0 := by
      intro h
      exact hz ((dg_nil_iff hB hx).1 (List.length_eq_zero_iff.1 h))
    obtain ⟨m, hm⟩ : ∃ m, (dg B x).length = m + 1 := ⟨_, (Nat.succ_pred_eq_of_ne_zero hne).symm⟩
    have htop := rd_last_ne (n := x) hB x hx hpos
    have hdig := dg_dig hB x hx
    rw [hm] at htop ⊢
    rw [cast_pred] at htop ⊢
    have ht := rd_nonneg_lt hdig (show m < (dg B x).length by omega)
    refine ev_neg (by omega) (ev_pos (by omega) (ev_pos (by omega) (ev_bind (limb_bits ht.1 ht.2) (ev_now ?_))))
    have hsp := split_at (dg B x) m (by omega)
    have hdrop : (dg B x).drop (m + 1) = [] := List.drop_eq_nil_of_le (by omega)
    rw [hdrop] at hsp
    have hv := val_dg hB x hx
    rw [hsp, val_append, List.length_take, Nat.min_eq_left (by omega)] at hv
    simp only [val, Int.mul_zero, Int.add_zero] at hv
    generalize ht' : rd (dg B x) (m : Int) = t at *
    have hlow0 := val_nonneg (b := B) (by decide) (hdig.take m)
    have hlow1 := val_lt (b := B) (by decide) (hdig.take m)
    rw [List.length_take, Nat.min_eq_left (by omega)] at hlow1
    obtain ⟨n, hn⟩ : ∃ n, (dg 2 t).length = n + 1 := by
      refine ⟨(dg 2 t).length - 1, ?_⟩
      have : (dg 2 t).length ≠ 0 := by
        intro h
        exact htop ((dg_nil_iff (by decide) ht.1).1 (List.length_eq_zero_iff.1 h))
      omega
    have t1 := val_lt (b := 2) (by decide) (dg_dig (b := 2) (by decide) t ht.1)
    rw [val_dg (by decide) t ht.1, hn] at t1
    have t0 : (2 : Int) ^ n ≤ t := by
      apply Int.le_of_not_gt
      intro hgt
      have := dg_len_le (b := 2) (by decide) n t ht.1 hgt
      omega
    have hn32 : n + 1 ≤ 32 := by
      have := dg_len_le (b := 2) (by decide) 32 t ht.1 (by have := ht.2; simp only [B] at this; omega)
      omega
    have hpB : (B : Int) ^ m = 2 ^ (32 * m) := by
      have e : (B : Int) = 2 ^ 32 := by decide
      rw [e, ← Int.pow_mul]
    have hP : (0 : Int) < B ^ m := Int.pow_pos (by decide)
    have lo : (2 : Int) ^ (32 * m + n) ≤ x := by
      rw [Int.pow_add, ← hpB, ← hv]
      have := Int.mul_le_mul_of_nonneg_left t0 (Int.le_of_lt hP)
      omega
    have hi : x < (2 : Int) ^ (32 * m + n + 1) := by
      rw [Nat.add_assoc, Int.pow_add, ← hpB, ← hv]
      have := Int.mul_le_mul_of_nonneg_left (show t + 1 ≤ 2 ^ (n + 1) by omega) (Int.le_of_lt hP)
      rw [Int.mul_add] at this
      omega
    rw [len2_eq lo hi]
    simp (disch := omega) only [w64]
    omega
def Tz (x : Int) (z : Nat) : Prop := ∃ o : Int, 0 ≤ o ∧ x = 2 ^ z * (2 * o + 1)
theorem Tz.ex {x : Int} (hx : 0 < x) : ∃ z, Tz x z := by
  refine dg_ind (b := 2) (by decide) (P := fun x => 0 < x → ∃ z, Tz x z) (by intro h; omega) ?_ x (by omega) hx
  intro n hn ih _
  by_cases h : n % 2 = 1
  · exact ⟨0, n / 2, by omega, by simp; omega⟩
  · obtain ⟨z, o, ho, e⟩ := ih (by omega)
    refine ⟨z + 1, o, ho, ?_⟩
    rw [Int.pow_succ, Int.mul_comm (2 ^ z) 2, Int.mul_assoc, ← e]
    omega
end Go.Proofs.Ytpjephicbiiamaa.B

end
section
namespace Go.Proofs.Ytpjephicbiiamaa.B
set_option linter.unusedVariables false
set_option linter.unusedSimpArgs false
open Go Go.RowKit Go.Proofs.YtpjephicbiiamaaW.PrintWords Go.Proofs.YtpjephicbiiamaaW.PrintLast Go.Proofs.YtpjephicbiiamaaW.PrintMore Go.Proofs.Ytpjephicbiiamaa.F Go.Proofs.Ytpjephicbiiamaa.A
theorem make_l0 (xs : List Int) (hx : Dig B xs) (hl : xs.length < 17592186044416) : ∀ d i : Nat, xs.length - i = d → i ≤ xs.length → Ev (fun k => nat_Make.l0 k (xs.take i) xs xs.length i) (dg B (val B xs), 0) := by
  intro d
  induction d with
  | zero =>
    intro i hd hi
    refine ev_succ ?_
    simp only [nat_Make.l0]
    refine ev_neg (by omega) (ev_bind (trim_ev _ (by rw [List.length_take]; omega)) (ev_now ?_))
    rw [List.take_of_length_le (by omega), strip_dg hB hx]
  | succ d ih =>
    intro i hd hi
    have ha := rd_nonneg_lt hx (show i < xs.length by omega)
    refine ev_succ ?_
    simp only [nat_Make.l0]
    simp (disch := omega) only [w64]
    refine ev_pos (by omega) (ev_pos (by omega) (ev_pos (by omega) (ev_neg (by have := ha.2; simp only [B] at this; omega) (ev_pos (by rw [List.length_take]; omega) ?_))))
    rw [← take_succ_rd xs i (by omega), cast_succ]
    exact ih (i + 1) (by omega) (by omega)
theorem make_dig (xs : List Int) (hx : Dig B xs) (hl : xs.length < 17592186044416) : Ev (fun k => nat_Make.f k xs) (dg B (val B xs), 0) := by
  have := make_l0 xs hx hl _ 0 rfl (by omega)
  unfold nat_Make.f
  exact ev_pos (by omega) (ev_pos (by omega) this)
theorem make_no_l0 (xs : List Int) (hl : xs.length < 17592186044416) (j : Nat) (hj : j < xs.length) (hb : 4294967296 ≤ rd xs j) : ∀ d i : Nat, j - i = d → i ≤ j → Ev (fun k => nat_Make.l0 k (xs.take i) xs xs.length i) ([], 2) := by
  intro d
  induction d with
  | zero =>
    intro i hd hi
    have : i = j := by omega
    subst this
    refine ev_succ ?_
    simp only [nat_Make.l0]
    exact ev_pos (by omega) (ev_pos (by omega) (ev_pos (by omega) (ev_pos hb (ev_now rfl))))
  | succ d ih =>
    intro i hd hi
    refine ev_succ ?_
    simp only [nat_Make.l0]
    simp (disch := omega) only [w64]
    refine ev_pos (by omega) (ev_pos (by omega) (ev_pos (by omega) (ev_ite (fun h => ev_now rfl) (fun h => ev_pos (by rw [List.length_take]; omega) ?_))))
    rw [← take_succ_rd xs i (by omega), cast_succ]
    exact ih (i + 1) (by omega) (by omega)
theorem make_no (xs : List Int) (hl : xs.length < 17592186044416) (j : Nat) (hj : j < xs.length) (hb : 4294967296 ≤ rd xs j) : Ev (fun k => nat_Make.f k xs) ([], 2) := by
  have := make_no_l0 xs hl j hj hb _ 0 rfl (by omega)
  unfold nat_Make.f
  exact ev_pos (by omega) (ev_pos (by omega) this)
def MayB (xs : List Int) : Bool := decide (∀ x ∈ xs, x < 4294967296) && (decide (xs.length = 0) || rd xs ((xs.length : Int) - 1) != 0)
theorem all_take (xs : List Int) (i : Nat) (h : i < xs.length) (hi : ∀ x ∈ xs.take i, x < 4294967296) (h2 : rd xs i < 4294967296) : ∀ x ∈ xs.take (i + 1), x < 4294967296 := by
  rw [take_succ_rd xs i h]
  intro x hx
  rcases List.mem_append.1 hx with hx | hx
  · exact hi x hx
  · rw [List.mem_singleton.1 hx]; exact h2
theorem rd_mem (xs : List Int) (i : Nat) (h : i < xs.length) : rd xs i ∈ xs := by
  rw [rd_nat, List.getD, List.getElem?_eq_getElem h]; exact List.getElem_mem h
theorem may_l0 (xs : List Int) (hl : xs.length < 17592186044416) : ∀ d i : Nat, xs.length - i = d → i ≤ xs.length → (∀ x ∈ xs.take i, x < 4294967296) → Ev (fun k => nat_May.l0 k xs xs xs.length i) (MayB xs) := by
  intro d
  induction d with
  | zero =>
    intro i hd hi ha
    rw [List.take_of_length_le (by omega)] at ha
    refine ev_succ ?_
    simp only [nat_May.l0]
    simp (disch := omega) only [w64]
    refine ev_neg (by omega) (ev_ite (fun h => ev_now ?_) (fun h => ev_pos (by omega) (ev_pos (by omega) (ev_now ?_))))
    · have : xs.length = 0 := by omega
      unfold MayB; rw [decide_eq_true ha, decide_eq_true this]; rfl
    · have : ¬ xs.length = 0 := by omega
      unfold MayB; rw [decide_eq_true ha, decide_eq_false this]; rfl
  | succ d ih =>
    intro i hd hi ha
    refine ev_succ ?_
    simp only [nat_May.l0]
    simp (disch := omega) only [w64]
    refine ev_pos (by omega) (ev_pos (by omega) (ev_pos (by omega) (ev_ite (fun h => ev_now ?_) (fun h => ?_))))
    · have : ¬ (∀ x ∈ xs, x < 4294967296) := fun hall => by have := hall _ (rd_mem xs i (by omega)); omega
      unfold MayB; rw [decide_eq_false this]; rfl
    · rw [cast_succ]
      exact ih (i + 1) (by omega) (by omega) (all_take xs i (by omega) ha (by omega))
theorem may_ev (xs : List Int) (hl : xs.length < 17592186044416) : Ev (fun k => nat_May.f k xs) (MayB xs) := may_l0 xs hl _ 0 rfl (by omega) (by simp)
theorem rmay_l0 (xs : List Int) (hl : xs.length < 17592186044416) : ∀ d i : Nat, xs.length - i = d → i ≤ xs.length → (∀ x ∈ xs.take i, x < 4294967296) → Ev (fun k => triviumref02_May.l0 k xs i) (MayB xs) := by
  intro d
  induction d with
  | zero =>
    intro i hd hi ha
    rw [List.take_of_length_le (by omega)] at ha
    refine ev_succ ?_
    simp only [triviumref02_May.l0]
    simp (disch := omega) only [w64]
    refine ev_neg (by omega) (ev_ite (fun h => ev_now ?_) (fun h => ev_pos (by omega) (ev_pos (by omega) (ev_now ?_))))
    · have : xs.length = 0 := by omega
      unfold MayB; rw [decide_eq_true ha, decide_eq_true this]; rfl
    · have : ¬ xs.length = 0 := by omega
      unfold MayB; rw [decide_eq_true ha, decide_eq_false this]; rfl
  | succ d ih =>
    intro i hd hi ha
    refine ev_succ ?_
    simp only [triviumref02_May.l0]
    simp (disch := omega) only [w64]
    refine ev_pos (by omega) (ev_pos (by omega) (ev_ite (fun h => ev_now ?_) (fun h => ?_)))
    · have : ¬ (∀ x ∈ xs, x < 4294967296) := fun hall => by have := hall _ (rd_mem xs i (by omega)); omega
      unfold MayB; rw [decide_eq_false this]; rfl
    · rw [cast_succ]
      exact ih (i + 1) (by omega) (by omega) (all_take xs i (by omega) ha (by omega))
theorem rmay_ev (xs : List Int) (hl : xs.length < 17592186044416) : Ev (fun k => triviumref02_May.f k xs) (MayB xs) := rmay_l0 xs hl _ 0 rfl (by omega) (by simp)
theorem nat_of_ev {x : Int} (h0 : 0 ≤ x) (h1 : x ≤ 18446744073709551615) : Ev (fun k => nat_Of.f k x) (dg B x) := by
  unfold nat_Of.f
  rw [emod_tmod h0]
  refine ev_bind (trim_ev _ (by simp)) (ev_now ?_)
  have hd : Dig B [x % 4294967296, x / 4294967296] := (Dig.nil.cons (by omega) (by simp only [B]; omega)).cons (by omega) (by simp only [B]; omega)
  rw [strip_dg hB hd]
  congr 1
  simp only [val, B]; omega
theorem len2_lt_iff {x : Int} (hx : 0 ≤ x) (n : Nat) : (dg 2 x).length ≤ n ↔ x < 2 ^ n := by
  constructor
  · intro h
    have h1 := val_lt (b := 2) (by decide) (dg_dig (b := 2) (by decide) x hx)
    rw [val_dg (by decide) x hx] at h1
    exact Int.lt_of_lt_of_le h1 (pow_mono (by decide) h)
  · exact fun h => dg_len_le (by decide) n x hx h
theorem val_take_drop' (b : Int) (xs : List Int) (q : Nat) (h : q ≤ xs.length) : val b xs = val b (xs.take q) + b ^ q * val b (xs.drop q) := by
  conv => lhs; rw [← List.take_append_drop q xs]
  rw [val_append, List.length_take, Nat.min_eq_left h]
theorem small_l0 {x : Int} (hx : 0 ≤ x) (hx63 : x < 2 ^ 63) : ∀ i : Nat, i ≤ (dg B x).length → Ev (fun k => nat_Small.l0 k (dg B x) (val B ((dg B x).drop i)) ((i : Int) - 1)) (x, true) := by
  intro i
  have hl : (dg B x).length ≤ 63 := len_le hB hx hx63
  have hdig := dg_dig hB x hx
  induction i with
  | zero =>
    intro hi
    refine ev_succ ?_
    simp only [nat_Small.l0]
    refine ev_neg (by omega) (ev_now ?_)
    rw [List.drop_zero, val_dg hB x hx]
  | succ i ih =>
    intro hi
    have ha := rd_nonneg_lt hdig (show i < (dg B x).length by omega)
    have hv0 := val_nonneg (b := B) (by decide) (fun y hy => hdig y (List.mem_of_mem_drop hy) : Dig B ((dg B x).drop (i + 1)))
    have hvd := val_drop B (dg B x) i
    have hle : val B ((dg B x).drop i) ≤ x := by
      have h1 := val_take_drop' B (dg B x) i (by omega)
      rw [val_dg hB x hx] at h1
      have h2 := val_nonneg (b := B) (by decide) (hdig.take i)
      have h3 := val_nonneg (b := B) (by decide) (fun y hy => hdig y (List.mem_of_mem_drop hy) : Dig B ((dg B x).drop i))
      have h4 : (1 : Int) ≤ B ^ i := by have : (0 : Int) < B ^ i := Int.pow_pos (by decide); omega
      have := Int.mul_le_mul_of_nonneg_right h4 h3
      omega
    simp only [B] at *
    refine ev_succ ?_
    simp only [nat_Small.l0, cast_pred]
    simp (disch := omega) only [w64]
    refine ev_pos (by omega) (ev_pos (by omega) (ev_pos (by omega) ?_))
    have hor : Go.bits .or .u64 (IntKind.u64.wrap (val 4294967296 ((dg 4294967296 x).drop (i + 1)) * 4294967296)) (rd (dg 4294967296 x) i) = val 4294967296 ((dg 4294967296 x).drop i) := by
      rw [wu64 (by omega) (by omega)]
      rw [bits_join .u64 64 (by decide) (fun n a b => wu64 a (by omega)) 32 _ _ (by omega) (by omega) (by omega) ha.1 ha.2 (by omega)]
      omega
    rw [hor]
    exact ih (by omega)
theorem small_yes {x : Int} (hx : 0 ≤ x) (hx63 : x < 2 ^ 63) : Ev (fun k => nat_Small.f k (dg B x)) (x, true) := by
  have hl : (dg B x).length ≤ 63 := len_le hB hx hx63
  unfold nat_Small.f
  have := small_l0 hx hx63 _ (Nat.le_refl _)
  rw [List.drop_length] at this
  have h2 := (len2_lt_iff hx 63).2 hx63
  simp (disch := omega) only [w64]
  exact ev_bind (bits_ev hx (by omega)) (ev_neg (by omega) this)
theorem small_no {x : Int} (hx : 0 ≤ x) (hx63 : 2 ^ 63 ≤ x) (hl : (dg B x).length < 1099511627776) : Ev (fun k => nat_Small.f k (dg B x)) (0, false) := by
  unfold nat_Small.f
  have h2 : ¬ (dg 2 x).length ≤ 63 := fun h => by have := (len2_lt_iff hx 63).1 h; omega
  exact ev_bind (bits_ev hx hl) (ev_pos (by omega) (ev_now rfl))
end Go.Proofs.Ytpjephicbiiamaa.B

end
section
namespace Go.Proofs.Ytpjephicbiiamaa.B
set_option linter.unusedVariables false
set_option linter.unusedSimpArgs false
open Go Go.RowKit Go.Proofs.YtpjephicbiiamaaW.PrintWords Go.Proofs.YtpjephicbiiamaaW.PrintLast Go.Proofs.YtpjephicbiiamaaW.PrintMore Go.Proofs.Ytpjephicbiiamaa.F Go.Proofs.Ytpjephicbiiamaa.A
theorem num_ev {n : Int} (h0 : 0 ≤ n) (h1 : n ≤ B) : Ev (fun k => triviumref02_Num.f k n) (dg D n) := by
  unfold triviumref02_Num.f
  have := muladd_ev (x := 0) (m := 1) (c := n) (by omega) (by omega) (by decide) h0 h1 (by rw [dg_zero]; simp)
  rw [dg_zero, Int.zero_mul, Int.zero_add] at this
  exact ev_bind this (ev_now rfl)
theorem pow2_len (j : Nat) : (dg D (2 ^ j)).length ≤ j + 1 := len_le hD (Int.pow_nonneg (by decide)) (by rw [Int.pow_succ]; have : (0 : Int) < 2 ^ j := Int.pow_pos (by decide); omega)
theorem power_l1 : ∀ (n j : Nat), n + j < 1000000000 → Ev (fun k => triviumref02_Power.l1 k (n : Int) (dg D (2 ^ j))) (dg D (2 ^ (j + n))) := by
  intro n
  induction n with
  | zero =>
    intro j h
    refine ev_succ ?_
    simp only [triviumref02_Power.l1]
    exact ev_neg (by omega) (ev_now rfl)
  | succ n ih =>
    intro j h
    refine ev_succ ?_
    simp only [triviumref02_Power.l1, cast_pred]
    simp (disch := omega) only [w64]
    have := pow2_len j
    refine ev_pos (by omega) (ev_bind (muladd_ev (Int.pow_nonneg (by decide)) (by decide) (by decide) (by decide) (by decide) (by omega)) ?_)
    rw [Int.add_zero, ← Int.pow_succ]
    have := ih (j + 1) (by omega)
    rwa [show j + 1 + n = j + (n + 1) by omega] at this
theorem power_l0 : ∀ (d n j : Nat), n / 16 = d → n + j < 1000000000 → Ev (fun k => triviumref02_Power.l0 k (n : Int) (dg D (2 ^ j))) (dg D (2 ^ (j + n))) := by
  intro d
  induction d with
  | zero =>
    intro n j hd h
    refine ev_succ ?_
    simp only [triviumref02_Power.l0]
    exact ev_neg (by omega) (power_l1 n j h)
  | succ d ih =>
    intro n j hd h
    refine ev_succ ?_
    simp only [triviumref02_Power.l0]
    simp (disch := omega) only [w64]
    have := pow2_len j
    refine ev_pos (by omega) (ev_bind (muladd_ev (Int.pow_nonneg (by decide)) (by decide) (by decide) (by decide) (by decide) (by omega)) ?_)
    rw [Int.add_zero, show (65536 : Int) = 2 ^ 16 by decide, ← Int.pow_add, show (n : Int) - 16 = ((n - 16 : Nat) : Int) by omega]
    have := ih (n - 16) (j + 16) (by omega) (by omega)
    rwa [show j + 16 + (n - 16) = j + n by omega] at this
theorem power_ev {n : Nat} (h : n < 1000000000) : Ev (fun k => triviumref02_Power.f k (n : Int)) (dg D (2 ^ n)) := by
  unfold triviumref02_Power.f
  refine ev_bind (num_ev (by omega) (by decide)) ?_
  have := power_l0 _ n 0 rfl (by omega)
  rwa [Int.pow_zero, Nat.zero_add] at this
theorem Dig.set {b : Int} {xs : List Int} (h : Dig b xs) (i : Nat) {v : Int} (h0 : 0 ≤ v) (h1 : v < b) : Dig b (xs.set i v) := by
  intro y hy
  rcases List.mem_or_eq_of_mem_set hy with hy | rfl
  · exact h y hy
  · exact ⟨h0, h1⟩
section
variable (xs ys : List Int) (hx : Dig D xs) (hy : Dig D ys) (hl : xs.length + ys.length < 1099511627776)
include hx hy hl
end
set_option linter.unusedSectionVars false
section
variable (xs : List Int) (hx : Dig D xs) (y : Int) (hy : 0 < y) (hl : xs.length < 549755813887) (hyl : (dg D y).length < 549755813887)
include hx hy hl hyl
end
end Go.Proofs.Ytpjephicbiiamaa.B

end
section
namespace Go.Proofs.Ytpjephicbiiamaa.Pure
set_option linter.unusedVariables false
set_option linter.unusedSimpArgs false
open Go Go.RowKit Go.Proofs.YtpjephicbiiamaaW.PrintWords Go.Proofs.YtpjephicbiiamaaW.PrintLast Go.Proofs.YtpjephicbiiamaaW.PrintMore Go.Proofs.Ytpjephicbiiamaa.F Go.Proofs.Ytpjephicbiiamaa.A Go.Proofs.Ytpjephicbiiamaa.B
theorem works_ev : Ev (fun k => triviumlaw02_works.f k) true := Ev.of (fun k => triviumlaw02_works.mono k) (k := 10) (by decide +kernel)
theorem j3_ev (xs a b : List Int) (n e : Int) (W sm : Bool) (s : Int) (hl : xs.length ≤ 24) (hn0 : 0 ≤ n) (hn : n ≤ 18446744073709551615) (he : e = if W then 2 else 0) (hab : a = b) (hal : a.length < 17592186044416) :
    Ev (fun k => triviumlaw02_NatMakes.j3 k xs n a e W b s sm sm s) true := by
  subst hab
  refine ev_succ ?_
  simp only [triviumlaw02_NatMakes.j3]
  refine ev_pos (by cases W <;> subst he <;> decide) (ev_pos (by cases W <;> subst he <;> decide) (ev_bind (same_ev _ _ hal) (ev_pos (by simp) (ev_bind (may_ev xs (by omega)) (ev_bind (rmay_ev xs (by omega)) (ev_pos (by simp) ?_))))))
  rw [ediv_tdiv hn0, wu64 (by omega) (by omega)]
  have hc : cl [n, n / 4294967296] 2 = n := by
    unfold cl
    simp only [List.take_succ_cons, List.take_nil, List.map_cons, List.map_nil, val, B]
    omega
  have hcl := clean_ev [n, n / 4294967296] 2 (fun x hx => by rcases List.mem_cons.1 hx with rfl | hx; · exact hn0
                                                             · rw [List.mem_singleton.1 hx]; omega) (by simp)
  rw [hc] at hcl
  refine ev_bind (nat_of_ev hn0 hn) (ev_bind hcl (ev_bind (same_ev _ _ ?_) (ev_pos (by simp) (ev_pos (by simp) (ev_pos (by trivial) (ev_bind works_ev (ev_now rfl)))))))
  have : (dg B n).length ≤ 2 := dg_len_le hB 2 n hn0 (by simp only [B]; omega)
  omega
theorem l1_yes (xs a : List Int) (n e : Int) (W : Bool) {v : Int} (hv : 0 ≤ v) (hv63 : v < 2 ^ 63) (s : Int) (J : Ev (fun k => triviumlaw02_NatMakes.j3 k xs n a e W (dg B v) s true true v) true) :
    ∀ i : Nat, i ≤ (dg B v).length → Ev (fun k => triviumlaw02_NatMakes.l1 k xs n a e W (dg B v) s true true (val B ((dg B v).drop i)) ((i : Int) - 1)) true := by
  intro i
  have hl : (dg B v).length ≤ 63 := len_le hB hv hv63
  have hdig := dg_dig hB v hv
  induction i with
  | zero =>
    intro hi
    refine ev_succ ?_
    simp only [triviumlaw02_NatMakes.l1]
    refine ev_neg (by omega) ?_
    rw [List.drop_zero, val_dg hB v hv]
    exact J
  | succ i ih =>
    intro hi
    have ha := rd_nonneg_lt hdig (show i < (dg B v).length by omega)
    have hv0 := val_nonneg (b := B) (by decide) (fun y hy => hdig y (List.mem_of_mem_drop hy) : Dig B ((dg B v).drop (i + 1)))
    have hvd := val_drop B (dg B v) i
    have hle : val B ((dg B v).drop i) ≤ v := by
      have h1 := val_take_drop' B (dg B v) i (by omega)
      rw [val_dg hB v hv] at h1
      have h2 := val_nonneg (b := B) (by decide) (hdig.take i)
      have h3 := val_nonneg (b := B) (by decide) (fun y hy => hdig y (List.mem_of_mem_drop hy) : Dig B ((dg B v).drop i))
      have h4 : (1 : Int) ≤ B ^ i := by have : (0 : Int) < B ^ i := Int.pow_pos (by decide); omega
      have := Int.mul_le_mul_of_nonneg_right h4 h3
      omega
    simp only [B] at *
    refine ev_succ ?_
    simp only [triviumlaw02_NatMakes.l1, cast_pred]
    simp (disch := omega) only [w64]
    refine ev_pos (by omega) (ev_pos (by trivial) (ev_pos (by omega) (ev_pos (by omega) ?_)))
    have hor : IntKind.u64.wrap (IntKind.u64.wrap (val 4294967296 ((dg 4294967296 v).drop (i + 1)) * 4294967296) + rd (dg 4294967296 v) i) = val 4294967296 ((dg 4294967296 v).drop i) := by
      rw [wu64 (x := val 4294967296 ((dg 4294967296 v).drop (i + 1)) * 4294967296) (by omega) (by omega), wu64 (by omega) (by omega)]
      omega
    rw [hor]
    exact ih (by omega)
theorem j1_ev (xs a : List Int) (n e : Int) (W : Bool) (hl : xs.length ≤ 24) (hn0 : 0 ≤ n) (hn : n ≤ 18446744073709551615) (he : e = if W then 2 else 0) {v : Int} (hv : 0 ≤ v) (hv2 : v < bnd 768) (ha : a = dg B v) :
    Ev (fun k => triviumlaw02_NatMakes.j1 k xs n a e W (dg B v)) true := by
  have b1 := bnd_len hB hv hv2
  have b2 := bnd_len hD hv hv2
  refine ev_succ ?_
  simp only [triviumlaw02_NatMakes.j1]
  have hpow : Ev (fun k => triviumref02_Power.f k 63) (dg D (2 ^ 63)) := power_ev (n := 63) (by omega)
  have hal : a.length < 17592186044416 := by rw [ha]; omega
  by_cases h : v < 2 ^ 63
  · refine ev_bind (small_yes hv h) (ev_bind (of_ev hv (by omega)) (ev_bind hpow (ev_bind (rcmp_ev hv (by decide) (by omega)) ?_)))
    have e1 : decide (cmpI v (2 ^ 63) < 0) = true := by apply decide_eq_true; unfold cmpI; rw [if_pos h]; omega
    rw [e1]
    simp (disch := omega) only [w64]
    have := l1_yes xs a n e W hv h v (j3_ev xs a (dg B v) n e W true v hl hn0 hn he ha hal) _ (Nat.le_refl _)
    rw [List.drop_length] at this
    exact this
  · refine ev_bind (small_no hv (by omega) (by omega)) (ev_bind (of_ev hv (by omega)) (ev_bind hpow (ev_bind (rcmp_ev hv (by decide) (by omega)) ?_)))
    have e1 : decide (cmpI v (2 ^ 63) < 0) = false := by apply decide_eq_false; unfold cmpI; rw [if_neg h]; split <;> omega
    rw [e1]
    have J := j3_ev xs a (dg B v) n e W false 0 hl hn0 hn he ha hal
    refine ev_succ ?_
    simp only [triviumlaw02_NatMakes.l1]
    exact ev_ite (fun _ => ev_neg (by simp) J) (fun _ => J)
theorem l0_ev (xs a : List Int) (n e : Int) (W : Bool) (hl : xs.length ≤ 24) (hn0 : 0 ≤ n) (hn : n ≤ 18446744073709551615) (he : e = if W then 2 else 0) (hW : W = decide (∃ x ∈ xs, 4294967296 ≤ x)) (hu : ∀ x ∈ xs, 0 ≤ x)
    (ha : a = dg B (if W then 0 else cl xs 24)) : ∀ d i : Nat, xs.length - i = d → i ≤ xs.length → Ev (fun k => triviumlaw02_NatMakes.l0 k xs n a e (decide (∃ x ∈ xs.take i, 4294967296 ≤ x)) i) true := by
  intro d
  induction d with
  | zero =>
    intro i hd hi
    rw [List.take_of_length_le (by omega), ← hW]
    refine ev_succ ?_
    simp only [triviumlaw02_NatMakes.l0]
    refine ev_neg (by omega) (ev_bind (clean_ev xs 24 hu (by omega)) ?_)
    have hb := cl_bnd xs 24
    change _ < bnd 768 at hb
    cases W with
    | true =>
      refine ev_pos rfl ?_
      have := j1_ev xs a n e true hl hn0 hn he (v := 0) (Int.le_refl _) (bnd_pos _) ha
      rwa [dg_zero] at this
    | false => exact ev_neg (by simp) (j1_ev xs a n e false hl hn0 hn he (cl_nonneg xs 24) hb ha)
  | succ d ih =>
    intro i hd hi
    have := ih (i + 1) (by omega) (by omega)
    rw [take_succ_rd xs i (by omega)] at this
    refine ev_succ ?_
    simp only [triviumlaw02_NatMakes.l0]
    simp (disch := omega) only [w64]
    refine ev_pos (by omega) (ev_ite (fun h => ?_) (fun h => ev_pos (by omega) ?_))
    · have h2 : ∃ x ∈ xs.take i, 4294967296 ≤ x := of_decide_eq_true h
      have e1 : decide (∃ x ∈ xs.take i ++ [rd xs i], 4294967296 ≤ x) = true := by
        apply decide_eq_true
        obtain ⟨x, hx, hx2⟩ := h2
        exact ⟨x, List.mem_append_left _ hx, hx2⟩
      rw [e1] at this
      exact this
    · have h2 : ¬ ∃ x ∈ xs.take i, 4294967296 ≤ x := fun h3 => h (decide_eq_true h3)
      have e1 : decide (∃ x ∈ xs.take i ++ [rd xs i], 4294967296 ≤ x) = decide (rd xs i ≥ 4294967296) := by
        apply decide_eq_decide.2
        constructor
        · rintro ⟨x, hx, hx2⟩
          rcases List.mem_append.1 hx with hx | hx
          · exact absurd ⟨x, hx, hx2⟩ h2
          · rw [List.mem_singleton.1 hx] at hx2; exact hx2
        · exact fun h3 => ⟨_, List.mem_append_right _ (List.mem_singleton.2 rfl), h3⟩
      rw [e1] at this
      exact this
theorem NatMakes : triviumlaw02_NatMakes.Pure := by
  intro l0 n hm0 hl0 hw0 hwn
  have hn := wf_u64 hwn
  refine Ev.rounds ?_
  unfold triviumlaw02_NatMakes.f
  have emn : mn (l0.length : Int) 24 = ((min l0.length 24 : Nat) : Int) := by unfold mn; split <;> omega
  simp only [Option.bind_some, emn, Int.toNat_natCast, List.nil_append, List.length_nil, Nat.zero_add]
  obtain ⟨xs, hxs⟩ : ∃ xs, l0.take (min l0.length 24) = xs := ⟨_, rfl⟩
  rw [hxs]
  have hl : xs.length ≤ 24 := by rw [← hxs, List.length_take]; omega
  have hu : ∀ x ∈ xs, 0 ≤ x := fun x hx => (wf_u64 (hw0 x (List.mem_of_mem_take (by rw [hxs]; exact hx)))).1
  refine ev_pos (by omega) (ev_pos (by omega) (ev_pos (by omega) (ev_pos (by omega) ?_)))
  by_cases hW : ∃ x ∈ xs, 4294967296 ≤ x
  · obtain ⟨x, hx, hx2⟩ := hW
    obtain ⟨j, hj, rfl⟩ := List.mem_iff_getElem.1 hx
    have hr : rd xs j = xs[j] := by rw [rd_nat, List.getD, List.getElem?_eq_getElem hj]; rfl
    refine ev_bind (make_no xs (by omega) j hj (by omega)) ?_
    have := l0_ev xs [] n 2 true hl hn.1 hn.2 rfl (decide_eq_true ⟨_, hx, hx2⟩).symm hu (by rw [if_pos rfl, dg_zero]) _ 0 rfl (by omega)
    simpa using this
  · have hd : Dig B xs := fun x hx => ⟨hu x hx, by apply Int.lt_of_not_ge; intro h; exact hW ⟨x, hx, h⟩⟩
    have hc : cl xs 24 = val B xs := by
      unfold cl
      rw [List.take_of_length_le hl]
      congr 1
      conv => rhs; rw [← List.map_id xs]
      exact List.map_congr_left (fun x hx => Int.emod_eq_of_lt (hd x hx).1 (hd x hx).2)
    refine ev_bind (make_dig xs hd (by omega)) ?_
    have := l0_ev xs (dg B (val B xs)) n 0 false hl hn.1 hn.2 rfl (decide_eq_false hW).symm hu (by rw [if_neg (by simp), hc]) _ 0 rfl (by omega)
    simpa using this
end Go.Proofs.Ytpjephicbiiamaa.Pure

end
section
namespace Go.Proofs.Ytpjephicbiiamaa.natMakes
open Go.Proofs.YtpjephicbiiamaaW
open Go.ChangeShapes Go.WideShapes Go.ChangeAt Go.RowKit
open Go.ChangeMaps (open_string shut_string)
set_option linter.unusedVariables false
theorem own : ownKnob Try.prog.godebug = none := by kernel_rfl
theorem laidOut : laidOutB Try.prog = true := by kernel_rfl
def IsRow (k : IntKind) (w : World) (a : Option Addr) (len cap : Nat) (zs : List Int) : Prop :=
  (a = none ∧ len = 0 ∧ cap = 0 ∧ zs = []) ∨
  ∃ x, a = some x ∧ len ≤ cap ∧ cap ≤ maxLen ∧ zs.length = cap ∧ (∀ i, i < zs.length → w.cell? (x.add i) = some (.int k (zs.getD i 0))) ∧ ∀ n ∈ zs, (Lit.int k n).wf = true
set_option maxRecDepth 100000 in
theorem lifted (os : Os) (started : os.Started) (H : Type) (enc : TypeId × Value → H) :
    ReturnsInHanded {} Try.checked os 11 .any (Rows.natMakesSpec.pre6 enc Try.prog Try.f11 Rows.natMakesRow.domain false) (Rows.natMakesSpec.post enc Try.prog Try.f11 false true false false) := by
  refine returnsInHanded_of_change_sized (C := Try.checked) own started (by kernel_rfl) Try.func11
    (ChangeSpec.witness6 (enc := enc) (C := Try.checked) false ⟨#[], #[.slice none 0 0, .int .u64 0], []⟩ 8 (by kernel_rfl) (by kernel_rfl) (by kernel_rfl) (by kernel_rfl)) ?_
  intro W base args ds gs before hval0 hW hcnd hsz0 _
  have hsz : (DataW.weightsEach Try.prog (Try.f11.params.toList ++ Rows.natMakesSpec.plain.varTypes Try.prog) (ds ++ gs)).all (· ≤ reachBytes) = true := hsz0
  have hval : ∀ (j : Nat) t v, Try.f11.params[j]? = some t → args[j]? = some v → Value.okWide Try.prog W .any base t v := hval0
  have hW' := hW
  obtain ⟨p, q, hA0, hV, rfl, hfz, hnd⟩ := hW
  have hA : DataW.TrodAll enc Try.prog W 0 (fun _ => true) true Try.f11.params.toList args.toList ds p := hA0
  rw [Try.params11] at hA hval hsz
  obtain ⟨v0, vs0, d0, ds0, p0, q0, hargs, rfl, rfl, h0, r0⟩ := trodAll_cons hA
  obtain ⟨v1, vs1, d1, ds1, p1, q1, rfl, rfl, rfl, h1, r1⟩ := trodAll_cons r0
  obtain ⟨rfl, rfl, rfl⟩ := trodAll_nil r1
  obtain rfl : args = #[v0, v1] := by cases args; simp_all
  obtain ⟨rfl, rfl⟩ := trodVars_none hV
  obtain ⟨a0, len0, cap0, rfl⟩ := okWide_slice Try.underlying22 (hval 0 22 v0 rfl rfl)
  have k0 := h0
  have lt0 : ∀ x ∈ p0, x.block < W.heap.size := by obtain ⟨m, hm⟩ := k0; exact DataW.trod_lt m _ _ _ hm
  obtain ⟨z0, w0⟩ : ∃ zs, IsRow .u64 W a0 len0 cap0 zs := by
    obtain ⟨fuel, hf⟩ := h0
    rcases open_ints Try.underlying22 Try.underlying54 (by kernel_rfl) hf with ⟨hcs, _⟩ | ⟨x, l, c, zs, hcs, _, hl, hm, hz, _, hcell, hwz⟩
    · simp [Value.cells] at hcs
      obtain ⟨rfl, rfl, rfl⟩ := hcs
      exact ⟨[], .inl ⟨rfl, rfl, rfl, rfl⟩⟩
    · simp [Value.cells] at hcs
      obtain ⟨rfl, rfl, rfl⟩ := hcs
      exact ⟨zs, .inr ⟨_, rfl, hl, hm, by simpa using hz, hcell, hwz⟩⟩
  have y0 : len0 * 8 ≤ 140737488351232 := PrintWords.sized_ints hsz (j := 0) (t := 22) rfl rfl Try.underlying22 Try.underlying54 (by kernel_rfl) (by kernel_rfl) h0
  obtain ⟨a1, rfl, rfl, rfl, w1⟩ := open_int Try.underlying54 (hval 1 54 v1 rfl rfl) h1
  clear hA0 hval0 hsz0 hsz
  refine (F.triviumlaw02_NatMakes.walk Pure.NatMakes a0 len0 cap0 z0 a1 W w0 y0 w1).mono fun e W' ⟨he, bel⟩ => ?_
  subst he
  exact ⟨_, rfl, _, _, _, [], _, [], hW', trodAll_mk1 (shut_bool Try.underlying4 _), (trodAll_cons_mk (Below.trod laidOut (by kernel_rfl) (of_decide_eq_true (by kernel_rfl)) k0 bel lt0) (trodAll_cons_mk (shut_int Try.underlying54 w1) trodAll_mk0)), rfl, bel.frame _, fun h => by cases h⟩
theorem over : Rows.natMakesRow.holds Try.pinned (OpenSpec.ofChange Rows.natMakesSpec) :=
  OpenClaim.holds_of_wide 11 Try.f11 rfl rfl rfl rfl rfl rfl rfl ⟨rfl, rfl, rfl, rfl, rfl⟩ rfl rfl rfl rfl rfl (by kernel_rfl) Try.func11 (by kernel_rfl)
    (of_decide_eq_true (by kernel_rfl)) (by unfold Func.isWrapper; first | (rw [if_pos (by decide +kernel)]; kernel_rfl) | (rw [if_neg (by decide +kernel)]; exact ⟨rfl, rfl⟩))
    (fun os started H enc _ => lifted os started H enc)
theorem proved : Rows.NatMakesSaid := over
#print axioms proved
end Go.Proofs.Ytpjephicbiiamaa.natMakes
namespace Go.Proofs.Ytpjephicbiiamaa
theorem natMakes_holds : Rows.NatMakesSaid := natMakes.proved
end Go.Proofs.Ytpjephicbiiamaa

end
