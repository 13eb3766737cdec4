/- What the Go code does, function by function: out of my run of the printer (wip/mp.py), mended by wip/post.py. -/
import Derived.WalkKit
import Derived.Laws.BitsLemmas
import Derived.Test.YtpjephicbiiamaaRows
import Derived.ProofKit
import Derived.OpenShut
import Derived.ShutString
import Derived.ChangeOld
import Derived.Below
import Derived.SizedLaws
import Derived.Test.YtpjephicbiiamaaCModpFermat1
set_option linter.unusedVariables false
set_option linter.unusedSimpArgs false
set_option linter.unusedSectionVars false
section
namespace Go.Proofs.Ytpjephicbiiamaa.Y
set_option linter.unusedVariables false
set_option linter.unusedSimpArgs false
def Pr (p : Nat) : Prop := 2 ≤ p ∧ ∀ d, d ∣ p → d = 1 ∨ d = p
theorem ex_pr : ∀ n : Nat, 2 ≤ n → ∃ p, Pr p ∧ p ∣ n := by
  intro n
  induction n using Nat.strongRecOn with
  | ind n ih =>
    intro h
    by_cases hp : Pr n
    · exact ⟨n, hp, Nat.dvd_refl n⟩
    · have : ∃ d, d ∣ n ∧ d ≠ 1 ∧ d ≠ n := by
        apply Classical.byContradiction
        intro hc
        apply hp
        refine ⟨h, fun d hd => ?_⟩
        by_cases h1 : d = 1
        · exact .inl h1
        · by_cases h2 : d = n
          · exact .inr h2
          · exact absurd ⟨d, hd, h1, h2⟩ hc
      obtain ⟨d, hd, h1, h2⟩ := this
      have hle := Nat.le_of_dvd (by omega) hd
      have h0 : d ≠ 0 := by rintro rfl; have := Nat.zero_dvd.1 hd; omega
      obtain ⟨p, hp, hpd⟩ := ih d (by omega) (by omega)
      exact ⟨p, hp, Nat.dvd_trans hpd hd⟩
theorem Pr.cop {p a : Nat} (hp : Pr p) (h : ¬ p ∣ a) : Nat.Coprime p a := by
  rcases hp.2 (Nat.gcd p a) (Nat.gcd_dvd_left p a) with h1 | h1
  · exact h1
  · exact absurd (h1 ▸ Nat.gcd_dvd_right p a) h
theorem Pr.dvd_mul {p a b : Nat} (hp : Pr p) (h : p ∣ a * b) : p ∣ a ∨ p ∣ b := by
  by_cases ha : p ∣ a
  · exact .inl ha
  · exact .inr ((hp.cop ha).dvd_of_dvd_mul_left h)
theorem Pr.ne_dvd {p q : Nat} (hp : Pr p) (hq : Pr q) (h : p ∣ q) : p = q := by
  rcases hq.2 p h with h | h
  · have := hp.1; omega
  · exact h
theorem mod_of_dvd {a b n m : Nat} (h : a % n = b % n) (hm : m ∣ n) : a % m = b % m := by
  rw [← Nat.mod_mod_of_dvd a hm, h, Nat.mod_mod_of_dvd b hm]
theorem pow_mod_mul (a m n x : Nat) (h : a ^ m % x = 1 % x) : a ^ (m * n) % x = 1 % x := by
  rw [Nat.pow_mul, Nat.pow_mod, h, ← Nat.pow_mod, Nat.one_pow]
theorem pow_gcd {a p : Nat} (hp : Nat.Coprime a p) : ∀ m n : Nat, a ^ m % p = 1 % p → a ^ n % p = 1 % p → a ^ (Nat.gcd m n) % p = 1 % p := by
  intro m
  induction m using Nat.strongRecOn with
  | ind m ih =>
    intro n hm hn
    by_cases h0 : m = 0
    · subst h0; rwa [Nat.gcd_zero_left]
    · rw [Nat.gcd_rec]
      refine ih (n % m) (Nat.mod_lt _ (by omega)) m ?_ hm
      have e : a ^ n = a ^ (m * (n / m)) * a ^ (n % m) := by rw [← Nat.pow_add, Nat.div_add_mod]
      rw [e, Nat.mul_mod, pow_mod_mul _ _ _ _ hm, ← Nat.mul_mod, Nat.one_mul] at hn
      exact hn
theorem perm_of_sub : ∀ (l1 l2 : List Nat), l1.Nodup → (∀ x ∈ l1, x ∈ l2) → l2.length ≤ l1.length → l1.Perm l2
  | [], l2, _, _, h => by have : l2 = [] := List.length_eq_zero_iff.1 (by simpa using h); rw [this]
  | x :: l1, l2, hn, hs, hl => by
    have hx : x ∈ l2 := hs x (List.mem_cons_self ..)
    have hp := List.perm_cons_erase hx
    have hn' := List.nodup_cons.1 hn
    have hle : (l2.erase x).length ≤ l1.length := by
      rw [List.length_erase_of_mem hx]
      simp only [List.length_cons] at hl
      omega
    have := perm_of_sub l1 (l2.erase x) hn'.2 (fun y hy => by
      have hyx : y ≠ x := fun h => hn'.1 (h ▸ hy)
      exact (List.mem_erase_of_ne hyx).2 (hs y (List.mem_cons_of_mem _ hy))) hle
    exact (this.cons x).trans hp.symm
def prod (l : List Nat) : Nat := l.foldr (· * ·) 1
theorem prod_perm {l1 l2 : List Nat} (h : l1.Perm l2) : prod l1 = prod l2 := by
  induction h with
  | nil => rfl
  | cons x _ ih => simp only [prod, List.foldr_cons] at *; rw [ih]
  | swap x y l => simp only [prod, List.foldr_cons]; rw [Nat.mul_left_comm]
  | trans _ _ ih1 ih2 => rw [ih1, ih2]
theorem prod_map_mod (a p : Nat) : ∀ l : List Nat, prod (l.map fun i => a * i % p) % p = a ^ l.length * prod l % p
  | [] => by simp [prod]
  | x :: l => by
    have ih := prod_map_mod a p l
    simp only [prod, List.map_cons, List.foldr_cons, List.length_cons] at *
    rw [Nat.mul_mod, Nat.mod_mod, ih, ← Nat.mul_mod, Nat.pow_succ]
    congr 1
    ac_rfl
theorem prod_cop {p : Nat} (hp : Pr p) : ∀ l : List Nat, (∀ x ∈ l, ¬ p ∣ x) → ¬ p ∣ prod l
  | [], _ => fun h => by have := Nat.le_of_dvd (by decide) (show p ∣ 1 from h); have := hp.1; omega
  | x :: l, hl => fun h => by
    rcases hp.dvd_mul (show p ∣ x * prod l from h) with h | h
    · exact hl x (List.mem_cons_self ..) h
    · exact prod_cop hp l (fun y hy => hl y (List.mem_cons_of_mem _ hy)) h
theorem dvd_sub_of_mod {a b p : Nat} (h : a % p = b % p) (hle : b ≤ a) : p ∣ a - b := Nat.dvd_of_mod_eq_zero (Nat.sub_mod_eq_zero_of_mod_eq h)
theorem mod_of_dvd_sub {a b p : Nat} (h : p ∣ a - b) (hle : b ≤ a) : a % p = b % p := by
  obtain ⟨k, hk⟩ := h
  have : a = b + p * k := by omega
  rw [this, Nat.add_mul_mod_self_left]
theorem mul_cancel {a b c p : Nat} (hp : Nat.Coprime p c) (h : a * c % p = b * c % p) : a % p = b % p := by
  rcases Nat.le_total b a with hle | hle
  · have h1 := dvd_sub_of_mod h (Nat.mul_le_mul_right c hle)
    rw [← Nat.sub_mul] at h1
    have h2 := hp.dvd_of_dvd_mul_right h1
    exact mod_of_dvd_sub h2 hle
  · have h1 := dvd_sub_of_mod h.symm (Nat.mul_le_mul_right c hle)
    rw [← Nat.sub_mul] at h1
    have h2 := hp.dvd_of_dvd_mul_right h1
    exact (mod_of_dvd_sub h2 hle).symm
theorem fermat {p a : Nat} (hp : Pr p) (ha : ¬ p ∣ a) : a ^ (p - 1) % p = 1 % p := by
  have hcop : Nat.Coprime p a := hp.cop ha
  let L := List.range' 1 (p - 1)
  have hL : ∀ x, x ∈ L ↔ 1 ≤ x ∧ x < p := fun x => by
    have := hp.1
    simp only [L, List.mem_range'_1]; omega
  have hperm : (L.map fun i => a * i % p).Perm L := by
    refine perm_of_sub _ _ ?_ ?_ (by simp)
    · refine List.pairwise_map.2 (List.Pairwise.imp_of_mem (fun {x y} hx hy hne hxy => hne ?_) (List.nodup_range' (s := 1) (n := p - 1)))
      have hx' := (hL x).1 hx
      have hy' := (hL y).1 hy
      rw [Nat.mul_comm a x, Nat.mul_comm a y] at hxy
      have := mul_cancel hcop hxy
      rw [Nat.mod_eq_of_lt hx'.2, Nat.mod_eq_of_lt hy'.2] at this
      exact this
    · intro y hy
      obtain ⟨x, hx, rfl⟩ := List.mem_map.1 hy
      have hx' := (hL x).1 hx
      refine (hL _).2 ⟨?_, Nat.mod_lt _ (by have := hp.1; omega)⟩
      apply Nat.pos_of_ne_zero
      intro h0
      rcases hp.dvd_mul (Nat.dvd_of_mod_eq_zero h0) with h | h
      · exact ha h
      · have := Nat.le_of_dvd (by omega) h; omega
  have h1 := prod_map_mod a p L
  rw [prod_perm hperm] at h1
  have h2 : ¬ p ∣ prod L := prod_cop hp L (fun x hx h => by
    have hx' := (hL x).1 hx
    have := Nat.le_of_dvd (by omega) h; omega)
  have hlen : L.length = p - 1 := by simp [L]
  rw [hlen] at h1
  have h3 : a ^ (p - 1) * prod L % p = 1 * prod L % p := by rw [Nat.one_mul]; exact h1.symm
  exact mul_cancel (hp.cop h2) h3
theorem sqrt_one {p x : Nat} (hp : Pr p) (h : x * x % p = 1 % p) : x % p = 1 % p ∨ x % p = p - 1 := by
  have h2 := hp.1
  by_cases hx : x % p = 0
  · have : x * x % p = 0 := by rw [Nat.mul_mod, hx]; simp
    rw [this, Nat.mod_eq_of_lt (by omega)] at h; omega
  · have hlt := Nat.mod_lt x (show 0 < p by omega)
    obtain ⟨y, hy⟩ : ∃ y, x % p = y + 1 := ⟨x % p - 1, by omega⟩
    rw [Nat.mul_mod, hy] at h
    have h3 : p ∣ (y + 1) * (y + 1) - 1 := dvd_sub_of_mod h (Nat.le_trans (by omega) (Nat.le_mul_of_pos_left _ (by omega)))
    have e : (y + 1) * (y + 1) - 1 = y * (y + 2) := by
      have : (y + 1) * (y + 1) = y * (y + 2) + 1 := by grind
      omega
    rw [e] at h3
    rcases hp.dvd_mul h3 with h4 | h4
    · left
      have : y = 0 := by
        rcases Nat.eq_zero_or_pos y with h | h
        · exact h
        · have := Nat.le_of_dvd h h4; omega
      rw [hy, this, Nat.mod_eq_of_lt (by omega)]
    · right
      have := Nat.le_of_dvd (by omega) h4
      rw [hy]; omega
end Go.Proofs.Ytpjephicbiiamaa.Y

end
section
namespace Go.Proofs.Ytpjephicbiiamaa.Y
set_option linter.unusedVariables false
set_option linter.unusedSimpArgs false
def SP (a n : Nat) : Prop := ∃ s d, n - 1 = 2 ^ s * d ∧ d % 2 = 1 ∧ (a ^ d % n = 1 ∨ ∃ r, r < s ∧ a ^ (2 ^ r * d) % n = n - 1)
theorem odd_uniq : ∀ {s d s' d' : Nat}, 2 ^ s * d = 2 ^ s' * d' → d % 2 = 1 → d' % 2 = 1 → s = s' ∧ d = d'
  | 0, d, 0, d', h, _, _ => by simpa using h
  | 0, d, s' + 1, d', h, h1, _ => by rw [Nat.pow_succ, Nat.mul_comm (2 ^ s') 2, Nat.mul_assoc] at h; simp only [Nat.pow_zero, Nat.one_mul] at h; omega
  | s + 1, d, 0, d', h, _, h1 => by rw [Nat.pow_succ, Nat.mul_comm (2 ^ s) 2, Nat.mul_assoc] at h; simp only [Nat.pow_zero, Nat.one_mul] at h; omega
  | s + 1, d, s' + 1, d', h, h1, h2 => by
    rw [Nat.pow_succ, Nat.mul_comm (2 ^ s) 2, Nat.mul_assoc, Nat.pow_succ, Nat.mul_comm (2 ^ s') 2, Nat.mul_assoc] at h
    obtain ⟨a, b⟩ := odd_uniq (s := s) (s' := s') (d := d) (d' := d') (by omega) h1 h2
    exact ⟨by omega, b⟩
theorem ex_odd : ∀ n : Nat, 0 < n → ∃ s d, n = 2 ^ s * d ∧ d % 2 = 1 := by
  intro n
  induction n using Nat.strongRecOn with
  | ind n ih =>
    intro h
    by_cases h2 : n % 2 = 1
    · exact ⟨0, n, by simp, h2⟩
    · obtain ⟨s, d, e, hd⟩ := ih (n / 2) (by omega) (by omega)
      refine ⟨s + 1, d, ?_, hd⟩
      rw [Nat.pow_succ, Nat.mul_comm (2 ^ s) 2, Nat.mul_assoc, ← e]; omega
theorem SP.fermat {a n : Nat} (hn : 2 ≤ n) (h : SP a n) : a ^ (n - 1) % n = 1 % n := by
  obtain ⟨s, d, e, hd, h | ⟨r, hr, h⟩⟩ := h
  · rw [e, Nat.mul_comm]
    exact pow_mod_mul _ _ _ _ (by rw [h, Nat.mod_eq_of_lt (by omega)])
  · have e2 : n - 1 = (2 ^ r * d) * 2 * 2 ^ (s - r - 1) := by
      rw [e]
      have : 2 ^ s = 2 ^ r * 2 * 2 ^ (s - r - 1) := by rw [← Nat.pow_succ, ← Nat.pow_add, show r + 1 + (s - r - 1) = s by omega]
      rw [this]; ac_rfl
    rw [e2]
    refine pow_mod_mul _ _ _ _ ?_
    rw [Nat.pow_mul, Nat.pow_two, Nat.mul_mod, h]
    have : (n - 1) * (n - 1) = 1 + n * (n - 2) := by
      obtain ⟨m, rfl⟩ : ∃ m, n = m + 2 := ⟨n - 2, by omega⟩
      simp only [show m + 2 - 1 = m + 1 by omega, show m + 2 - 2 = m by omega]
      grind
    rw [this, Nat.add_mul_mod_self_left]
theorem one_mod_dvd {a e n p : Nat} (h : a ^ e % n = 1 % n) (hp : p ∣ n) : a ^ e % p = 1 % p := mod_of_dvd h hp
def T (a p i : Nat) : Prop := ∃ t d, p - 1 = 2 ^ t * d ∧ d % 2 = 1 ∧ a ^ (2 ^ i * d) % p = 1 % p
theorem gcd_odd {c d t d' : Nat} (hd : d % 2 = 1) (h : c ≤ t) : Nat.gcd (2 ^ c * d) (2 ^ t * d') ∣ 2 ^ c * d' := by
  have e : 2 ^ t * d' = 2 ^ c * (2 ^ (t - c) * d') := by rw [← Nat.mul_assoc, ← Nat.pow_add, show c + (t - c) = t by omega]
  rw [e, Nat.gcd_mul_left]
  refine Nat.mul_dvd_mul_left _ ?_
  have h1 := Nat.gcd_dvd_left d (2 ^ (t - c) * d')
  have h2 := Nat.gcd_dvd_right d (2 ^ (t - c) * d')
  have h3 : Nat.Coprime (Nat.gcd d (2 ^ (t - c) * d')) (2 ^ (t - c)) := by
    refine Nat.Coprime.pow_right _ ?_
    have : ¬ 2 ∣ Nat.gcd d (2 ^ (t - c) * d') := fun h => by have := Nat.dvd_trans h h1; omega
    have hp2 : Pr 2 := ⟨by omega, fun d hd => by have := Nat.le_of_dvd (by omega) hd; have : d ≠ 0 := by rintro rfl; have := Nat.zero_dvd.1 hd; omega
                                                 omega⟩
    exact (hp2.cop this).symm
  exact h3.dvd_of_dvd_mul_left h2
theorem pow_one_dvd {a p m n : Nat} (h : a ^ m % p = 1 % p) (hd : m ∣ n) : a ^ n % p = 1 % p := by
  obtain ⟨k, rfl⟩ := hd
  exact pow_mod_mul _ _ _ _ h
theorem T_up {a p c d : Nat} (hp : Pr p) (ha : ¬ p ∣ a) (hd : d % 2 = 1) (h : a ^ (2 ^ c * d) % p = 1 % p) : ∀ i, c ≤ i → T a p i := by
  intro i hi
  obtain ⟨t, d', e, hd'⟩ := ex_odd (p - 1) (by have := hp.1; omega)
  refine ⟨t, d', e, hd', ?_⟩
  have hf := fermat hp ha
  rw [e] at hf
  by_cases hit : t ≤ i
  · exact pow_one_dvd hf (Nat.mul_dvd_mul_right (Nat.pow_dvd_pow 2 hit) _)
  · have hg := pow_gcd (hp.cop ha).symm _ _ h hf
    exact pow_one_dvd hg (Nat.dvd_trans (gcd_odd hd (by omega)) (Nat.mul_dvd_mul_right (Nat.pow_dvd_pow 2 hi) _))
theorem T_down {a n p r s d : Nat} (hp : Pr p) (ha : ¬ p ∣ a) (hpn : p ∣ n) (hodd : n % 2 = 1) (hn : 2 ≤ n) (e : n - 1 = 2 ^ s * d) (hd : d % 2 = 1) (hr : r < s) (h : a ^ (2 ^ r * d) % n = n - 1)
    (hf : a ^ (n - 1) % n = 1 % n) : ∀ i, i ≤ r → ¬ T a p i := by
  rintro i hi ⟨t, d', e', hd', h'⟩
  have h1 : a ^ (2 ^ r * d') % p = 1 % p := pow_one_dvd h' (Nat.mul_dvd_mul_right (Nat.pow_dvd_pow 2 hi) _)
  have h2 := one_mod_dvd hf hpn
  rw [e] at h2
  have hg := pow_gcd (hp.cop ha).symm _ _ h1 h2
  have h3 := pow_one_dvd hg (gcd_odd hd' (Nat.le_of_lt hr))
  have h4 : (n - 1) % p = 1 % p := by rw [← h3, ← h, Nat.mod_mod_of_dvd _ hpn]
  obtain ⟨k, hk⟩ := hpn
  have hp2 := hp.1
  have hk0 : k ≠ 0 := by rintro rfl; omega
  obtain ⟨j, rfl⟩ : ∃ j, k = j + 1 := ⟨k - 1, by omega⟩
  have e5 : n - 1 = (p - 1) + p * j := by rw [hk, Nat.mul_add, Nat.mul_one]; omega
  rw [e5, Nat.add_mul_mod_self_left, Nat.mod_eq_of_lt (by omega), Nat.mod_eq_of_lt (by omega)] at h4
  have : p = 2 := by omega
  subst this
  omega
theorem SP.class {a n : Nat} (hn : 2 ≤ n) (hodd : n % 2 = 1) (h : SP a n) : ∃ c, ∀ p, Pr p → p ∣ n → ¬ p ∣ a → ∀ i, T a p i ↔ c ≤ i := by
  have hf := h.fermat hn
  obtain ⟨s, d, e, hd, h | ⟨r, hr, h⟩⟩ := h
  · refine ⟨0, fun p hp hpn ha i => ⟨fun _ => Nat.zero_le _, fun _ => ?_⟩⟩
    have h1 : a ^ (2 ^ 0 * d) % p = 1 % p := by
      rw [Nat.pow_zero, Nat.one_mul]
      exact one_mod_dvd (by rw [h, Nat.mod_eq_of_lt (by omega)]) hpn
    exact T_up hp ha hd h1 i (Nat.zero_le _)
  · refine ⟨r + 1, fun p hp hpn ha i => ⟨fun hT => ?_, fun hi => ?_⟩⟩
    · apply Nat.lt_of_not_le
      intro hle
      exact T_down hp ha hpn hodd hn e hd hr h hf i hle hT
    · have h1 : a ^ (2 ^ (r + 1) * d) % n = 1 % n := by
        have e2 : 2 ^ (r + 1) * d = (2 ^ r * d) * 2 := by rw [Nat.pow_succ]; ac_rfl
        rw [e2, Nat.pow_mul, Nat.pow_two, Nat.mul_mod, h]
        have : (n - 1) * (n - 1) = 1 + n * (n - 2) := by
          obtain ⟨m, rfl⟩ : ∃ m, n = m + 2 := ⟨n - 2, by omega⟩
          simp only [show m + 2 - 1 = m + 1 by omega, show m + 2 - 2 = m by omega]
          grind
        rw [this, Nat.add_mul_mod_self_left]
      exact T_up hp ha hd (one_mod_dvd h1 hpn) i hi
def pw (a e m : Nat) : Nat :=
  Nat.mod (Nat.mul (Nat.pow (Nat.mod (Nat.mul (Nat.pow (Nat.mod (Nat.mul (Nat.pow (Nat.mod (Nat.pow a (Nat.div e 16777216)) m) 256) (Nat.pow a (Nat.mod (Nat.div e 65536) 256))) m) 256) (Nat.pow a (Nat.mod (Nat.div e 256) 256))) m) 256) (Nat.pow a (Nat.mod e 256))) m
theorem pw_def (a e m : Nat) : pw a e m = ((((a ^ (e / 16777216) % m) ^ 256 * a ^ (e / 65536 % 256) % m) ^ 256 * a ^ (e / 256 % 256) % m) ^ 256 * a ^ (e % 256)) % m := rfl
def force (x : Nat) (f : Nat → Bool) : Bool := Nat.casesOn x (f 0) (fun n => f (Nat.succ n))
theorem force_eq (x : Nat) (f : Nat → Bool) : force x f = f x := by cases x <;> rfl
theorem pw_step (a x d m : Nat) : (a ^ x % m) ^ 256 * a ^ d % m = a ^ (x * 256 + d) % m := by
  rw [Nat.mul_mod, ← Nat.pow_mod, ← Nat.mul_mod, ← Nat.pow_mul, ← Nat.pow_add]
theorem pw_eq (a e m : Nat) : pw a e m = a ^ e % m := by
  rw [pw_def, pw_step, pw_step, pw_step]
  congr 2
  omega
def dec : Nat → Nat → Nat → Nat × Nat
  | 0, s, x => (s, x)
  | f + 1, s, x => if x % 2 = 0 then dec f (s + 1) (x / 2) else (s, x)
def spLoop (n : Nat) : Nat → Nat → Bool
  | 0, _ => false
  | s + 1, x => Nat.beq x (n - 1) || spLoop n s (x * x % n)
def spB (a n : Nat) : Bool :=
  let q := dec 32 0 (n - 1)
  Nat.beq (pw a q.2 n) 1 || spLoop n q.1 (pw a q.2 n)
theorem dec_eq : ∀ (f s x : Nat), 0 < x → x < 2 ^ f → ∃ j, (dec f s x).1 = s + j ∧ x = 2 ^ j * (dec f s x).2 ∧ (dec f s x).2 % 2 = 1 := by
  intro f
  induction f with
  | zero => intro s x h0 h1; simp at h1; omega
  | succ f ih =>
    intro s x h0 h1
    unfold dec
    by_cases h : x % 2 = 0
    · rw [if_pos h]
      obtain ⟨j, a, b, c⟩ := ih (s + 1) (x / 2) (by omega) (by rw [Nat.pow_succ] at h1; omega)
      refine ⟨j + 1, by omega, ?_, c⟩
      rw [Nat.pow_succ, Nat.mul_comm (2 ^ j) 2, Nat.mul_assoc, ← b]; omega
    · rw [if_neg h]; exact ⟨0, by simp, by simp, by omega⟩
theorem spLoop_eq (n a d : Nat) : ∀ (s i : Nat), spLoop n s (a ^ (2 ^ i * d) % n) = true ↔ ∃ r, r < s ∧ a ^ (2 ^ (i + r) * d) % n = n - 1 := by
  intro s
  induction s with
  | zero => intro i; simp [spLoop]
  | succ s ih =>
    intro i
    have e : a ^ (2 ^ i * d) % n * (a ^ (2 ^ i * d) % n) % n = a ^ (2 ^ (i + 1) * d) % n := by
      rw [← Nat.mul_mod, ← Nat.pow_add]
      congr 2
      rw [Nat.pow_succ, Nat.mul_comm (2 ^ i) 2, Nat.mul_assoc]; omega
    unfold spLoop
    rw [e, Bool.or_eq_true, ih (i + 1)]
    constructor
    · rintro (h | ⟨r, hr, h⟩)
      · exact ⟨0, by omega, by simpa using Nat.eq_of_beq_eq_true h⟩
      · exact ⟨r + 1, by omega, by rw [show i + (r + 1) = i + 1 + r by omega]; exact h⟩
    · rintro ⟨r, hr, h⟩
      cases r with
      | zero => left; rw [Nat.add_zero] at h; rw [h]; exact Nat.beq_refl _
      | succ r => right; exact ⟨r, by omega, by rw [show i + 1 + r = i + (r + 1) by omega]; exact h⟩
theorem spB_iff {a n : Nat} (hn : 2 ≤ n) (hlt : n < 4294967296) : spB a n = true ↔ SP a n := by
  obtain ⟨j, e1, e2, e3⟩ := dec_eq 32 0 (n - 1) (by omega) (by omega)
  unfold spB
  simp only [pw_eq]
  rw [Bool.or_eq_true]
  have hl := spLoop_eq n a (dec 32 0 (n - 1)).2 (dec 32 0 (n - 1)).1 0
  simp only [Nat.pow_zero, Nat.one_mul, Nat.zero_add] at hl
  rw [hl]
  constructor
  · rintro (h | ⟨r, hr, h⟩)
    · exact ⟨j, _, e2, e3, .inl (Nat.eq_of_beq_eq_true h)⟩
    · exact ⟨j, _, e2, e3, .inr ⟨r, by omega, h⟩⟩
  · rintro ⟨s, d, f1, f2, h⟩
    obtain ⟨rfl, rfl⟩ := odd_uniq (f1.symm.trans e2) f2 e3
    rcases h with h | ⟨r, hr, h⟩
    · left; rw [h]; rfl
    · right; exact ⟨r, by omega, h⟩
def bad (n : Nat) : Bool := !Nat.beq (pw 2 (Nat.sub n 1) n) 1 || !Nat.beq (pw 7 (Nat.sub n 1) n) 1 || !Nat.beq (pw 61 (Nat.sub n 1) n) 1 || !spB 2 n || !spB 7 n || !spB 61 n
def SP3 (n : Nat) : Prop := SP 2 n ∧ SP 7 n ∧ SP 61 n
theorem bad_not {n : Nat} (hn : 2 ≤ n) (hlt : n < 4294967296) (h : bad n = true) : ¬ SP3 n := by
  rintro ⟨h2, h7, h61⟩
  have f2 := h2.fermat hn
  have f7 := h7.fermat hn
  have f61 := h61.fermat hn
  rw [Nat.mod_eq_of_lt (show 1 < n by omega)] at f2 f7 f61
  unfold bad at h
  change (!Nat.beq (pw 2 (n - 1) n) 1 || !Nat.beq (pw 7 (n - 1) n) 1 || !Nat.beq (pw 61 (n - 1) n) 1 || !spB 2 n || !spB 7 n || !spB 61 n) = true at h
  rw [pw_eq, pw_eq, pw_eq, f2, f7, f61, (spB_iff hn hlt).2 h2, (spB_iff hn hlt).2 h7, (spB_iff hn hlt).2 h61] at h
  exact absurd h (by decide)
def badm (p m : Nat) : Bool := force (Nat.sub (Nat.mul p m) 1) (fun e => !Nat.beq (pw 2 e m) 1) || bad (Nat.mul p m)
theorem badm_not {p m : Nat} (hm : 2 ≤ m) (hp : 1 ≤ p) (hlt : p * m < 4294967296) (h : badm p m = true) : ¬ SP3 (p * m) := by
  intro h3
  have hn : 2 ≤ p * m := Nat.le_trans hm (Nat.le_mul_of_pos_left _ hp)
  unfold badm at h
  rw [force_eq] at h
  change (!Nat.beq (pw 2 (p * m - 1) m) 1 || bad (p * m)) = true at h
  rw [Bool.or_eq_true] at h
  rcases h with h | h
  · have f2 := one_mod_dvd (h3.1.fermat hn) (Nat.dvd_mul_left m p)
    rw [Nat.mod_eq_of_lt (show 1 < m by omega)] at f2
    rw [pw_eq, f2] at h
    exact absurd h (by decide)
  · exact bad_not hn hlt h h3
end Go.Proofs.Ytpjephicbiiamaa.Y

end
section
namespace Go.Proofs.Ytpjephicbiiamaa.Y
set_option linter.unusedVariables false
set_option linter.unusedSimpArgs false
def SM : List Nat := [2, 3, 5, 7, 11, 13, 17, 19, 23, 29, 31, 37, 41, 43, 47, 53, 59, 61, 67, 71, 73, 79, 83, 89, 97, 101, 103, 107, 109, 113, 127, 131, 137, 139, 149, 151, 157, 163, 167, 173, 179, 181, 191, 193, 197, 199, 211, 223, 227, 229, 233, 239, 241, 251]
def PR : Nat := 64266330917908644872330635228106713310880186591609208114244758680898150367880703152525200743234420230
theorem PR_eq : PR = prod SM := by decide +kernel
theorem PR_small : ∀ d, d < 256 → 2 ≤ d → PR % d = 0 ∨ ∃ e, e < d ∧ 2 ≤ e ∧ d % e = 0 := by decide +kernel
theorem SM_lt : ∀ p ∈ SM, p < 256 ∧ 2 ≤ p := by decide +kernel
theorem Pr.mem_prod {p : Nat} (hp : Pr p) : ∀ l : List Nat, p ∣ prod l → ∃ x ∈ l, p ∣ x
  | [], h => by have := Nat.le_of_dvd (by decide) (show p ∣ 1 from h); have := hp.1; omega
  | x :: l, h => by
    rcases hp.dvd_mul (show p ∣ x * prod l from h) with h | h
    · exact ⟨x, List.mem_cons_self .., h⟩
    · obtain ⟨y, hy, hd⟩ := hp.mem_prod l h
      exact ⟨y, List.mem_cons_of_mem _ hy, hd⟩
theorem small_dvd {p : Nat} (hp : Pr p) (h : p < 256) : p ∣ PR := by
  rcases PR_small p h hp.1 with h | ⟨e, he, he2, hd⟩
  · exact Nat.dvd_of_mod_eq_zero h
  · rcases hp.2 e (Nat.dvd_of_mod_eq_zero hd) with h | h <;> omega
theorem PR_lt {p : Nat} (hp : Pr p) (h : p ∣ PR) : p < 256 := by
  rw [PR_eq] at h
  obtain ⟨x, hx, hd⟩ := hp.mem_prod _ h
  have := SM_lt x hx
  have := Nat.le_of_dvd (by omega) hd
  omega
theorem comp_div {n : Nat} (h2 : 2 ≤ n) (h : ¬ Pr n) : ∃ p, Pr p ∧ p ∣ n ∧ p * p ≤ n := by
  have : ∃ d, d ∣ n ∧ d ≠ 1 ∧ d ≠ n := by
    apply Classical.byContradiction
    intro hc
    apply h
    refine ⟨h2, fun d hd => ?_⟩
    by_cases h1 : d = 1
    · exact .inl h1
    · by_cases h2 : d = n
      · exact .inr h2
      · exact absurd ⟨d, hd, h1, h2⟩ hc
  obtain ⟨d, ⟨e, hde⟩, h1, h3⟩ := this
  have hd0 : d ≠ 0 := by rintro rfl; rw [Nat.zero_mul] at hde; omega
  have he0 : e ≠ 0 := by rintro rfl; rw [Nat.mul_zero] at hde; omega
  have he1 : e ≠ 1 := by rintro rfl; rw [Nat.mul_one] at hde; omega
  rcases Nat.le_total d e with hle | hle
  · obtain ⟨p, hp, hpd⟩ := ex_pr d (by omega)
    have := Nat.le_of_dvd (by omega) hpd
    refine ⟨p, hp, hde ▸ Nat.dvd_trans hpd (Nat.dvd_mul_right d e), ?_⟩
    rw [hde]; exact Nat.mul_le_mul this (by omega)
  · obtain ⟨p, hp, hpd⟩ := ex_pr e (by omega)
    have := Nat.le_of_dvd (by omega) hpd
    refine ⟨p, hp, hde ▸ Nat.dvd_trans hpd (Nat.dvd_mul_left e d), ?_⟩
    rw [hde]; exact Nat.mul_le_mul (by omega) this
theorem isP_pr {q : Nat} (h2 : 2 ≤ q) (hlt : q < 65536) (hg : Nat.gcd q PR = 1) : Pr q := by
  apply Classical.byContradiction
  intro h
  obtain ⟨p, hp, hd, hpp⟩ := comp_div h2 h
  have hp256 : p < 256 := by
    apply Nat.lt_of_not_le
    intro h
    have := Nat.mul_le_mul h h
    omega
  have := Nat.dvd_gcd hd (small_dvd hp hp256)
  rw [hg] at this
  have := Nat.le_of_dvd (by decide) this
  have := hp.1
  omega
theorem pr_isP {q : Nat} (hq : Pr q) (h : 256 ≤ q) : Nat.gcd q PR = 1 := by
  apply hq.cop
  intro hd
  have := PR_lt hq hd
  omega
def allOne (q e : Nat) : Bool := Nat.beq (pw 2 e q) 1 && Nat.beq (pw 7 e q) 1 && Nat.beq (pw 61 e q) 1
def AllOne (q e : Nat) : Prop := 2 ^ e % q = 1 % q ∧ 7 ^ e % q = 1 % q ∧ 61 ^ e % q = 1 % q
theorem allOne_iff {q e : Nat} (hq : 2 ≤ q) : allOne q e = true ↔ AllOne q e := by
  unfold allOne AllOne
  rw [Bool.and_eq_true, Bool.and_eq_true, pw_eq, pw_eq, pw_eq, Nat.beq_eq, Nat.beq_eq, Nat.beq_eq, Nat.mod_eq_of_lt (show 1 < q by omega)]
  exact and_assoc
def stripR (r : Nat) : Nat → Nat → Nat
  | 0, x => x
  | f + 1, x => cond (Nat.beq (x % r) 0) (stripR r f (x / r)) x
def redL (q r : Nat) : Nat → Nat → Nat
  | 0, L => L
  | f + 1, L => cond (Nat.beq (L % r) 0 && allOne q (L / r)) (redL q r f (L / r)) L
def rsOf (q : Nat) : List Nat :=
  let l := SM.filter (fun r => Nat.beq ((q - 1) % r) 0)
  let c := l.foldl (fun x r => stripR r 16 x) (q - 1)
  cond (Nat.beq c 1) l (c :: l)
def mkL (q : Nat) (rs : List Nat) : Nat := rs.foldl (fun L r => redL q r 16 L) (q - 1)
def okR (r : Nat) : Bool := SM.contains r || (Nat.ble 2 r && Nat.blt r 65536 && Nat.beq (Nat.gcd r PR) 1)
def cert (q L : Nat) (rs : List Nat) : Bool :=
  allOne q L && rs.all (fun r => okR r && (!Nat.beq (L % r) 0 || !allOne q (L / r))) && Nat.beq (rs.foldl (fun x r => stripR r 16 x) L) 1
theorem SM_pr : ∀ p ∈ SM, Pr p := by
  intro p hp
  have h := SM_lt p hp
  have H : ∀ p ∈ SM, ∀ d, d < 256 → 2 ≤ d → p % d = 0 → d = p := by decide +kernel
  refine ⟨h.2, fun d hd => ?_⟩
  have hle := Nat.le_of_dvd (by omega) hd
  have h0 : d ≠ 0 := by rintro rfl; have := Nat.zero_dvd.1 hd; omega
  by_cases h1 : d = 1
  · exact .inl h1
  · exact .inr (H p hp d (by omega) (by omega) (Nat.mod_eq_zero_of_dvd hd))
theorem okR_pr {r : Nat} (h : okR r = true) : Pr r := by
  unfold okR at h
  rw [Bool.or_eq_true] at h
  rcases h with h | h
  · exact SM_pr r (by simpa using h)
  · simp only [Bool.and_eq_true] at h
    exact isP_pr (Nat.le_of_ble_eq_true h.1.1) (Nat.lt_of_le_of_lt (show r ≤ 65535 by have := h.1.2; simpa [Nat.blt] using this) (by decide)) (Nat.eq_of_beq_eq_true h.2)
theorem stripR_dvd {p r : Nat} (hp : Pr p) : ∀ (f x : Nat), p ∣ x → p ∣ r ∨ p ∣ stripR r f x := by
  intro f
  induction f with
  | zero => intro x h; exact .inr h
  | succ f ih =>
    intro x h
    unfold stripR
    cases hc : Nat.beq (x % r) 0 with
    | false => exact .inr h
    | true =>
      have hd := Nat.dvd_of_mod_eq_zero (Nat.eq_of_beq_eq_true hc)
      obtain ⟨k, hk⟩ := hd
      rw [hk] at h
      rcases hp.dvd_mul h with h1 | h1
      · exact .inl h1
      · by_cases hr : r = 0
        · subst hr; exact .inl (Nat.dvd_zero p)
        · refine ih _ ?_
          rw [hk, Nat.mul_div_cancel_left _ (Nat.pos_of_ne_zero hr)]
          exact h1
theorem stripAll_dvd {p : Nat} (hp : Pr p) : ∀ (rs : List Nat) (x : Nat), p ∣ x → (∃ r ∈ rs, p ∣ r) ∨ p ∣ rs.foldl (fun x r => stripR r 16 x) x
  | [], x, h => .inr h
  | r :: rs, x, h => by
    rcases stripR_dvd (r := r) hp 16 x h with h1 | h1
    · exact .inl ⟨r, List.mem_cons_self .., h1⟩
    · rcases stripAll_dvd hp rs _ h1 with ⟨s, hs, h2⟩ | h2
      · exact .inl ⟨s, List.mem_cons_of_mem _ hs, h2⟩
      · exact .inr h2
theorem AllOne.of_dvd {q m n : Nat} (h : AllOne q m) (hd : m ∣ n) : AllOne q n := ⟨pow_one_dvd h.1 hd, pow_one_dvd h.2.1 hd, pow_one_dvd h.2.2 hd⟩
structure Good (q : Nat) : Prop where
  pr : Pr q
  n2 : ¬ q ∣ 2
  n7 : ¬ q ∣ 7
  n61 : ¬ q ∣ 61
theorem AllOne.gcd {q m n : Nat} (hq : Good q) (h : AllOne q m) (k : AllOne q n) : AllOne q (Nat.gcd m n) :=
  ⟨pow_gcd (hq.pr.cop hq.n2).symm _ _ h.1 k.1, pow_gcd (hq.pr.cop hq.n7).symm _ _ h.2.1 k.2.1, pow_gcd (hq.pr.cop hq.n61).symm _ _ h.2.2 k.2.2⟩
theorem cert_dvd {q L : Nat} {rs : List Nat} (hq : Good q) (hL : 0 < L) (h : cert q L rs = true) {e : Nat} (he : AllOne q e) : L ∣ e := by
  unfold cert at h
  simp only [Bool.and_eq_true, List.all_eq_true] at h
  obtain ⟨⟨h1, h2⟩, h3⟩ := h
  have h1' := (allOne_iff hq.pr.1).1 h1
  have hg := h1'.gcd hq he
  have hgd : Nat.gcd L e ∣ L := Nat.gcd_dvd_left L e
  obtain ⟨k, hk⟩ := hgd
  by_cases hk1 : k = 1
  · rw [hk1, Nat.mul_one] at hk
    rw [hk]; exact Nat.gcd_dvd_right L e
  · have hk0 : k ≠ 0 := by rintro rfl; rw [Nat.mul_zero] at hk; omega
    obtain ⟨p, hp, hpk⟩ := ex_pr k (by omega)
    have hpL : p ∣ L := hk ▸ Nat.dvd_trans hpk (Nat.dvd_mul_left k _)
    rcases stripAll_dvd hp rs L hpL with ⟨r, hr, hpr⟩ | h4
    · have hr2 := h2 r hr
      rw [Bool.or_eq_true] at hr2
      have := hp.ne_dvd (okR_pr hr2.1) hpr
      subst this
      obtain ⟨j, hj⟩ := hpk
      have e1 : L / p = Nat.gcd L e * j := by
        conv => lhs; rw [hk, hj, Nat.mul_left_comm]
        exact Nat.mul_div_cancel_left _ (by have := hp.1; omega)
      have h5 : AllOne q (L / p) := by rw [e1]; exact hg.of_dvd (Nat.dvd_mul_right _ _)
      rcases hr2.2 with h6 | h6
      · rw [Nat.mod_eq_zero_of_dvd hpL] at h6; exact absurd h6 (by decide)
      · rw [(allOne_iff hq.pr.1).2 h5] at h6; exact absurd h6 (by decide)
    · rw [Nat.eq_of_beq_eq_true h3] at h4
      have := Nat.le_of_dvd (by decide) h4
      have := hp.1
      omega
noncomputable def scan (p L k : Nat) : Nat → Bool := Nat.rec (fun _ => true) (fun _ ih m => badm p m && force (Nat.add m L) ih) k
theorem scan_succ (p L k m : Nat) : scan p L (k + 1) m = (badm p m && force (Nat.add m L) (scan p L k)) := rfl
theorem scan_all {p L : Nat} : ∀ (k m : Nat), scan p L k m = true → ∀ j, j < k → badm p (m + j * L) = true := by
  intro k
  induction k with
  | zero => intro m _ j hj; omega
  | succ k ih =>
    intro m h j hj
    rw [scan_succ, force_eq] at h
    change (badm p m && scan p L k (m + L)) = true at h
    rw [Bool.and_eq_true] at h
    cases j with
    | zero => simpa using h.1
    | succ j =>
      have := ih _ h.2 j (by omega)
      rwa [show m + L + j * L = m + (j + 1) * L by rw [Nat.succ_mul]; omega] at this
noncomputable def scanP (p : Nat) : Bool :=
  let rs := rsOf p
  let L := mkL p rs
  force L (fun L => Nat.ble 1 L && cert p L rs && force ((4294967295 / p - 1) / L) (fun K => force (1 + L) (scan p L K)))
theorem allOne_cof {p m n : Nat} (hp : Good p) (hm : 1 ≤ m) (hn : n = p * m) (h : AllOne p (n - 1)) : AllOne p (m - 1) := by
  have e : n - 1 = (p - 1) * m + (m - 1) := by
    have := hp.pr.1
    obtain ⟨q, rfl⟩ : ∃ q, p = q + 1 := ⟨p - 1, by omega⟩
    rw [hn, Nat.add_mul, Nat.one_mul, Nat.add_sub_cancel]; omega
  have key : ∀ a, ¬ p ∣ a → a ^ (n - 1) % p = 1 % p → a ^ (m - 1) % p = 1 % p := by
    intro a ha h
    rw [e, Nat.pow_add, Nat.mul_mod, pow_mod_mul _ _ _ _ (fermat hp.pr ha), ← Nat.mul_mod, Nat.one_mul] at h
    exact h
  exact ⟨key 2 hp.n2 h.1, key 7 hp.n7 h.2.1, key 61 hp.n61 h.2.2⟩
theorem SP3.allOne {n p : Nat} (hn : 2 ≤ n) (h : SP3 n) (hp : p ∣ n) : AllOne p (n - 1) := ⟨one_mod_dvd (h.1.fermat hn) hp, one_mod_dvd (h.2.1.fermat hn) hp, one_mod_dvd (h.2.2.fermat hn) hp⟩
theorem scanP_not {p n : Nat} (hp : Good p) (h : scanP p = true) (hd : p ∣ n) (hne : n ≠ p) (hn : 2 ≤ n) (hlt : n < 4294967296) : ¬ SP3 n := by
  intro h3
  unfold scanP at h
  simp only [force_eq, Bool.and_eq_true] at h
  obtain ⟨⟨hL, hc⟩, hs⟩ := h
  have hL := Nat.le_of_ble_eq_true hL
  obtain ⟨m, hm⟩ := hd
  have hp2 := hp.pr.1
  have hm0 : m ≠ 0 := by rintro rfl; omega
  have hm1 : m ≠ 1 := by rintro rfl; rw [Nat.mul_one] at hm; exact hne hm
  have hd := cert_dvd hp hL hc (allOne_cof hp (by omega) hm (h3.allOne hn ⟨m, hm⟩))
  obtain ⟨j, hj⟩ := hd
  have hj0 : j ≠ 0 := by rintro rfl; omega
  have hmle : m ≤ 4294967295 / p := (Nat.le_div_iff_mul_le (by omega)).2 (by rw [Nat.mul_comm, ← hm]; omega)
  have hjle : j ≤ (4294967295 / p - 1) / mkL p (rsOf p) := (Nat.le_div_iff_mul_le hL).2 (by rw [Nat.mul_comm, ← hj]; omega)
  have hb := scan_all _ _ hs (j - 1) (by omega)
  have e : 1 + mkL p (rsOf p) + (j - 1) * mkL p (rsOf p) = m := by
    obtain ⟨i, rfl⟩ : ∃ i, j = i + 1 := ⟨j - 1, by omega⟩
    rw [Nat.add_sub_cancel]
    rw [Nat.mul_add, Nat.mul_one, Nat.mul_comm] at hj
    omega
  rw [e] at hb
  exact badm_not (by omega) (by omega) (by rw [← hm]; exact hlt) hb (hm ▸ h3)
noncomputable def scanR (k : Nat) : Nat → Bool := Nat.rec (fun _ => true) (fun _ ih q => cond (Nat.beq (Nat.gcd q PR) 1) (scanP q) true && force (Nat.add q 2) ih) k
theorem scanR_succ (k q : Nat) : scanR (k + 1) q = (cond (Nat.beq (Nat.gcd q PR) 1) (scanP q) true && force (Nat.add q 2) (scanR k)) := rfl
theorem scanR_all : ∀ (k q : Nat), scanR k q = true → ∀ j, j < k → Nat.gcd (q + 2 * j) PR = 1 → scanP (q + 2 * j) = true := by
  intro k
  induction k with
  | zero => intro q _ j hj; omega
  | succ k ih =>
    intro q h j hj hg
    rw [scanR_succ, force_eq] at h
    change (cond (Nat.beq (Nat.gcd q PR) 1) (scanP q) true && scanR k (q + 2)) = true at h
    rw [Bool.and_eq_true] at h
    cases j with
    | zero =>
      rw [Nat.mul_zero, Nat.add_zero] at hg ⊢
      have := h.1
      rw [hg] at this
      exact this
    | succ j =>
      have e : q + 2 + 2 * j = q + 2 * (j + 1) := by omega
      have := ih (q + 2) h.2 j (by omega)
      rw [e] at this
      exact this hg
end Go.Proofs.Ytpjephicbiiamaa.Y

end
section
namespace Go.Proofs.Ytpjephicbiiamaa.Y
theorem run0 : scanR 46 1001 = true := by decide +kernel
theorem run1 : scanR 61 1093 = true := by decide +kernel
theorem run2 : scanR 57 1215 = true := by decide +kernel
theorem run3 : scanR 92 1329 = true := by decide +kernel
theorem run4 : scanR 105 1513 = true := by decide +kernel
theorem run5 : scanR 141 1723 = true := by decide +kernel
theorem run6 : scanR 190 2005 = true := by decide +kernel
theorem run7 : scanR 230 2385 = true := by decide +kernel
theorem run8 : scanR 310 2845 = true := by decide +kernel
theorem run9 : scanR 389 3465 = true := by decide +kernel
theorem run10 : scanR 510 4243 = true := by decide +kernel
theorem run11 : scanR 550 5263 = true := by decide +kernel
theorem run12 : scanR 681 6363 = true := by decide +kernel
theorem run13 : scanR 738 7725 = true := by decide +kernel
theorem run14 : scanR 777 9201 = true := by decide +kernel
theorem run15 : scanR 867 10755 = true := by decide +kernel
theorem run16 : scanR 878 12489 = true := by decide +kernel
theorem run17 : scanR 864 14245 = true := by decide +kernel
theorem run18 : scanR 955 15973 = true := by decide +kernel
theorem run19 : scanR 960 17883 = true := by decide +kernel
theorem run20 : scanR 941 19803 = true := by decide +kernel
end Go.Proofs.Ytpjephicbiiamaa.Y

end
section
namespace Go.Proofs.Ytpjephicbiiamaa.Y
theorem run21 : scanR 970 21685 = true := by decide +kernel
theorem run22 : scanR 1005 23625 = true := by decide +kernel
theorem run23 : scanR 1028 25635 = true := by decide +kernel
theorem run24 : scanR 970 27691 = true := by decide +kernel
theorem run25 : scanR 1049 29631 = true := by decide +kernel
theorem run26 : scanR 993 31729 = true := by decide +kernel
theorem run27 : scanR 1063 33715 = true := by decide +kernel
theorem run28 : scanR 1020 35841 = true := by decide +kernel
theorem run29 : scanR 1067 37881 = true := by decide +kernel
theorem run30 : scanR 1059 40015 = true := by decide +kernel
theorem run31 : scanR 1045 42133 = true := by decide +kernel
theorem run32 : scanR 1118 44223 = true := by decide +kernel
theorem run33 : scanR 1083 46459 = true := by decide +kernel
theorem run34 : scanR 1075 48625 = true := by decide +kernel
theorem run35 : scanR 1089 50775 = true := by decide +kernel
theorem run36 : scanR 1083 52953 = true := by decide +kernel
theorem run37 : scanR 1043 55119 = true := by decide +kernel
theorem run38 : scanR 1087 57205 = true := by decide +kernel
theorem run39 : scanR 1133 59379 = true := by decide +kernel
theorem run40 : scanR 1098 61645 = true := by decide +kernel
theorem run41 : scanR 848 63841 = true := by decide +kernel
end Go.Proofs.Ytpjephicbiiamaa.Y

end
section
namespace Go.Proofs.Ytpjephicbiiamaa.Y
set_option linter.unusedVariables false
set_option linter.unusedSimpArgs false
def PL : List (Nat × Nat × Nat) := [(3, 2, 10000), (5, 4, 20200), (11, 10, 10101), (13, 12, 20200), (17, 16, 30404), (19, 18, 10000), (23, 22, 101), (29, 28, 20002), (31, 30, 1), (37, 36, 20002), (41, 40, 20302), (43, 42, 10101), (47, 23, 0), (53, 52, 20102), (59, 58, 10001), (67, 66, 10101), (71, 70, 101), (73, 72, 302), (79, 78, 101), (83, 82, 10000), (89, 88, 303), (97, 96, 40500), (101, 100, 20202), (103, 51, 0), (107, 106, 10100), (109, 108, 20001), (113, 56, 20103), (127, 126, 100), (131, 130, 10000), (137, 68, 20202), (139, 138, 10001), (149, 148, 20101), (151, 150, 101), (157, 156, 20202), (163, 162, 10100), (167, 83, 0), (173, 172, 20202), (179, 178, 10100), (181, 180, 20202), (191, 190, 101), (193, 192, 50306), (197, 196, 20100), (199, 99, 0), (211, 210, 10101), (223, 222, 1), (227, 226, 10001), (229, 228, 20200), (233, 232, 203), (239, 238, 100), (241, 240, 30403), (251, 250, 10001), (257, 256, 40807), (263, 262, 100), (269, 268, 20200), (271, 135, 0), (277, 276, 20102), (281, 280, 10203), (283, 282, 10000), (293, 292, 20201), (307, 306, 10001), (311, 310, 1), (313, 312, 20303), (317, 316, 20101), (331, 330, 10101), (337, 336, 304), (347, 346, 10100), (349, 348, 20202), (353, 352, 30503), (359, 358, 101), (367, 183, 0), (373, 372, 20102), (379, 378, 10100), (383, 382, 1), (389, 388, 20002), (397, 396, 20202), (401, 400, 30304), (409, 408, 20303), (419, 418, 10001), (421, 420, 20102), (431, 430, 100), (433, 432, 30404), (439, 73, 0), (443, 442, 10100), (449, 224, 50405), (457, 456, 20103), (461, 460, 20201), (463, 462, 100), (467, 466, 10001), (479, 239, 0), (487, 486, 100), (491, 490, 10100), (499, 498, 10101), (503, 251, 0), (509, 508, 20202), (521, 520, 20303), (523, 522, 10001), (541, 540, 20102), (547, 546, 10101), (557, 556, 20102), (563, 562, 10000), (569, 284, 20202), (571, 570, 10100), (577, 576, 40606), (587, 586, 10001), (593, 592, 20404), (599, 598, 101), (601, 600, 302), (607, 303, 0), (613, 612, 20000), (617, 616, 10203), (619, 618, 10000), (631, 630, 101), (641, 640, 60607), (643, 642, 10001), (647, 646, 1), (653, 652, 20002), (659, 658, 10100), (661, 660, 20202), (673, 672, 40405), (677, 676, 20202), (683, 682, 10100), (691, 690, 10000), (701, 700, 20002), (709, 708, 20002), (719, 359, 0), (727, 363, 0), (733, 732, 20200), (739, 738, 10101), (743, 742, 101), (751, 750, 100), (757, 756, 20001), (761, 760, 20303), (769, 768, 70808), (773, 772, 20201), (787, 786, 10001), (797, 796, 20200), (809, 404, 20002), (811, 810, 10001), (821, 820, 20102), (823, 822, 101), (827, 826, 10100), (829, 828, 20201), (839, 419, 0), (853, 852, 20200), (857, 856, 20302), (859, 858, 10000), (863, 862, 100), (877, 876, 20002), (881, 880, 402), (883, 882, 10101), (887, 886, 1), (907, 906, 10101), (911, 182, 100), (919, 918, 100), (929, 928, 40504), (937, 936, 300), (941, 940, 20202), (947, 946, 10101), (953, 952, 20103), (967, 966, 100), (971, 970, 10000), (977, 488, 30300), (983, 982, 1), (991, 990, 100), (997, 996, 20202)]
def tB (a p i : Nat) : Bool := let q := dec 32 0 (p - 1); Nat.beq (pw a (2 ^ i * q.2) p) 1
def clsB (a p v : Nat) : Bool := tB a p v && (Nat.beq v 0 || !tB a p (v - 1))
def rowB (x : Nat × Nat × Nat) : Bool :=
  let p := x.1; let L := x.2.1; let v := x.2.2
  SM.contains p || (Nat.ble 2 p && Nat.blt p 1000 && Nat.beq (Nat.gcd p PR) 1)
def rowC (x : Nat × Nat × Nat) : Bool :=
  let p := x.1; let L := x.2.1; let v := x.2.2
  Nat.blt p 1000 && !Nat.beq p 2 && !Nat.beq p 7 && !Nat.beq p 61 && Nat.ble 1 L && cert p L (rsOf p) && clsB 2 p (v / 10000) && clsB 7 p (v / 100 % 100) && clsB 61 p (v % 100) && Nat.beq (pw 2 (p * (p - 1)) (p * p)) 1 && !Nat.beq (pw 2 (p - 1) (p * p)) 1
theorem PL_rows : PL.all (fun x => rowB x && rowC x) = true := by decide +kernel
theorem PL_full : ∀ d, d < 1000 → (d = 0 ∨ d = 1 ∨ d = 2 ∨ d = 7 ∨ d = 61 ∨ (PL.any (fun x => Nat.beq x.1 d)) = true ∨ (∃ e, e < 32 ∧ 2 ≤ e ∧ e < d ∧ d % e = 0)) := by decide +kernel
structure Row (x : Nat × Nat × Nat) : Prop where
  good : Good x.1
  lt : x.1 < 1000
  per : ∀ e, AllOne x.1 e → x.2.1 ∣ e
  c2 : T 2 x.1 (x.2.2 / 10000) ∧ (x.2.2 / 10000 = 0 ∨ ¬ T 2 x.1 (x.2.2 / 10000 - 1))
  c7 : T 7 x.1 (x.2.2 / 100 % 100) ∧ (x.2.2 / 100 % 100 = 0 ∨ ¬ T 7 x.1 (x.2.2 / 100 % 100 - 1))
  c61 : T 61 x.1 (x.2.2 % 100) ∧ (x.2.2 % 100 = 0 ∨ ¬ T 61 x.1 (x.2.2 % 100 - 1))
  sq : 2 ^ (x.1 * (x.1 - 1)) % (x.1 * x.1) = 1 % (x.1 * x.1) ∧ 2 ^ (x.1 - 1) % (x.1 * x.1) ≠ 1 % (x.1 * x.1)
theorem tB_iff {a p i : Nat} (hp : 2 ≤ p) (hlt : p < 4294967296) : tB a p i = true ↔ T a p i := by
  obtain ⟨j, e1, e2, e3⟩ := dec_eq 32 0 (p - 1) (by omega) (by omega)
  unfold tB
  simp only [pw_eq]
  constructor
  · intro h
    exact ⟨j, _, e2, e3, by rw [Nat.eq_of_beq_eq_true h, Nat.mod_eq_of_lt (by omega)]⟩
  · rintro ⟨t, d, f1, f2, h⟩
    obtain ⟨rfl, rfl⟩ := odd_uniq (f1.symm.trans e2) f2 e3
    rw [h, Nat.mod_eq_of_lt (by omega)]; rfl
theorem clsB_iff {a p v : Nat} (hp : 2 ≤ p) (hlt : p < 4294967296) (h : clsB a p v = true) : T a p v ∧ (v = 0 ∨ ¬ T a p (v - 1)) := by
  unfold clsB at h
  rw [Bool.and_eq_true, Bool.or_eq_true] at h
  refine ⟨(tB_iff hp hlt).1 h.1, ?_⟩
  rcases h.2 with h2 | h2
  · exact .inl (Nat.eq_of_beq_eq_true h2)
  · right
    intro h3
    rw [(tB_iff hp hlt).2 h3] at h2
    exact absurd h2 (by decide)
theorem not_dvd_pr {p q : Nat} (hp : Pr p) (hq : Pr q) (h : p ≠ q) : ¬ p ∣ q := fun hd => h (hp.ne_dvd hq hd)
theorem pr_dec (q : Nat) (h2 : 2 ≤ q) (h : ∀ d, d < q → 2 ≤ d → q % d ≠ 0) : Pr q := by
  refine ⟨h2, fun d hd => ?_⟩
  have hle := Nat.le_of_dvd (by omega) hd
  have h0 : d ≠ 0 := by rintro rfl; have := Nat.zero_dvd.1 hd; omega
  by_cases h1 : d = 1
  · exact .inl h1
  · by_cases h3 : d = q
    · exact .inr h3
    · exact absurd (Nat.mod_eq_zero_of_dvd hd) (h d (by omega) (by omega))
theorem pr2 : Pr 2 := pr_dec 2 (by decide) (by decide)
theorem pr7 : Pr 7 := pr_dec 7 (by decide) (by decide)
theorem pr61 : Pr 61 := pr_dec 61 (by decide) (by decide)
theorem good_of {p : Nat} (hp : Pr p) (h2 : p ≠ 2) (h7 : p ≠ 7) (h61 : p ≠ 61) : Good p := ⟨hp, not_dvd_pr hp pr2 h2, not_dvd_pr hp pr7 h7, not_dvd_pr hp pr61 h61⟩
theorem row_of {x : Nat × Nat × Nat} (hx : x ∈ PL) : Row x := by
  have h := List.all_eq_true.1 PL_rows x hx
  rw [Bool.and_eq_true] at h
  obtain ⟨hb, hc⟩ := h
  have hp : Pr x.1 := by
    refine okR_pr ?_
    unfold rowB at hb
    unfold okR
    rw [Bool.or_eq_true] at hb ⊢
    rcases hb with h | h
    · exact .inl h
    · right
      simp only [Bool.and_eq_true] at h ⊢
      refine ⟨⟨h.1.1, ?_⟩, h.2⟩
      have h9 : x.1 ≤ 999 := by have := h.1.2; simpa [Nat.blt] using this
      show Nat.ble (x.1 + 1) 65536 = true
      exact Nat.ble_eq_true_of_le (by omega)
  unfold rowC at hc
  simp only [Bool.and_eq_true] at hc
  obtain ⟨⟨⟨⟨⟨⟨⟨⟨⟨⟨h1, h2⟩, h3⟩, h4⟩, h5⟩, h6⟩, h7⟩, h8⟩, h9⟩, h10⟩, h11⟩ := hc
  have hlt : x.1 < 1000 := by
    have h9 : x.1 ≤ 999 := by simpa [Nat.blt] using h1
    omega
  have ne_of : ∀ a b : Nat, (!Nat.beq a b) = true → a ≠ b := by
    rintro a b h rfl
    rw [Nat.beq_refl] at h; exact absurd h (by decide)
  have hg := good_of hp (ne_of _ _ h2) (ne_of _ _ h3) (ne_of _ _ h4)
  have hp2 := hp.1
  have hsq : 1 < x.1 * x.1 := Nat.lt_of_lt_of_le hp2 (Nat.le_mul_of_pos_left _ (by omega))
  refine ⟨hg, hlt, fun e he => cert_dvd hg (Nat.le_of_ble_eq_true h5) h6 he, clsB_iff hp2 (by omega) h7, clsB_iff hp2 (by omega) h8, clsB_iff hp2 (by omega) h9, ?_, ?_⟩
  · have := Nat.eq_of_beq_eq_true h10
    rw [pw_eq] at this
    rw [this, Nat.mod_eq_of_lt hsq]
  · have := ne_of _ _ h11
    rw [pw_eq] at this
    rwa [Nat.mod_eq_of_lt hsq]
def forceN (x : Nat) (f : Nat → Nat) : Nat := Nat.casesOn x (f 0) (fun n => f (Nat.succ n))
theorem forceN_eq (x : Nat) (f : Nat → Nat) : forceN x f = f x := by cases x <;> rfl
noncomputable def mkR (k : Nat) : Nat → Nat → Nat := Nat.rec (fun _ acc => acc) (fun _ ih q acc => forceN (Nat.add q 2) (fun q' => forceN (cond (Nat.beq (Nat.gcd q PR) 1) (Nat.mul acc q) acc) (fun acc' => ih q' acc'))) k
theorem mkR_dvd {Q : Nat} (hQ : Pr Q) : ∀ (k q acc : Nat), Q ∣ mkR k q acc → Q ∣ acc ∨ Q < q + 2 * k := by
  intro k
  induction k with
  | zero => intro q acc h; exact .inl h
  | succ k ih =>
    intro q acc h
    have h' : Q ∣ mkR k (q + 2) (cond (Nat.beq (Nat.gcd q PR) 1) (acc * q) acc) := by
      have h2 : Q ∣ forceN (q + 2) (fun q' => forceN (cond (Nat.beq (Nat.gcd q PR) 1) (acc * q) acc) (fun acc' => mkR k q' acc')) := h
      rwa [forceN_eq, forceN_eq] at h2
    rcases ih _ _ h' with h1 | h1
    · cases hc : Nat.beq (Nat.gcd q PR) 1 with
      | false => rw [hc] at h1; exact .inl h1
      | true =>
        rw [hc] at h1
        rcases hQ.dvd_mul (show Q ∣ acc * q from h1) with h2 | h2
        · exact .inl h2
        · right
          by_cases hq : q = 0
          · subst hq
            have : Nat.gcd 0 PR = PR := Nat.gcd_zero_left _
            rw [this] at hc
            exact absurd hc (by decide)
          · have := Nat.le_of_dvd (by omega) h2; omega
    · right; omega
def RR : Nat := 664294312873588591557696282245080384613808600692072289299106734227519427216562269334647365766239130550478814511606893741397102226899229592648042029334009556195606460038548885243012915724086088933150947844648962127227057503685079074520504204641963637568361509564712554731536709093444200873839578014224997581169606987447005891344530361460695481120350492676281066779643313109845937291835830591238181827151151009778678653674198023449317675178043403160690141565712372806288424521963746776431503438964269820990956342782943941245756580810070290909721207921954876543302091151500005637335463840825814644905229649471756751774157609378642831029380081200989980353728995541571528925052067362528008067901786017910320792470370151712638151335422778326714762560890693857620024107975928964781885832717455143331405615508597701432765328412505887470069746527021920202101980042621921604651206895349245634289423213589870994260996904587945567230817159685332345157307873149533560650747529443816913977810088613335551696421967060900485074173948223212787591719152643895516542754302832861025566397679248767980266219420088389364921524056865561832550898752972463827420254261530230107015695110085159942966938284125453441755512045631601058463705839402331786978011511368593018893495969673193789487884349043804363893603032439809879528794823699444136334925932775766686462902840219206553505420500787934642762298323250592086676640222475394674271267116860123143569636394655071922810862471281342670274405520839394000581029373614876384970097679583676205241282770396713388372294002336419808334454967731304490047458465850619525334828990220030656514586982922714610380252772562653135748569019447122144172164961237868814662061782747322200821818832983236531382728161662178309119563343907186381636138067332727535000940784288177101379969575459314289879627738887094933551102262431855758698190052637562011986602071795574857043303039012474926807434439622321558963528649034285925435997441831708915415773485726592216610202570714152758526418056016320210052924093410212199195453446505961754151852060011774457149961236225092743843593049944390631939484170018037044109733742758364190603936125976650870671196062166809111303562926769367041542166826254045509351778984612311316113036931134710079520197202939872029521910739793914535494900852576235513115535205380678254679480307251516766015561622253162370971111707774400393555728035248327261471675598308082375085566624652206859385659162599560708706589313218953035895648881232468167835282942812310109644190932631317216459772285012553786651505120584093823556467259089406884580804215987672169800883405635229136692628023346037432853813750699205036645927199680972899730049233786061510506991051767522945656882092048610690370686018161946135554340718155042881568841237660787454623322527657649459803574801185536290290335300349119994684824732883661000279969799448344906653948043799692165755551821190733925750529611505079781810225445140081734860862607451848855201041443235296598763449654724274807790092660859848753247911152279717109087244465315454843071252834684645507160978263085650060942260143649007252087087535805128978768646330786459536763690151459924294540940629804851648609224178040344534198618935247234971003399865635966830179984624511507000141511833561347083906383130270583249191676236594179003054046521411052858474915669400849346802108310685936670799144910681949029403544827528870351225084740137353440618102775874749079664878862337856067677303616881465358178344303826220727210018063619605120248022656291747612076001179773701499464124912398569284842596735444087685676543348180766411961621913021801290613547627050675798613875721520337314378232164888855603985152156633162995365492424343525505160584545850917066555725654187891394643557248934242125562341297812500258976625107570954003005078964710094221537596675582449215422350113033673032302021449178312454146636551468488089554448846020015229659659125012535031334823696801414530680581877031292162021717624813609083857726832665379804087697211736196728082798252877268606854398792014447627818256914135435080802869147937186498936605413587665437694206319708734860840102992161368005469878139970614695966448362643459139734741026870821379333637514741873508643268526549390230049621554284739523981559565888380088714171424070743935802934425784977050871138890082606778867856831184727627483718457828475588931039581072518760026638403474684267559589790677695223639464661138392586948618466033541277993994432170170732988676147989110855243778319793544063046443934398759300064382143503056023724594670575516914848065409579027286596438917806270299022787187631671330373195967229372020388375954736032894605418643681648233666465483900022587964685549626653085121649784269215722370363539265551701815949145100808081546739371033735231679425973084198405370140757474797405568728635390261000361420285506786559745895776289537128532036568297140921356493641214832054120858789188923597402396811491641859042452190516144025067157829889027899893806212446820586432611396134741679937867280073191979037922395607960573228550985455116161949034680686656276778698036650418980675523924458963526663373961188436818078730574993091503591378733453477091927566930903605515852348892894322368244785224640325702228728298769204460646306299360773679636760190255412883113708371922916075381269175130281806558014693121129368998826062105026840194294760670145052955003567579381592325678974210003310584510905499233233948199003994485352256729755236197523149427182288506751320539420561438855892397327899026880420346504889193917381376567663219965664987034302057619727078592452800522469288645711228947391323760436210555285175203710334154439166491832955761218738128987172013543245811842830794301151294365193163883205838246123151349183299505510897780294653923300487243920029283388793566973043681803684534421564433320478122124334210776731222840772956021054992644215340909109144930588768397379079944174218807676647661195559728867082913826093201306627807196372037814388090767237608805211423900490148103660683504725434949294804621065002411351123155188941519337946271565900759148269714070479931958007654875996200018333522412285609348600015658908568659639651605797093913094648095300006128032468823394700675866488446601764198998854941135906257600829031038817543423714012512387403134706445546599831907947848366925768881462793505714533465140085934287153817556972979012209541725386679679467534705238992617741786573451729715208512631141479638929152245134088610842129790690654777954254122968888044232433720820658645354913014067750663734578940389806908422789535863232112670302448227390374402541792436564002238049353781067735822721158257465370774093857129867913194888402480862529300116346326410873844494013125126028948887986812840925223918190431729765779981807516721218568325029274537225593365818431346356057605076348161317939641503820032479488678594116830114490937289321850267635594909298973549485892248884363252688981942378249850615745100062739331823399505125561578978028790597055446302357223884855262903092671803265041917435810797263160910523930611419590805856593501445058735203411287873518993304245936542118427628253484903531193177858967194655806557220517994525313017105242577695085899625593401121802544864421349380744052181027372406762526619232100168105610989758220268058576179265165669820366077906223425710890636377053362518664338478118860672730612991089013070390021262202769850561419150147818875557439272306377254706632049908724234682311229113789588524990286021956586530108801610654838309179432857985106433451343452718852493538324132638385035502401433757119057736617171252268728111662190151374012450518240779320639540825441090052832893890190715149097198092137999376656457355224070054413858765323481639607028873585328145422239507781614599526008062691652972424396427635447038371025303941403687153868443183378672823746358960756341503989381911488566401530543016852425348053040323206825891705250310230733979394773130617599940829698719033044130037195840838527365298185064654627611230844705984829801978439390355396839809435534339062888679415545906606734022383195356775142962315065299947625932191670241413973273164008610600201045749664824990651907553907130570096006437716626401356036795375061828368148611973619946813391106730324377245440073013588311671023329922649590361780844791839538152072200774760656738252907981914652085993357640400728582850032282137963570971127997236386394063385938599603501616725677991070724098016897878576292527570479766742488860531961680268175142248696205024928006369016953979975574446086984288304815564993718422132801681662848757216138370352100546467265894499599810777023040106090956939360205102341837125808216363561496302579047467115433312193526032433473049227686454052899784685239549459570017109132339647505630252362256416268562776960966450788733643952160049874388557364228396316703153356302775556574717685954912494186960687301295955349564465936672972517353238273843350246935627982005490928983022112191286677442471971688459800808151640700382974940735281498538957941406064086758211792446973227012359006757619811249325043520756958160881744407644537687773305522453464648546246980839120932961906479810579992604003925182955177568142728637678201254336636775482618247836012067003718320906308518776846710376691736975906480061966960671465939511304918060667470883759335227645064190635181955846702450508710696313254040397931131910367224897483800020814667811832142807079496752690554517760104731964827978955929796545291174876759541236874829668692373746382544570559877377178222695746537012557434295976025096224840421015707597083477571943727697908413919493466630363138008172775057475724937161399489679718879207853769830602575187380867963064017752875956359919372612254865068251997369802167164727494739196637440380136083213759959756168506524448697856931861823426899375561340594250311117175626560502212975134218933371507185012057908678174740829527231718849182171212618185902701976255473639682682193866390204112318653159881206635080273849087204037452070356151568836266699256547072235405318412029000212971842988963323619209197928129798560238311845474478123752566394637764640111276394364066008328278034434436088823487201656220824441942716398777083395651720337955421125505974290550781144256189716188419605113266908611999363700391165353395544956313967092633332576920676837635323665383259569657108760693383051358661804267812089074212255182455950995724641046445251906472130970634835513585028345196999885899919623620068306804954147643931128121285499031044222614000018122280740206190739971318469248294888175062562597847733572308365883295089095958392992159624821271605094659589964144682562256655815280678194123111003153540035406422184474948064807116583793041955537592653053170579409020463025652507167816738078533166436925024281323204920762811258998126295848640176845220369880460982009612718757026949261762735396132238459476656569359440096479979319322665461398177084961810056266497330037083924122483181203844731969755963746516469275741310134139339764967899492852240394394992011589632377807369658499359012554914152049352562982594923062856064938413304845515399900840953277276484100294808921572202603877097054867593433006299527912532255884422367391569631183657004659476684415089230796724891809050019877380402159419292222556285656740801284217624086521804846051410358789571108307489630840734317492313012276550156536374147008229496488943022777110008717032917784298160861420429323145783350435922349649219923929639645588712872910758148909370758763355492357839767241570538349012881803617609322740176309640673906292805569650024237925375410655273386981919796042253807962000335170723082618116859018841006994771021638707207416591125897439672948846025568807277346080919077218889565195094251076769625260279843666975558127182175512308565153713735868022914164138027926571544697555872055566223771183570164360969474356239979610632184781699843195723155057490392875676408811265880366026870389479882823026685587633995439044451828461599691342523914140658642201065238808161895388927197540274286290388441079773795713914129856097046647308979089500288248052552045176373625547820513368519704923321523336419483713007182303983629846421083985981983227874765938761084075023053552025104561453924332532802703950678448532590341265489638501844007757673237845545704058388944360199567992046152816423349292094460610817604849154339971661416429077621226997140385778241117584159017223716027629919384543141572776445743216566854828289329033505560704305809845117522359041619010694205202180274672425551157234916189120590335438592695348077206747901566332615514571246887538494039864626435879092689308240216450285320916861702211775231150910442741501764746591583679757851883395300274025895076029431785490680853572349427606082135723506556576242185289628445913508234483729133702949926376828556914112996554071919731333168244406411137172502584078060715416089419374874246595508917143139424102006079437352771564871980461005593179976712782681308108983803462650155524290998349066707151609480422663558526137222489860962404543023729071936057752156724539796643214283350028104748649293132524177358848808898679761408581795279986248704368996755383335042815190444801149798994399173844251337176165373294730089311563101921387245553706272562871972101631505626029531281265636898327687654386641347934541600716235239424321567282095337213388154668179649042671282149452250178302556713617925149076157975608660104117497745478630746137768983792767227610123340230249642942271500949482005048251629220368713601598889009855251373093262853121661619293476871970423827248378838575196071570875266928109921767411279018971250869273246141591024126216603928846308588171404054622518963489795339749330145860013482630173111793324970751164162339998279168331981139778275816134002066946775714182441854594574833720088569567271220970894254058039629170442303427140210505880769660246489772027705923640689863592829268057307062748988009213839652198308587672018242192687577958377014493721281789118537938059332982468051363814271219580965715701225840205892056663649186647570686011248969692754665893127052481120105490224843340832693462622486381657950827408457119726738933004938619930986459902082414825300423434452294034701292409389849313136551114787397453034123804027309700966747275034402594145097426437310406303543309486196103112312482689999344927079260295916440910894287061992498221832981765439717537537418404517085348313098506258603675113197703630992548192332222355605379985700145191410695566570970861684120434424763472833005541417496986936349014284155952122808191084477807901000897093914585153994748310344054629200843565235486056185181291807447602370696283559757973955819818036960076087708973898147501044257245737748617050536834808249122396008226451682633567515969322854229341898331649905487297845022267995548639359857252212418150217916575283369073620651286212620770099737873000131776038152474387216827946498926630138184828398105537722704285720668779573105520116548900190128938943156929289691666932009383443424611137920502288688536902203729265089728473270467826147818908192302919315430743204863660113035983622209876287271712663730728093828384684924643972441681563387743093160076500750426203874717594917709288467672091410632453770876886692447916546224556401979112191017816214307476267241688635504982225897351604727151462072597001238750487503189924018046780899353822522872934837906965577811804238997040803639156716899576856340610307940672647612659108084730908966769605220054404681682073091901366033583452314288918552747005605069854632911992069010705941095827991410047765317599793911921410118507984027993252709742864924546570324637485135449085648792908915050548752660214939831176602163460379590026069682508553343367472245007888181689705859201059112622196881749373229231178423273522109670408671385689377905307618398334393054722637717905954572252180024792826969123413997463630852421412771735202235625734056465592392253174069423938057505538585148455550463223934607157195385216180116709867998248114821503868617751717236328325851468490663864617925872063227947753541597100258262424125689829467248164441892370167593638783770915002648585973728637344621885039387931002066148080977120641252756963070650418703987550857674404715880865486453521763749792426178204389329742119587983440659171480766476638571515713797114270426034975955735856216003410678987148299203434465565587902734860994278977802745935157374771975082600485308849366811809083666269657397385564480749152424271533637737619370092492112859716548602679146696368223520621426508466813605849535863432658539111169964454700572679123640881298901479737438663506606718997663409456162963961946789982369669920356795136359370826525096985798852216586677138221720852371302932232314036929616221751933837728824951894304752018652622755235280030187651243509908516408245327847845699344401793488664461766052485889198917790775740520580095507556235643771617667533631498360651833572162037267990789146096512080153617850656354769670079583297835477164758357699859803242406121432623199446274024377084832848345149764306752655113847775328674813074562178410934883238205136877860895895897662960924322177990614731553581656015589023785181185050397652800241558890519582117708790171732770130758589058627412849268752594264564205145712352621071300970239806561850273242632509804642718946039199042400927136024594646694144981625367156547923081741184575382166294448874297998249728962938479455605114711694863189707921123831989228203648389461254979027199058335991086397957087697340046043291415882382645057356724730227602372245949552955044743570584254228818446040195423076449932488878340092658314381349551221277231706771355655906617008946490847931146944010231257653816011625003912147969540473005614133711548298577917287187356166528808667159115600048009484303128457083267002430560368054331411226948694778751048375354955910176154449234547461247906949232139616752778529454389832858552293467274514214324612254227095659572861032989173178402791394811027909197154919868910649140846456104456241890305312020529627466299170188638061325041514398522803102886939869794123473311022316868245992179242235376195752839615130530249724046073299317019108791875222952444985845914372143360741088251879966555258951772271643935209568706637493112406767231434704835866197272043714224662278006779814946420104596176954230904973430004387084550546216953419184320651250310502973340922755106009115911324680620825807518699507256350344157122069938636092348715365347355636785634592446845473946919543042611361788474698088641718353502244134149673540739804289550909657002599809964771375950487824072580625963950910832510484392026058309095400753025666689663223577221772707269039016003455054676875931732258974874335718753212637136000972760100177014849858944064819914411247937057392195535188178210612579550070062342254099734236642794136940803786598147927969917910991173412533742393318640278966041817842071949499833602876898484009877005846091648784303958620423992696825695420585797274706139223577943675630958952204606774362658988203835608332843680993487690768820910251364139805366229254058959336582162751580073391235753133998207964096682273088160327027563502857827262465590376854499248662915244783003208631626403159597521012882544189456540178377521502561288183808961798070047828171930219980197282332284809781293643445347490754364000265786963373833699661116488712174587843591756970094657020099965809581192295276046445722468525959503365296201077764162189861384396935117676495180594620827777146189179627126867996206790537424004263050550285251044226316335571661968524878900722111469690634668586186269698491084173244528083841419254530257785827747752063841384528721812658922395887990771423271363165779858190609563508359385787253326007062480638105878397497635122081818126613287890702999857546167487288197642752888098713811185772852028205296864702603732620320934102956963679627478548893131040823463724127504547623762209947157801873869575765968120510873530780857796213377479585253570996069567960340039066382507777661393304035597543383611953229587693755724055240420569999615720013526971058558807388718926043166327869235700488647092205871157506130392494591153796275066788502655237145515211791516868783162898671797072840600703992886823839067090146741044025342375552241472381791130496073431468235797278043442398956777177331132701681272800946894727526573642278717579954910620300186695543482826919944823280947144969696185419001446085963305645862546814302269906347634585627278025360824543492913974235994128894254456461392932360993114292041777511408636555875272324303550127444596771988495556269981577578373446621990214146367200752468343165319043237854375398036697914401508259787296984105433614565151519127130900350104465445439674599436782684736924314044213714896681092274040821576871223939400959395293200546907992400155964439742098839365377630833871047820577388754296464724424983426887739941409918997102834629161564506458727439111095135095607958142354047124215638003540049117298352621107371805021821484399001460784992399083761439987571460097901878784724632495084948385881041181029990032334269318420318297692948807093179484787958518732404784912664409951202297325301740886819807830607639412651774325731394741120154231167727312022320401760761704142746798955500497729451189263005876635511914958341823512238844142738694030538523827376638135729705862985076052443102740369185124066401390577448469975588461453236068796148279516824805088083454678297574225003696052227100814231622203745539086687483745091805222033187261998135209444684147516848044861456238200516368245178340965941544853740139910091965250262390875272105460220844604100091971067207150540894960002681527071675093508717863950217765653743378222764882759804177907471138543113314901458812404056429604630301854616482364079106863729290433801803094407865518820889557697000969382657479810507061834513145682226491520411425600801138942117205286353864522652891736635859690344105791222622884576951167266464094334065903766226076997495873629650078110873966118563672894138009593830529432722973606539094778183549690023170132503974202196193101897961445753399207786459841233878900015361701854566344559388306703842860162183426849322514117414039688067847794576448615129708059802201011558417953764824462641224694976227154055963781419135475801956351995246430051978323266418593847927185038795396067544671067696788030301161567848254262376070198986984079682748474156686727210343814829105122951553059248946959644355444080793148259782572527795780377277433262979748716422111584432861740046686325344529942093673227401778097354012152228087856595609372619023093974160767468149994341257906008896849656519268101290468989535118841704737516999062007482585837300577903207437646743711636614621149277453517403977068112131481153615835733541791394994128684780704150786489514585375774275472071052102801178845353948843851827128907410092404497097238915704857829842724727098765052064299612821038107743687754533967434665155978932348853728367766634213096041046598016880415037615332762817159889851909195401134113009448844452662847658058185998099816735635046315135952857516661744101190207392875066435993329117314942619586466993507649551395600581442742053981943295116933363629192281613410275630728738574325207653660381993424868126488009605276634444570973974480359009671552506778428622905305381034490527059839607072347185390676415447157287128277640431462541702416258729739300689099989247957163888988396842024453188496616667060577956969729816471263598925676887837433351101167856213657788796977262895203971619229647870888213953604782564620166456513200120993900353856097984356120962255281119747991464126955057779179237209020451420449588371636477443847288081690115895099954100616650087457936451989258546538949999759725495510764871913555640297130622344943550948493082187067222834256531405860524745460403830413246116294620669656505542275112456207053507075832547244334953197240091705575631491858104970269302190979079355153344409022730259607517544890998694900591906196092810589873020020207709480295568398307205856732578177962598575122254864704873301759057185750808390711478927160449198993719510330397950270011322408611807510358407090870982196169758555291156197966503116563731272439508998347894077354452026104038066763480739932722904019724106327855878455154324443054074032067722398486488954282656923435195936796030559291433239495600739734214703097439052976350169863544241404275379208526828757492571153526043036094635389861581225789233542247393143126744239520501470197385068533741568846238967073468256559058944490656237070794540710244913278273174207396143308020037195129061131834769786305993490155611402276164453657856393540045852546355309981096405988576375641516867290819018887992060992199123862788617338379668129544250735525575799179545965619445966336476097586834512653962122586469617159374612912867954428403242046437843669300865377304623779155351909473846083687600506515355120130881540602724893988614460141671984992234689279387898104223614639168437444684757434862677234407590845577371971867556413066206108453671946728847072126664539851233779214076440878266602701326956757187941047361369556060567151704355983472310040483505954563314740826857022901442311110434923094228526155417002621895165947591696024864098202481527668884537780859895771546470946667087153660198088201758074434215073185619166625606974415889865025563821583140571517973227612497783143059596248347730603455085310987021407353300725495395026101091338975615172767453516111415896338936863465803681872949017213075717966348603204750350526970137129169025195744124218189228693268118190504587256901526135379736270761655504404107271534838475925745668397252797420175505536088866265711824848237514668945508715691027970766747476971438848981395638034922452191891308724914739992456210955254328034845562270648919301548917694036591962425231118116682489572353365902592213249747459415732892003950179922417155986755331814522252395301718873888654382279580286539188656794476802262105997931908138880816180564962057992715671459843319116701623431953490187633372924396145481176984540384005449901590257029697306859996661824210004220723076659649199765656938349576933008025048876217648974488891827153497589496979206154016315113715728406362171120811623383542403328246843546897781936087783263224902048994087591744299596319307715804783088026189436126826271453873042340461036876010629622163728951605077172865143796434605378995927691303607532890040257105406083855237766600696570242669043171649870026555915352607734066974786477938422947340990558653689514297739439624168612786364927034790844229400428821395795141436281392539376824884789948239956204422631857471944516505509754315246163970029261184705102039568268143608503808081500341516242039925808978673002092472680931205935583916194952653347069583408312342483683607437834787494057668780128983670226611733485013719224129103290173239000915885780125782177215657014120981039708229620293954125392995052697849493081824323037998937387603443104891451033090814778525166139459590088570811882102319791159541245418774279972439641256238846081704326918088204835276178934844447970335046949966150943821760774232463876683175564866610819906405524007493430802842231265828358893303162219189249632914422988936438023095614794104135636117346798676643506793571232185803731061296936825753017407290952263996592880054531611742636198807985944805503748467395111166943712708419069942180221648102371364401016464543921100017727757640622993458272198767387757509082505188935936602307389686763332950645394420318554436731949799875209802343321511813608175754777973982638648140832753642478983074912247774260664675316893669846328278980512353405075868999953402374527461317464455828955652323303859794060362726582011704673839505109906018723799492664927299515371609115980452598386918768023976825862098730091328970285038993534324743833527242175212764602503941269463699715183737330047386865729936717772223305457496325472139921267293499475482110580161120226082001641936370548258101980180687636368515462221387533201666311976635059444312098313333969033663185244946352213904073391092225613588649094311902640165412251003822818123803185090719972539439387377028273138809036455803628506913054785929999365662180861760862629497881821469376262322259867519865886855831033323338892937995274142868666194031660996553099801614561392137616163500790739367549208735211355053090149525494811478456524713156908659381923847878828774348384601311628132659001952699717198097476373698986863518977662652068625085394429304307205151173081606193200759438215154910545614152249435189420125300017493549011770233814380300227887570
theorem RR_eq : RR = mkR 32640 257 PR := by decide +kernel
theorem RR_lt {Q : Nat} (hQ : Pr Q) (h : Q ∣ RR) : Q < 65537 := by
  rw [RR_eq] at h
  rcases mkR_dvd hQ _ _ _ h with h1 | h1
  · have := PR_lt hQ h1; omega
  · omega
def resid : Nat → Nat → Nat
  | 0, g => g
  | f + 1, g => let c := Nat.gcd g RR; cond (Nat.beq c 1) g (resid f (g / c))
theorem resid_dvd {Q : Nat} (hQ : Pr Q) (h65 : 65537 ≤ Q) : ∀ (f g : Nat), Q ∣ g → Q ∣ resid f g := by
  intro f
  induction f with
  | zero => intro g h; exact h
  | succ f ih =>
    intro g h
    unfold resid
    simp only
    cases hc : Nat.beq (Nat.gcd g RR) 1 with
    | true => exact h
    | false =>
      refine ih _ ?_
      obtain ⟨k, hk⟩ := Nat.gcd_dvd_left g RR
      by_cases hg0 : Nat.gcd g RR = 0
      · rw [hg0, Nat.div_zero]; exact Nat.dvd_zero Q
      · have e : g / Nat.gcd g RR = k := by
          conv => lhs; arg 1; rw [hk]
          exact Nat.mul_div_cancel_left _ (Nat.pos_of_ne_zero hg0)
        rw [e]
        rw [hk] at h
        rcases hQ.dvd_mul h with h1 | h1
        · have := RR_lt hQ (Nat.dvd_trans h1 (Nat.gcd_dvd_right g RR)); omega
        · exact h1
noncomputable def scanQ (P h k : Nat) : Nat → Bool := Nat.rec (fun _ => true) (fun _ ih t => (!Nat.beq (Nat.mod h t) 0 || bad (Nat.mul P t)) && force (Nat.add t 2) ih) k
theorem scanQ_all {P h : Nat} : ∀ (k t : Nat), scanQ P h k t = true → ∀ j, j < k → h % (t + 2 * j) ≠ 0 ∨ bad (P * (t + 2 * j)) = true := by
  intro k
  induction k with
  | zero => intro t _ j hj; omega
  | succ k ih =>
    intro t hs j hj
    have hs' : ((!Nat.beq (h % t) 0 || bad (P * t)) && force (t + 2) (scanQ P h k)) = true := hs
    rw [force_eq, Bool.and_eq_true] at hs'
    cases j with
    | zero =>
      rw [Nat.mul_zero, Nat.add_zero]
      have h1 := hs'.1
      rw [Bool.or_eq_true] at h1
      rcases h1 with h1 | h1
      · left; intro h2; rw [h2] at h1; exact absurd h1 (by decide)
      · exact .inr h1
    | succ j =>
      have := ih _ hs'.2 j (by omega)
      rwa [show t + 2 + 2 * j = t + 2 * (j + 1) by omega] at this
noncomputable def qOK (P : Nat) : Bool :=
  Nat.ble 65536 P || (let h := resid 40 (Nat.gcd (Nat.gcd (Nat.sub (Nat.pow 2 (P - 1)) 1) (Nat.sub (Nat.pow 7 (P - 1)) 1)) (Nat.sub (Nat.pow 61 (P - 1)) 1)); Nat.beq h 1 || force h (fun h => scanQ P h ((4294967295 / P - 65537) / 2 + 1) 65537))
noncomputable def leaf (P : Nat) : Bool := Nat.beq P 1 || (((Nat.blt P 1000 && PL.any (fun x => Nat.beq x.1 P)) || bad P) && qOK P)
noncomputable def walk (ps : List (Nat × Nat × Nat)) : Nat → Nat → Nat → Bool :=
  List.rec (fun P _ _ => leaf P) (fun x _ ih P Λ V => ih P Λ V && cond (Nat.blt (Nat.mul P x.1) 4294967296 && (Nat.beq P 1 || Nat.beq x.2.2 V) && Nat.beq (Nat.gcd (Nat.mul P x.1) (Nat.lcm Λ x.2.1)) 1) (force (Nat.mul P x.1) (fun P' => force (Nat.lcm Λ x.2.1) (fun Λ' => ih P' Λ' x.2.2))) true) ps
end Go.Proofs.Ytpjephicbiiamaa.Y

end
section
namespace Go.Proofs.Ytpjephicbiiamaa.Y
set_option linter.unusedVariables false
set_option linter.unusedSimpArgs false
set_option maxRecDepth 100000 in
theorem walk_run : walk PL 1 1 0 = true := by decide +kernel
theorem cls_uniq {a p v c : Nat} (h : ∀ i, T a p i ↔ c ≤ i) (hv : T a p v ∧ (v = 0 ∨ ¬ T a p (v - 1))) : v = c := by
  have h1 := (h v).1 hv.1
  rcases hv.2 with h2 | h2
  · omega
  · have : ¬ c ≤ v - 1 := fun h3 => h2 ((h (v - 1)).2 h3)
    omega
section
variable {n : Nat} (hn : 2 ≤ n) (hlt : n < 4294967296) (hodd : n % 2 = 1) (hnp : ¬ Pr n) (h3 : SP3 n)
  (hmid : ∀ p, Pr p → p ∣ n → p < 1000 ∨ 65537 ≤ p)
include hn hlt hodd hnp h3 hmid
set_option linter.unusedSectionVars false
theorem leaf_no {P u : Nat} (hPu : n = P * u) (hu : ∀ r, Pr r → r ∣ u → 65537 ≤ r) (h : leaf P = true) : False := by
  have hu0 : u ≠ 0 := by rintro rfl; omega
  have hP0 : P ≠ 0 := by rintro rfl; rw [Nat.zero_mul] at hPu; omega
  have hu1 : u = 1 ∨ Pr u := by
    by_cases h1 : u = 1
    · exact .inl h1
    · right
      apply Classical.byContradiction
      intro hc
      obtain ⟨p, hp, hpd, hpp⟩ := comp_div (by omega) hc
      have := hu p hp hpd
      have h2 : 65537 * 65537 ≤ p * p := Nat.mul_le_mul this this
      have h4 : u ≤ n := by rw [hPu]; exact Nat.le_mul_of_pos_left _ (by omega)
      omega
  unfold leaf at h
  rw [Bool.or_eq_true, Bool.and_eq_true] at h
  rcases h with h | ⟨hb, hq⟩
  · have hP1 := Nat.eq_of_beq_eq_true h
    rw [hP1, Nat.one_mul] at hPu
    rcases hu1 with h1 | h1
    · omega
    · exact hnp (hPu ▸ h1)
  · rcases hu1 with h1 | h1
    · rw [h1, Nat.mul_one] at hPu
      rw [Bool.or_eq_true, Bool.and_eq_true] at hb
      rcases hb with ⟨-, hb⟩ | hb
      · obtain ⟨x, hx, hxe⟩ := List.any_eq_true.1 hb
        have := Nat.eq_of_beq_eq_true hxe
        exact hnp (by rw [hPu, ← this]; exact (row_of hx).good.pr)
      · exact bad_not hn hlt (by rw [hPu]; exact hb) h3
    · have hQ := hu u h1 (Nat.dvd_refl u)
      by_cases hP1 : P = 1
      · rw [hP1, Nat.one_mul] at hPu; exact hnp (hPu ▸ h1)
      · have hPlt : P < 65536 := by
          apply Nat.lt_of_not_le
          intro hle
          have := Nat.mul_le_mul hle hQ
          omega
        have hgood : Good u := good_of h1 (by omega) (by omega) (by omega)
        have hall := allOne_cof (n := n) (m := P) hgood (by omega) (by rw [Nat.mul_comm]; exact hPu) (h3.allOne hn ⟨P, by rw [Nat.mul_comm]; exact hPu⟩)
        have dv : ∀ a, 1 ≤ a → a ^ (P - 1) % u = 1 % u → u ∣ a ^ (P - 1) - 1 := fun a ha h => dvd_sub_of_mod h (Nat.pow_pos ha)
        have hg := Nat.dvd_gcd (Nat.dvd_gcd (dv 2 (by decide) hall.1) (dv 7 (by decide) hall.2.1)) (dv 61 (by decide) hall.2.2)
        have hr := resid_dvd h1 hQ 40 _ hg
        unfold qOK at hq
        rw [Bool.or_eq_true] at hq
        rcases hq with hq | hq
        · have := Nat.le_of_ble_eq_true hq; omega
        · simp only [force_eq, Bool.or_eq_true] at hq
          rcases hq with hq | hq
          · have h5 : resid 40 (Nat.gcd (Nat.gcd (2 ^ (P - 1) - 1) (7 ^ (P - 1) - 1)) (61 ^ (P - 1) - 1)) = 1 := Nat.eq_of_beq_eq_true hq
            rw [h5] at hr
            have := Nat.le_of_dvd (by decide) hr; omega
          · have hule : u ≤ 4294967295 / P := (Nat.le_div_iff_mul_le (by omega)).2 (by rw [Nat.mul_comm, ← hPu]; omega)
            have huodd : u % 2 = 1 := by
              rcases Nat.mod_two_eq_zero_or_one u with h6 | h6
              · have : 2 ∣ n := hPu ▸ Nat.dvd_trans (Nat.dvd_of_mod_eq_zero h6) (Nat.dvd_mul_left u P)
                omega
              · exact h6
            obtain ⟨j, hj⟩ : ∃ j, u = 65537 + 2 * j := ⟨(u - 65537) / 2, by omega⟩
            rcases scanQ_all _ _ hq j (by omega) with h6 | h6
            · rw [← hj] at h6
              exact h6 (Nat.mod_eq_zero_of_dvd hr)
            · rw [← hj, ← hPu] at h6
              exact bad_not hn hlt h6 h3
theorem walk_no {V0 : Nat} (hV : ∀ x, x ∈ PL → x.1 ∣ n → x.2.2 = V0) : ∀ (ps : List (Nat × Nat × Nat)), (∀ x ∈ ps, x ∈ PL) → ∀ (P u Λ V : Nat), n = P * u → (∀ r, Pr r → r ∣ u → (∃ x ∈ ps, x.1 = r) ∨ 65537 ≤ r) → Λ ∣ n - 1 → (P = 1 ∨ V = V0) → walk ps P Λ V = true → False := by
  intro ps
  induction ps with
  | nil =>
    intro _ P u Λ V hPu hu hΛ hVV h
    refine leaf_no hn hlt hodd hnp h3 hmid hPu (fun r hr hd => ?_) h
    rcases hu r hr hd with ⟨x, hx, -⟩ | h1
    · exact absurd hx (by simp)
    · exact h1
  | cons x ps ih =>
    intro hps P u Λ V hPu hu hΛ hVV h
    have hx := hps x (List.mem_cons_self ..)
    have hrow := row_of hx
    have hps' : ∀ y ∈ ps, y ∈ PL := fun y hy => hps y (List.mem_cons_of_mem _ hy)
    have h' : (walk ps P Λ V && cond (Nat.blt (P * x.1) 4294967296 && (Nat.beq P 1 || Nat.beq x.2.2 V) && Nat.beq (Nat.gcd (P * x.1) (Nat.lcm Λ x.2.1)) 1) (force (P * x.1) (fun P' => force (Nat.lcm Λ x.2.1) (fun Λ' => walk ps P' Λ' x.2.2))) true) = true := h
    rw [Bool.and_eq_true] at h'
    have hu0 : u ≠ 0 := by rintro rfl; omega
    have hP0 : P ≠ 0 := by rintro rfl; rw [Nat.zero_mul] at hPu; omega
    by_cases hd : x.1 ∣ u
    · obtain ⟨u', hu'⟩ := hd
      have hu'0 : u' ≠ 0 := by rintro rfl; omega
      have hPn : n = P * x.1 * u' := by rw [hPu, hu']; ac_rfl
      have hxn : x.1 ∣ n := hPn ▸ Nat.dvd_trans (Nat.dvd_mul_left x.1 P) (Nat.dvd_mul_right _ u')
      have hv := hV x hx hxn
      have hLd : x.2.1 ∣ n - 1 := hrow.per _ (h3.allOne hn hxn)
      have hlcm : Nat.lcm Λ x.2.1 ∣ n - 1 := Nat.lcm_dvd hΛ hLd
      have hPle : P * x.1 ≤ n := by
        conv => rhs; rw [hPn]
        exact Nat.le_mul_of_pos_right _ (by omega)
      have c1 : Nat.blt (P * x.1) 4294967296 = true := Nat.ble_eq_true_of_le (by omega)
      have c2 : (Nat.beq P 1 || Nat.beq x.2.2 V) = true := by
        rcases hVV with h1 | h1
        · rw [h1]; rfl
        · rw [hv, h1, Nat.beq_refl, Bool.or_true]
      have c3 : Nat.beq (Nat.gcd (P * x.1) (Nat.lcm Λ x.2.1)) 1 = true := by
        have hg1 : Nat.gcd (P * x.1) (Nat.lcm Λ x.2.1) ∣ n := Nat.dvd_trans (Nat.gcd_dvd_left _ _) (hPn ▸ Nat.dvd_mul_right _ u')
        have hg2 := Nat.dvd_trans (Nat.gcd_dvd_right (P * x.1) (Nat.lcm Λ x.2.1)) hlcm
        have hg3 := Nat.dvd_sub hg1 hg2
        rw [show n - (n - 1) = 1 by omega] at hg3
        rw [Nat.eq_one_of_dvd_one hg3]; rfl
      have h4 := h'.2
      rw [c1, c2, c3] at h4
      simp only [Bool.and_self, cond_true, force_eq] at h4
      refine ih hps' (P * x.1) u' (Nat.lcm Λ x.2.1) x.2.2 hPn (fun r hr hrd => ?_) hlcm (.inr hv) h4
      rcases hu r hr (hu' ▸ Nat.dvd_trans hrd (Nat.dvd_mul_left u' x.1)) with ⟨y, hy, hyr⟩ | h5
      · rcases List.mem_cons.1 hy with rfl | hy
        ·
          exfalso
          rw [hyr] at hPn
          have hsq : r * r ∣ n := by
            obtain ⟨w, hw⟩ := hrd
            exact ⟨P * w, by rw [hPn, hw]; ac_rfl⟩
          have f := one_mod_dvd (h3.1.fermat hn) hsq
          have hsq' := hrow.sq
          rw [hyr] at hsq'
          have hgood := hrow.good
          rw [hyr] at hgood
          have hc2 : Nat.Coprime 2 (r * r) := Nat.Coprime.mul_right (hgood.pr.cop hgood.n2).symm (hgood.pr.cop hgood.n2).symm
          have hg := pow_gcd hc2 _ _ f hsq'.1
          have hgd : Nat.gcd (n - 1) (r * (r - 1)) ∣ r - 1 := by
            have hcop : Nat.Coprime (Nat.gcd (n - 1) (r * (r - 1))) r := by
              have : ¬ r ∣ Nat.gcd (n - 1) (r * (r - 1)) := by
                intro hh
                have h6 := Nat.dvd_trans hh (Nat.gcd_dvd_left _ _)
                have h7 := Nat.dvd_sub (Nat.dvd_trans (Nat.dvd_mul_right r r) hsq) h6
                rw [show n - (n - 1) = 1 by omega] at h7
                have := Nat.le_of_dvd (by decide) h7
                have := hr.1
                omega
              exact (hr.cop this).symm
            exact hcop.dvd_of_dvd_mul_left (Nat.gcd_dvd_right _ _)
          exact hsq'.2 (pow_one_dvd hg hgd)
        · exact .inl ⟨y, hy, hyr⟩
      · exact .inr h5
    · refine ih hps' P u Λ V hPu (fun r hr hrd => ?_) hΛ hVV h'.1
      rcases hu r hr hrd with ⟨y, hy, hyr⟩ | h5
      · rcases List.mem_cons.1 hy with rfl | hy
        · exact absurd (hyr ▸ hrd) hd
        · exact .inl ⟨y, hy, hyr⟩
      · exact .inr h5
end
theorem scanP_mid {p : Nat} (hp : Pr p) (h1 : 1000 ≤ p) (h2 : p < 65537) : scanP p = true := by
  have hodd : p % 2 = 1 := by
    rcases Nat.mod_two_eq_zero_or_one p with h | h
    · have := (hp.2 2 (Nat.dvd_of_mod_eq_zero h)); omega
    · exact h
  have hg := pr_isP hp (by omega)
  by_cases k0 : p < 1093
  · obtain ⟨j, rfl⟩ : ∃ j, p = 1001 + 2 * j := ⟨(p - 1001) / 2, by omega⟩
    exact scanR_all _ _ run0 j (by omega) hg
  by_cases k1 : p < 1215
  · obtain ⟨j, rfl⟩ : ∃ j, p = 1093 + 2 * j := ⟨(p - 1093) / 2, by omega⟩
    exact scanR_all _ _ run1 j (by omega) hg
  by_cases k2 : p < 1329
  · obtain ⟨j, rfl⟩ : ∃ j, p = 1215 + 2 * j := ⟨(p - 1215) / 2, by omega⟩
    exact scanR_all _ _ run2 j (by omega) hg
  by_cases k3 : p < 1513
  · obtain ⟨j, rfl⟩ : ∃ j, p = 1329 + 2 * j := ⟨(p - 1329) / 2, by omega⟩
    exact scanR_all _ _ run3 j (by omega) hg
  by_cases k4 : p < 1723
  · obtain ⟨j, rfl⟩ : ∃ j, p = 1513 + 2 * j := ⟨(p - 1513) / 2, by omega⟩
    exact scanR_all _ _ run4 j (by omega) hg
  by_cases k5 : p < 2005
  · obtain ⟨j, rfl⟩ : ∃ j, p = 1723 + 2 * j := ⟨(p - 1723) / 2, by omega⟩
    exact scanR_all _ _ run5 j (by omega) hg
  by_cases k6 : p < 2385
  · obtain ⟨j, rfl⟩ : ∃ j, p = 2005 + 2 * j := ⟨(p - 2005) / 2, by omega⟩
    exact scanR_all _ _ run6 j (by omega) hg
  by_cases k7 : p < 2845
  · obtain ⟨j, rfl⟩ : ∃ j, p = 2385 + 2 * j := ⟨(p - 2385) / 2, by omega⟩
    exact scanR_all _ _ run7 j (by omega) hg
  by_cases k8 : p < 3465
  · obtain ⟨j, rfl⟩ : ∃ j, p = 2845 + 2 * j := ⟨(p - 2845) / 2, by omega⟩
    exact scanR_all _ _ run8 j (by omega) hg
  by_cases k9 : p < 4243
  · obtain ⟨j, rfl⟩ : ∃ j, p = 3465 + 2 * j := ⟨(p - 3465) / 2, by omega⟩
    exact scanR_all _ _ run9 j (by omega) hg
  by_cases k10 : p < 5263
  · obtain ⟨j, rfl⟩ : ∃ j, p = 4243 + 2 * j := ⟨(p - 4243) / 2, by omega⟩
    exact scanR_all _ _ run10 j (by omega) hg
  by_cases k11 : p < 6363
  · obtain ⟨j, rfl⟩ : ∃ j, p = 5263 + 2 * j := ⟨(p - 5263) / 2, by omega⟩
    exact scanR_all _ _ run11 j (by omega) hg
  by_cases k12 : p < 7725
  · obtain ⟨j, rfl⟩ : ∃ j, p = 6363 + 2 * j := ⟨(p - 6363) / 2, by omega⟩
    exact scanR_all _ _ run12 j (by omega) hg
  by_cases k13 : p < 9201
  · obtain ⟨j, rfl⟩ : ∃ j, p = 7725 + 2 * j := ⟨(p - 7725) / 2, by omega⟩
    exact scanR_all _ _ run13 j (by omega) hg
  by_cases k14 : p < 10755
  · obtain ⟨j, rfl⟩ : ∃ j, p = 9201 + 2 * j := ⟨(p - 9201) / 2, by omega⟩
    exact scanR_all _ _ run14 j (by omega) hg
  by_cases k15 : p < 12489
  · obtain ⟨j, rfl⟩ : ∃ j, p = 10755 + 2 * j := ⟨(p - 10755) / 2, by omega⟩
    exact scanR_all _ _ run15 j (by omega) hg
  by_cases k16 : p < 14245
  · obtain ⟨j, rfl⟩ : ∃ j, p = 12489 + 2 * j := ⟨(p - 12489) / 2, by omega⟩
    exact scanR_all _ _ run16 j (by omega) hg
  by_cases k17 : p < 15973
  · obtain ⟨j, rfl⟩ : ∃ j, p = 14245 + 2 * j := ⟨(p - 14245) / 2, by omega⟩
    exact scanR_all _ _ run17 j (by omega) hg
  by_cases k18 : p < 17883
  · obtain ⟨j, rfl⟩ : ∃ j, p = 15973 + 2 * j := ⟨(p - 15973) / 2, by omega⟩
    exact scanR_all _ _ run18 j (by omega) hg
  by_cases k19 : p < 19803
  · obtain ⟨j, rfl⟩ : ∃ j, p = 17883 + 2 * j := ⟨(p - 17883) / 2, by omega⟩
    exact scanR_all _ _ run19 j (by omega) hg
  by_cases k20 : p < 21685
  · obtain ⟨j, rfl⟩ : ∃ j, p = 19803 + 2 * j := ⟨(p - 19803) / 2, by omega⟩
    exact scanR_all _ _ run20 j (by omega) hg
  by_cases k21 : p < 23625
  · obtain ⟨j, rfl⟩ : ∃ j, p = 21685 + 2 * j := ⟨(p - 21685) / 2, by omega⟩
    exact scanR_all _ _ run21 j (by omega) hg
  by_cases k22 : p < 25635
  · obtain ⟨j, rfl⟩ : ∃ j, p = 23625 + 2 * j := ⟨(p - 23625) / 2, by omega⟩
    exact scanR_all _ _ run22 j (by omega) hg
  by_cases k23 : p < 27691
  · obtain ⟨j, rfl⟩ : ∃ j, p = 25635 + 2 * j := ⟨(p - 25635) / 2, by omega⟩
    exact scanR_all _ _ run23 j (by omega) hg
  by_cases k24 : p < 29631
  · obtain ⟨j, rfl⟩ : ∃ j, p = 27691 + 2 * j := ⟨(p - 27691) / 2, by omega⟩
    exact scanR_all _ _ run24 j (by omega) hg
  by_cases k25 : p < 31729
  · obtain ⟨j, rfl⟩ : ∃ j, p = 29631 + 2 * j := ⟨(p - 29631) / 2, by omega⟩
    exact scanR_all _ _ run25 j (by omega) hg
  by_cases k26 : p < 33715
  · obtain ⟨j, rfl⟩ : ∃ j, p = 31729 + 2 * j := ⟨(p - 31729) / 2, by omega⟩
    exact scanR_all _ _ run26 j (by omega) hg
  by_cases k27 : p < 35841
  · obtain ⟨j, rfl⟩ : ∃ j, p = 33715 + 2 * j := ⟨(p - 33715) / 2, by omega⟩
    exact scanR_all _ _ run27 j (by omega) hg
  by_cases k28 : p < 37881
  · obtain ⟨j, rfl⟩ : ∃ j, p = 35841 + 2 * j := ⟨(p - 35841) / 2, by omega⟩
    exact scanR_all _ _ run28 j (by omega) hg
  by_cases k29 : p < 40015
  · obtain ⟨j, rfl⟩ : ∃ j, p = 37881 + 2 * j := ⟨(p - 37881) / 2, by omega⟩
    exact scanR_all _ _ run29 j (by omega) hg
  by_cases k30 : p < 42133
  · obtain ⟨j, rfl⟩ : ∃ j, p = 40015 + 2 * j := ⟨(p - 40015) / 2, by omega⟩
    exact scanR_all _ _ run30 j (by omega) hg
  by_cases k31 : p < 44223
  · obtain ⟨j, rfl⟩ : ∃ j, p = 42133 + 2 * j := ⟨(p - 42133) / 2, by omega⟩
    exact scanR_all _ _ run31 j (by omega) hg
  by_cases k32 : p < 46459
  · obtain ⟨j, rfl⟩ : ∃ j, p = 44223 + 2 * j := ⟨(p - 44223) / 2, by omega⟩
    exact scanR_all _ _ run32 j (by omega) hg
  by_cases k33 : p < 48625
  · obtain ⟨j, rfl⟩ : ∃ j, p = 46459 + 2 * j := ⟨(p - 46459) / 2, by omega⟩
    exact scanR_all _ _ run33 j (by omega) hg
  by_cases k34 : p < 50775
  · obtain ⟨j, rfl⟩ : ∃ j, p = 48625 + 2 * j := ⟨(p - 48625) / 2, by omega⟩
    exact scanR_all _ _ run34 j (by omega) hg
  by_cases k35 : p < 52953
  · obtain ⟨j, rfl⟩ : ∃ j, p = 50775 + 2 * j := ⟨(p - 50775) / 2, by omega⟩
    exact scanR_all _ _ run35 j (by omega) hg
  by_cases k36 : p < 55119
  · obtain ⟨j, rfl⟩ : ∃ j, p = 52953 + 2 * j := ⟨(p - 52953) / 2, by omega⟩
    exact scanR_all _ _ run36 j (by omega) hg
  by_cases k37 : p < 57205
  · obtain ⟨j, rfl⟩ : ∃ j, p = 55119 + 2 * j := ⟨(p - 55119) / 2, by omega⟩
    exact scanR_all _ _ run37 j (by omega) hg
  by_cases k38 : p < 59379
  · obtain ⟨j, rfl⟩ : ∃ j, p = 57205 + 2 * j := ⟨(p - 57205) / 2, by omega⟩
    exact scanR_all _ _ run38 j (by omega) hg
  by_cases k39 : p < 61645
  · obtain ⟨j, rfl⟩ : ∃ j, p = 59379 + 2 * j := ⟨(p - 59379) / 2, by omega⟩
    exact scanR_all _ _ run39 j (by omega) hg
  by_cases k40 : p < 63841
  · obtain ⟨j, rfl⟩ : ∃ j, p = 61645 + 2 * j := ⟨(p - 61645) / 2, by omega⟩
    exact scanR_all _ _ run40 j (by omega) hg
  by_cases k41 : p < 65537
  · obtain ⟨j, rfl⟩ : ∃ j, p = 63841 + 2 * j := ⟨(p - 63841) / 2, by omega⟩
    exact scanR_all _ _ run41 j (by omega) hg
  omega
theorem mr {n : Nat} (hn : 2 ≤ n) (hlt : n < 4294967296) (h2 : n % 2 ≠ 0) (h7 : n % 7 ≠ 0) (h61 : n % 61 ≠ 0) (h3 : SP3 n) : Pr n := by
  apply Classical.byContradiction
  intro hnp
  have good : ∀ p, Pr p → p ∣ n → Good p := fun p hp hd => good_of hp
    (by rintro rfl; exact h2 (Nat.mod_eq_zero_of_dvd hd)) (by rintro rfl; exact h7 (Nat.mod_eq_zero_of_dvd hd)) (by rintro rfl; exact h61 (Nat.mod_eq_zero_of_dvd hd))
  have hmid : ∀ p, Pr p → p ∣ n → p < 1000 ∨ 65537 ≤ p := by
    intro p hp hd
    by_cases h1 : p < 1000
    · exact .inl h1
    · by_cases h4 : 65537 ≤ p
      · exact .inr h4
      · exact absurd h3 (scanP_not (good p hp hd) (scanP_mid hp (by omega) (by omega)) hd (by rintro rfl; exact hnp hp) hn hlt)
  have hodd : n % 2 = 1 := by omega
  obtain ⟨a2, c2⟩ := h3.1.class hn hodd
  obtain ⟨a7, c7⟩ := h3.2.1.class hn hodd
  obtain ⟨a61, c61⟩ := h3.2.2.class hn hodd
  refine walk_no hn hlt hodd hnp h3 hmid (V0 := a2 * 10000 + a7 * 100 + a61) ?_ PL (fun _ h => h) 1 n 1 0 (by omega) ?_ (Nat.one_dvd _) (.inl rfl) walk_run
  · intro x hx hxn
    have hrow := row_of hx
    have e2 := cls_uniq (c2 _ hrow.good.pr hxn hrow.good.n2) hrow.c2
    have e7 := cls_uniq (c7 _ hrow.good.pr hxn hrow.good.n7) hrow.c7
    have e61 := cls_uniq (c61 _ hrow.good.pr hxn hrow.good.n61) hrow.c61
    omega
  · intro r hr hd
    rcases hmid r hr hd with h1 | h1
    · left
      rcases PL_full r h1 with h | h | h | h | h | h | ⟨e, he, he2, her, hmod⟩
      · have := hr.1; omega
      · have := hr.1; omega
      · exact absurd (Nat.mod_eq_zero_of_dvd (h ▸ hd)) h2
      · exact absurd (Nat.mod_eq_zero_of_dvd (h ▸ hd)) h7
      · exact absurd (Nat.mod_eq_zero_of_dvd (h ▸ hd)) h61
      · obtain ⟨x, hx, hxe⟩ := List.any_eq_true.1 h
        exact ⟨x, hx, Nat.eq_of_beq_eq_true hxe⟩
      · rcases hr.2 e (Nat.dvd_of_mod_eq_zero hmod) with h | h <;> omega
    · exact .inr h1
end Go.Proofs.Ytpjephicbiiamaa.Y

end
section
namespace Go.Proofs.Ytpjephicbiiamaa.A
set_option linter.unusedVariables false
set_option linter.unusedSimpArgs false
open Go Go.RowKit Go.Proofs.YtpjephicbiiamaaW.PrintWords Go.Proofs.YtpjephicbiiamaaW.PrintLast Go.Proofs.YtpjephicbiiamaaW.PrintMore
section
variable {α β : Type} {f g : Nat → Option α} {r : α}
theorem ev_pos {c : Prop} [Decidable c] (h : c) (k : Ev f r) : Ev (fun n => if c then f n else g n) r := by
  simpa only [if_pos h] using k
theorem ev_neg {c : Prop} [Decidable c] (h : ¬ c) (k : Ev g r) : Ev (fun n => if c then f n else g n) r := by
  simpa only [if_neg h] using k
theorem ev_ite {c : Prop} [Decidable c] (hp : c → Ev f r) (hn : ¬ c → Ev g r) : Ev (fun n => if c then f n else g n) r := by
  by_cases h : c
  · exact ev_pos h (hp h)
  · exact ev_neg h (hn h)
theorem ev_now {a : α} (h : a = r) : Ev (fun _ => some a) r := ⟨0, fun _ _ => by rw [h]⟩
theorem ev_bind {a : β} {g : Nat → Option β} {f : Nat → β → Option α} (h : Ev g a) (k : Ev (fun n => f n a) r) : Ev (fun n => (g n).bind (f n)) r := h.bind k
theorem ev_eq {a : β} {x : Option β} {f : Nat → β → Option α} (h : x = some a) (k : Ev (fun n => f n a) r) : Ev (fun n => x.bind (f n)) r := by
  subst h; exact k
end
theorem w64 {x : Int} (h0 : -9223372036854775808 ≤ x) (h1 : x ≤ 9223372036854775807) : wrap64 x = x := by unfold wrap64; omega
theorem wu64 {x : Int} (h0 : 0 ≤ x) (h1 : x ≤ 18446744073709551615) : IntKind.u64.wrap x = x := by
  have e : IntKind.u64.wrap x = x % 18446744073709551616 := by simp [IntKind.wrap, IntKind.bits, IntKind.signed]
  rw [e]; omega
theorem bit1 {x : Int} (h0 : 0 ≤ x) (h1 : x ≤ 18446744073709551615) : Go.bits .and .u64 x 1 = x % 2 := by
  have := bits_mask .u64 64 (by decide) (fun n a b => wu64 a (by omega)) 1 (by decide) x h0 (by omega)
  simpa using this
theorem wf_u64 {x : Int} (h : (Lit.int .u64 x).wf = true) : 0 ≤ x ∧ x ≤ 18446744073709551615 := by
  simp [Lit.wf, IntKind.min, IntKind.max, IntKind.signed, IntKind.bits] at h; omega
theorem rd_nat (xs : List Int) (i : Nat) : rd xs (i : Int) = xs.getD i 0 := by simp [rd]
def Dig (b : Int) (xs : List Int) : Prop := ∀ x ∈ xs, 0 ≤ x ∧ x < b
theorem Dig.nil {b : Int} : Dig b [] := fun _ h => by cases h
theorem Dig.cons {b x : Int} {xs : List Int} (h0 : 0 ≤ x) (h1 : x < b) (h : Dig b xs) : Dig b (x :: xs) := by
  intro y hy
  rcases List.mem_cons.1 hy with rfl | hy
  · exact ⟨h0, h1⟩
  · exact h y hy
theorem Dig.left {b : Int} {xs ys : List Int} (h : Dig b (xs ++ ys)) : Dig b xs := fun y hy => h y (List.mem_append_left _ hy)
theorem Dig.right {b : Int} {xs ys : List Int} (h : Dig b (xs ++ ys)) : Dig b ys := fun y hy => h y (List.mem_append_right _ hy)
theorem Dig.rd {b : Int} {xs : List Int} (h : Dig b xs) {i : Int} (h0 : 0 ≤ i) (h1 : i < xs.length) : 0 ≤ rd xs i ∧ rd xs i < b := by
  obtain ⟨j, rfl⟩ := Int.eq_ofNat_of_zero_le h0
  have hj : j < xs.length := by omega
  rw [rd_nat, List.getD, List.getElem?_eq_getElem hj]
  exact h _ (List.getElem_mem hj)
theorem Dig.take {b : Int} {xs : List Int} (h : Dig b xs) (i : Nat) : Dig b (xs.take i) := fun y hy => h y (List.mem_of_mem_take hy)
theorem Dig.mono {b c : Int} {xs : List Int} (h : Dig b xs) (hc : b ≤ c) : Dig c xs := fun x hx => ⟨(h x hx).1, by have := (h x hx).2; omega⟩
theorem dg_ind {b : Int} (hb : 2 ≤ b) {P : Int → Prop} (h0 : P 0) (h1 : ∀ n, 0 < n → P (n / b) → P n) : ∀ n : Int, 0 ≤ n → P n := by
  have H : ∀ m : Nat, ∀ n : Int, 0 ≤ n → n.toNat = m → P n := by
    intro m
    induction m using Nat.strongRecOn with
    | ind m ih =>
      intro n hn hm
      by_cases hz : n = 0
      · rw [hz]; exact h0
      · have hl : n / b < n := Int.ediv_lt_of_lt_mul (by omega) (by
          have : n * 2 ≤ n * b := Int.mul_le_mul_of_nonneg_left hb hn
          omega)
        have hg : 0 ≤ n / b := Int.ediv_nonneg hn (by omega)
        exact h1 n (by omega) (ih _ (by omega) _ hg rfl)
  exact fun n hn => H _ n hn rfl
end Go.Proofs.Ytpjephicbiiamaa.A

end
section
namespace Go.Proofs.Ytpjephicbiiamaa.B
set_option linter.unusedVariables false
set_option linter.unusedSimpArgs false
open Go Go.RowKit Go.Proofs.YtpjephicbiiamaaW.PrintWords Go.Proofs.YtpjephicbiiamaaW.PrintLast Go.Proofs.YtpjephicbiiamaaW.PrintMore Go.Proofs.Ytpjephicbiiamaa.F Go.Proofs.Ytpjephicbiiamaa.A
abbrev B : Int := 4294967296
theorem ev_succ {α : Type} {g : Nat → Option α} {r : α} (h : Ev (fun k => g (k + 1)) r) : Ev g r := by
  obtain ⟨K, hK⟩ := h
  refine ⟨K + 1, fun k hk => ?_⟩
  obtain ⟨m, rfl⟩ : ∃ m, k = m + 1 := ⟨k - 1, by omega⟩
  exact hK m (by omega)
theorem cast_succ (i : Nat) : (i : Int) + 1 = ((i + 1 : Nat) : Int) := by omega
end Go.Proofs.Ytpjephicbiiamaa.B

end
section
namespace Go.Proofs.Ytpjephicbiiamaa.B
set_option linter.unusedVariables false
set_option linter.unusedSimpArgs false
open Go Go.RowKit Go.Proofs.YtpjephicbiiamaaW.PrintWords Go.Proofs.YtpjephicbiiamaaW.PrintLast Go.Proofs.YtpjephicbiiamaaW.PrintMore Go.Proofs.Ytpjephicbiiamaa.F Go.Proofs.Ytpjephicbiiamaa.A
theorem hB : (2 : Int) ≤ B := by decide
theorem ediv_tdiv {a b : Int} (h : 0 ≤ a) : Int.tdiv a b = a / b := Int.tdiv_eq_ediv_of_nonneg h
theorem emod_tmod {a b : Int} (h : 0 ≤ a) : Int.tmod a b = a % b := Int.tmod_eq_emod_of_nonneg h
end Go.Proofs.Ytpjephicbiiamaa.B

end
section
namespace Go.Proofs.Ytpjephicbiiamaa.M
set_option linter.unusedVariables false
set_option linter.unusedSimpArgs false
open Go Go.RowKit Go.Proofs.YtpjephicbiiamaaW.PrintWords Go.Proofs.YtpjephicbiiamaaW.PrintLast Go.Proofs.YtpjephicbiiamaaW.PrintMore Go.Proofs.Ytpjephicbiiamaa.F Go.Proofs.Ytpjephicbiiamaa.A Go.Proofs.Ytpjephicbiiamaa.B
def Right (p : Int) : Prop := 2 ≤ p ∧ p < 4294967296
def U (x : Int) : Prop := 0 ≤ x ∧ x ≤ 18446744073709551615
theorem right_yes {p : Int} (h : Right p) : modp_right.f p = some true := by
  unfold modp_right.f; rw [if_pos h.1, decide_eq_true h.2]
theorem rright_yes {p : Int} (h : Right p) : triviumref40_Right.f p = some true := by
  unfold triviumref40_Right.f; rw [if_pos h.1, decide_eq_true h.2]
theorem md {a p : Int} (h : 0 < p) : 0 ≤ a % p ∧ a % p < p := ⟨Int.emod_nonneg _ (by omega), Int.emod_lt_of_pos _ h⟩
theorem mul_small {a b p : Int} (ha0 : 0 ≤ a) (ha : a < p) (hb0 : 0 ≤ b) (hb : b < p) (hp : p < 4294967296) : 0 ≤ a * b ∧ a * b ≤ 18446744073709551615 := by
  refine ⟨Int.mul_nonneg ha0 hb0, ?_⟩
  have : a * b ≤ 4294967295 * 4294967295 := Int.mul_le_mul (by omega) (by omega) hb0 (by omega)
  omega
theorem sub_eq {a b p : Int} (ha : U a) (hb : U b) (hp : Right p) : modp_Sub.f a b p = some ((a % p + p - b % p) % p) := by
  have h1 := md (a := a) (p := p) (by have := hp.1; omega)
  have h2 := md (a := b) (p := p) (by have := hp.1; omega)
  have h3 := hp.1
  have h4 := hp.2
  unfold modp_Sub.f
  rw [right_yes hp, Option.bind_some, if_pos rfl, if_neg (by omega), emod_tmod ha.1, emod_tmod hb.1, wu64 (x := a % p + p) (by omega) (by omega), wu64 (by omega) (by omega), emod_tmod (by omega)]
theorem mul_eq {a b p : Int} (ha : U a) (hb : U b) (hp : Right p) : modp_Mul.f a b p = some (a % p * (b % p) % p) := by
  have h3 := hp.1
  have h4 := hp.2
  have h1 := md (a := a) (p := p) (by omega)
  have h2 := md (a := b) (p := p) (by omega)
  have hm := mul_small h1.1 h1.2 h2.1 h2.2 h4
  unfold modp_Mul.f
  rw [right_yes hp, Option.bind_some, if_pos rfl, if_neg (by omega), emod_tmod ha.1, emod_tmod hb.1, wu64 hm.1 hm.2, emod_tmod hm.1]
theorem pow_md (a p : Int) : ∀ n : Nat, (a % p) ^ n % p = a ^ n % p
  | 0 => by simp
  | n + 1 => by rw [Int.pow_succ, Int.pow_succ, Int.mul_emod, pow_md a p n, Int.emod_emod, ← Int.mul_emod]
theorem pow_half {a n : Int} (h : 0 ≤ n) : a ^ n.toNat = (a * a) ^ (n / 2).toNat * a ^ (n % 2).toNat := by
  have e : n.toNat = 2 * (n / 2).toNat + (n % 2).toNat := by omega
  conv => lhs; rw [e, Int.pow_add, Int.pow_mul]
  rw [Int.pow_succ a 1, Int.pow_one]
theorem pow_l0 {p : Int} (hp : Right p) : ∀ n : Int, 0 ≤ n → ∀ a x : Int, n ≤ 18446744073709551615 → 0 ≤ a → a < p → 0 ≤ x → x < p → Ev (fun k => modp_Pow.l0 k a n p x) (x * a ^ n.toNat % p) := by
  have h3 := hp.1
  have h4 := hp.2
  refine dg_ind (b := 2) (by decide) ?_ ?_
  · intro a x hn ha0 ha hx0 hx
    refine ev_succ ?_
    simp only [modp_Pow.l0]
    refine ev_neg (by omega) (ev_now ?_)
    simp [Int.emod_eq_of_lt hx0 hx]
  · intro n hn ih a x hn2 ha0 ha hx0 hx
    have hm := mul_small ha0 ha ha0 ha h4
    have hxa := mul_small hx0 hx ha0 ha h4
    have hq := md (a := a * a) (p := p) (by omega)
    have hxq := md (a := x * a) (p := p) (by omega)
    refine ev_succ ?_
    simp only [modp_Pow.l0]
    rw [bit1 (by omega) hn2, wu64 hm.1 hm.2, wu64 hxa.1 hxa.2, emod_tmod hm.1, emod_tmod hxa.1]
    refine ev_pos (by omega) (ev_ite (fun h1 => ev_neg (by omega) ?_) (fun h1 => ev_neg (by omega) ?_))
    · have := ih (a * a % p) (x * a % p) (by omega) hq.1 hq.2 hxq.1 hxq.2
      have e : x * a % p * (a * a % p) ^ (n / 2).toNat % p = x * a ^ n.toNat % p := by
        rw [Int.mul_emod, Int.emod_emod, pow_md, ← Int.mul_emod, pow_half (a := a) (n := n) (by omega), h1]
        congr 1
        simp only [Int.toNat_one, Int.pow_one]
        rw [Int.mul_assoc, Int.mul_comm a]
      rwa [e] at this
    · have := ih (a * a % p) x (by omega) hq.1 hq.2 hx0 hx
      have e : x * (a * a % p) ^ (n / 2).toNat % p = x * a ^ n.toNat % p := by
        rw [Int.mul_emod, pow_md, ← Int.mul_emod, pow_half (a := a) (n := n) (by omega), show n % 2 = 0 by omega]
        simp
      rwa [e] at this
theorem pow_ev {a n p : Int} (ha : U a) (hn : U n) (hp : Right p) : Ev (fun k => modp_Pow.f k a n p) (a ^ n.toNat % p) := by
  have h3 := hp.1
  have h := md (a := a) (p := p) (by omega)
  unfold modp_Pow.f
  refine ev_eq (right_yes hp) (ev_pos rfl (ev_neg (by omega) ?_))
  rw [emod_tmod ha.1]
  have := pow_l0 hp n hn.1 (a % p) 1 hn.2 h.1 h.2 (by omega) (by omega)
  rwa [Int.one_mul, pow_md] at this
theorem gcd_step (r s : Int) (hs : 0 < s) (hr : 0 ≤ r) : Int.gcd s (r % s) = Int.gcd r s := by
  obtain ⟨m, rfl⟩ := Int.eq_ofNat_of_zero_le hr
  obtain ⟨n, rfl⟩ := Int.eq_ofNat_of_zero_le (Int.le_of_lt hs)
  rw [← Int.natCast_emod]
  simp only [Int.gcd_natCast_natCast]
  rw [Nat.gcd_comm m n, Nat.gcd_rec n m, Nat.gcd_comm]
def InvSays (a p g : Int) (res : Int × Int) : Prop := (res.2 = 0 ∧ g = 1 ∧ 0 ≤ res.1 ∧ res.1 < p ∧ a * res.1 % p = 1 % p) ∨ (res = (0, 3) ∧ g ≠ 1)
theorem inv_l0 {a p : Int} (hp : Right p) : ∀ (t : Nat) (r s x y : Int), s.toNat = t → 0 ≤ r → r ≤ p → 0 ≤ s → s ≤ p → 0 ≤ x → x < p → 0 ≤ y → y < p → a * x % p = r % p → a * y % p = s % p →
    ∃ res, Ev (fun k => modp_Inv.l0 k p r s x y) res ∧ Ev (fun k => triviumref40_Inv.l0 k p r s x y) res ∧ InvSays a p (Int.gcd r s) res := by
  have h3 := hp.1
  have h4 := hp.2
  intro t
  induction t using Nat.strongRecOn with
  | ind t ih =>
    intro r s x y ht hr0 hr hs0 hs hx0 hx hy0 hy hax hay
    by_cases hz : s = 0
    · subst hz
      by_cases h1 : r = 1
      · subst h1
        refine ⟨(x, 0), ?_, ?_, .inl ⟨rfl, by decide, hx0, hx, hax⟩⟩
        · refine ev_succ ?_
          simp only [modp_Inv.l0]
          exact ev_pos (by trivial) (ev_pos (by trivial) (ev_now rfl))
        · refine ev_succ ?_
          simp only [triviumref40_Inv.l0]
          refine ev_neg (by omega) (ev_pos (by trivial) (ev_neg (by omega) (ev_now ?_)))
          rw [emod_tmod hx0, Int.emod_eq_of_lt hx0 hx]
      · refine ⟨(0, 3), ?_, ?_, .inr ⟨rfl, ?_⟩⟩
        · refine ev_succ ?_
          simp only [modp_Inv.l0]
          exact ev_pos (by trivial) (ev_neg h1 (ev_now rfl))
        · refine ev_succ ?_
          simp only [triviumref40_Inv.l0]
          exact ev_neg (by omega) (ev_neg h1 (ev_now rfl))
        · rw [Int.gcd_zero_right]; omega
    · have hsp : 0 < s := by omega
      have hq0 : 0 ≤ r / s := Int.ediv_nonneg hr0 (by omega)
      have hq1 : r / s ≤ r := Int.ediv_le_self _ hr0
      have hm := md (a := r) (p := s) hsp
      have hqp := md (a := r / s) (p := p) (by omega)
      have hmul := mul_small hqp.1 hqp.2 hy0 hy h4
      have hc := md (a := r / s % p * y) (p := p) (by omega)
      have hrs := Int.mul_ediv_add_emod r s
      have hy' : ∀ z : Int, 0 ≤ (x + p - z) % p ∧ (x + p - z) % p < p := fun z => md (by omega)
      have key : a * ((x + p - r / s % p * y % p) % p) % p = r % s % p := by
        have e1 : (x + p - r / s % p * y % p) % p = (x - r / s * y) % p := by
          rw [Int.sub_emod, Int.emod_emod, Int.mul_emod (r / s % p) y, Int.emod_emod, ← Int.mul_emod, ← Int.sub_emod]
          rw [show x + p - r / s * y = x - r / s * y + p by omega, Int.add_emod_right]
        rw [e1, Int.mul_emod, Int.emod_emod, ← Int.mul_emod, Int.mul_sub]
        have e2 : a * (r / s * y) = r / s * (a * y) := by rw [Int.mul_left_comm]
        rw [e2, Int.sub_emod, hax, Int.mul_emod (r / s), hay, ← Int.mul_emod, ← Int.sub_emod]
        have : r - r / s * s = r % s := by rw [Int.mul_comm]; omega
        rw [this]
      have hlt : r % s < s := hm.2
      obtain ⟨res, e1, e2, e3⟩ := ih (r % s).toNat (by omega) s (r % s) y ((x + p - r / s % p * y % p) % p) rfl hs0 hs hm.1 (by omega) hy0 hy (hy' _).1 (hy' _).2 hay key
      refine ⟨res, ?_, ?_, by rw [← gcd_step r s hsp hr0]; exact e3⟩
      · refine ev_succ ?_
        simp only [modp_Inv.l0]
        rw [ediv_tdiv hr0, emod_tmod hr0, wu64 hq0 (by omega)]
        refine ev_neg hz (ev_eq (mul_eq ⟨hq0, by omega⟩ ⟨hy0, by omega⟩ hp) (ev_eq (sub_eq ⟨hx0, by omega⟩ ?_ hp) ?_))
        · rw [Int.emod_eq_of_lt hy0 hy]; exact ⟨hc.1, by omega⟩
        · rw [Int.emod_eq_of_lt hy0 hy, Int.emod_eq_of_lt hx0 hx, Int.emod_eq_of_lt hc.1 hc.2]
          exact e1
      · refine ev_succ ?_
        simp only [triviumref40_Inv.l0]
        have hsq : 0 ≤ r / s * s ∧ r / s * s ≤ r := by
          have := Int.mul_comm s (r / s)
          constructor
          · exact Int.mul_nonneg hq0 hs0
          · omega
        have hrm : r - r / s * s = r % s := by rw [Int.mul_comm]; omega
        rw [ediv_tdiv hr0, wu64 hq0 (by omega), wu64 hsq.1 (by omega), hrm, wu64 hm.1 (by omega), emod_tmod hq0, wu64 hmul.1 hmul.2, emod_tmod hmul.1, wu64 (x := x + p) (by omega) (by omega), wu64 (x := x + p - r / s % p * y % p) (by omega) (by omega), emod_tmod (by omega)]
        exact ev_pos (by omega) (ev_neg hz (ev_neg (by omega) e2))
theorem inv_ev {a p : Int} (ha : U a) (hp : Right p) : ∃ res, Ev (fun k => modp_Inv.f k a p) res ∧ Ev (fun k => triviumref40_Inv.f k a p) res ∧ InvSays a p (Int.gcd (a % p) p) res := by
  have h3 := hp.1
  have h := md (a := a) (p := p) (by omega)
  obtain ⟨res, e1, e2, e3⟩ := inv_l0 (a := a) hp _ (a % p) p 1 0 rfl h.1 (by omega) (by omega) (Int.le_refl _) (by omega) (by omega) (by omega) (by omega) (by rw [Int.mul_one, Int.emod_emod]) (by rw [Int.mul_zero, Int.zero_emod, Int.emod_self])
  refine ⟨res, ?_, ?_, e3⟩
  · unfold modp_Inv.f
    rw [emod_tmod ha.1]
    exact ev_eq (right_yes hp) (ev_pos rfl (ev_neg (by omega) e1))
  · unfold triviumref40_Inv.f
    rw [emod_tmod ha.1]
    exact ev_eq (rright_yes hp) (ev_pos rfl (ev_neg (by omega) e2))
end Go.Proofs.Ytpjephicbiiamaa.M

end
section
namespace Go.Proofs.Ytpjephicbiiamaa.M
set_option linter.unusedVariables false
set_option linter.unusedSimpArgs false
open Go Go.RowKit Go.Proofs.YtpjephicbiiamaaW.PrintWords Go.Proofs.YtpjephicbiiamaaW.PrintLast Go.Proofs.YtpjephicbiiamaaW.PrintMore Go.Proofs.Ytpjephicbiiamaa.F Go.Proofs.Ytpjephicbiiamaa.A Go.Proofs.Ytpjephicbiiamaa.B Go.Proofs.Ytpjephicbiiamaa.Y
theorem pr_sp {a p : Nat} (hp : Pr p) (ha : ¬ p ∣ a) : SP a p := by
  obtain ⟨s, d, e, hd⟩ := ex_odd (p - 1) (by have := hp.1; omega)
  have hf := fermat hp ha
  rw [e] at hf
  have key : ∀ i, a ^ (2 ^ i * d) % p = 1 % p → a ^ d % p = 1 ∨ ∃ r, r < i ∧ a ^ (2 ^ r * d) % p = p - 1 := by
    intro i
    induction i with
    | zero =>
      intro h
      left
      rw [Nat.pow_zero, Nat.one_mul] at h
      rw [h]
      exact Nat.mod_eq_of_lt hp.1
    | succ i ih =>
      intro h
      have e2 : 2 ^ (i + 1) * d = (2 ^ i * d) * 2 := by rw [Nat.pow_succ]; ac_rfl
      rw [e2, Nat.pow_mul, Nat.pow_two] at h
      rcases sqrt_one hp h with h | h
      · rcases ih h with h | ⟨r, hr, h⟩
        · exact .inl h
        · exact .inr ⟨r, by omega, h⟩
      · exact .inr ⟨i, by omega, h⟩
  exact ⟨s, d, e, hd, key s hf⟩
theorem sp_iff {a n s d : Nat} (e : n - 1 = 2 ^ s * d) (hdo : d % 2 = 1) : SP a n ↔ (a ^ d % n = 1 ∨ ∃ r, r < s ∧ a ^ (2 ^ r * d) % n = n - 1) := by
  constructor
  · rintro ⟨s', d', e', hd', h⟩
    obtain ⟨rfl, rfl⟩ := odd_uniq (e.symm.trans e') hdo hd'
    exact h
  · exact fun h => ⟨s, d, e, hdo, h⟩
theorem strong_l1 {n a d s : Nat} (hn2 : 2 ≤ n) (hlt : n < 4294967296) (hs : s < 64) : ∀ (t i : Nat), i + 1 + t = s → ∀ b : Bool, Aside0 (b = true ↔ ∃ r, i < r ∧ r < s ∧ a ^ (2 ^ r * d) % n = n - 1) →
    Ev (fun k => modp_strong.l1 k (n : Int) ((a ^ (2 ^ i * d) % n : Nat) : Int) ((s - 1 : Nat) : Int) (i : Int)) b := by
  intro t
  induction t with
  | zero =>
    intro i hi b hb
    refine ev_succ ?_
    simp only [modp_strong.l1]
    refine ev_neg (by omega) (ev_now ?_)
    cases b with
    | false => rfl
    | true => obtain ⟨r, h1, h2, _⟩ := hb.out.1 rfl; omega
  | succ t ih =>
    intro i hi b hb
    have e1 : (a ^ (2 ^ i * d) % n) * (a ^ (2 ^ i * d) % n) % n = a ^ (2 ^ (i + 1) * d) % n := by
      rw [← Nat.mul_mod, ← Nat.pow_two, ← Nat.pow_mul, Nat.pow_succ]
      congr 2
      ac_rfl
    have hx : a ^ (2 ^ i * d) % n < n := Nat.mod_lt _ (by omega)
    generalize hX : a ^ (2 ^ i * d) % n = x at hx e1 ⊢
    have hm := mul_small (a := x) (b := x) (p := n) (by omega) (by omega) (by omega) (by omega) (by omega)
    have ex : ((x : Int) * x) % (n : Int) = ((a ^ (2 ^ (i + 1) * d) % n : Nat) : Int) := by rw [← e1, Int.natCast_emod, Int.natCast_mul]
    clear hX
    have hn1 : ∀ y : Nat, (y : Int) = (n : Int) - 1 ↔ y = n - 1 := fun y => by clear e1 ex hm; omega
    have hi1 : wrap64 ((i : Int) + 1) = ((i + 1 : Nat) : Int) := by rw [w64 (by omega) (by omega), cast_succ]
    refine ev_succ ?_
    simp only [modp_strong.l1]
    rw [wu64 hm.1 hm.2, emod_tmod hm.1, ex, wu64 (x := (n : Int) - 1) (by omega) (by omega), hi1]
    refine ev_pos (by omega) (ev_neg (by omega) (ev_ite (fun h => ev_now ?_) (fun h => ?_)))
    · exact (hb.out.2 ⟨i + 1, Nat.lt_succ_self i, by clear ex e1 h hm hn1; omega, (hn1 _).1 h⟩).symm
    · refine ih (i + 1) (by omega) b ⟨hb.out.trans ⟨fun ⟨r, h1, h2, h3⟩ => ⟨r, ?_, h2, h3⟩, fun ⟨r, h1, h2, h3⟩ => ⟨r, by omega, h2, h3⟩⟩⟩
      rcases Nat.lt_or_ge (i + 1) r with hr | hr
      · exact hr
      · obtain rfl : r = i + 1 := Nat.le_antisymm hr h1
        exact absurd ((hn1 _).2 h3) h
theorem strong_l0 {n a : Nat} (hn3 : 3 ≤ n) (hlt : n < 4294967296) (hodd : n % 2 = 1) (ha : a < 4294967296) {b : Bool} (hb : b = true ↔ SP a n) :
    ∀ (d s : Nat), n - 1 = 2 ^ s * d → Ev (fun k => modp_strong.l0 k (n : Int) (a : Int) (d : Int) (s : Int)) b := by
  intro d
  induction d using Nat.strongRecOn with
  | ind d ih =>
    intro s e
    have hd0 : d ≠ 0 := by rintro rfl; omega
    have hs : s < 32 := by
      apply Nat.lt_of_not_le
      intro h
      have h1 := Nat.pow_le_pow_right (n := 2) (by decide) h
      have h2 : 2 ^ s ≤ 2 ^ s * d := Nat.le_mul_of_pos_right _ (by omega)
      have : (2 : Nat) ^ 32 = 4294967296 := by decide
      omega
    have hd1 : d ≤ 2 ^ s * d := Nat.le_mul_of_pos_left _ (Nat.pow_pos (by decide))
    refine ev_succ ?_
    simp only [modp_strong.l0]
    rw [emod_tmod (by omega)]
    refine ev_ite (fun h => ?_) (fun h => ?_)
    · have e1 : IntKind.u64.wrap (Int.tdiv (d : Int) 2) = ((d / 2 : Nat) : Int) := by
        rw [ediv_tdiv (by omega), wu64 (by omega) (by omega)]; omega
      have e2 : wrap64 ((s : Int) + 1) = ((s + 1 : Nat) : Int) := by rw [w64 (by omega) (by omega), cast_succ]
      rw [e1, e2]
      refine ih (d / 2) (by omega) (s + 1) ?_
      rw [e, Nat.pow_succ, Nat.mul_assoc]
      congr 1
      omega
    · have hdo : d % 2 = 1 := by omega
      have hs1 : 1 ≤ s := by
        rcases Nat.eq_zero_or_pos s with h0 | h0
        · subst h0; rw [Nat.pow_zero, Nat.one_mul] at e; omega
        · exact h0
      have hp := pow_ev (a := a) (n := d) (p := n) ⟨by omega, by omega⟩ ⟨by omega, by omega⟩ ⟨by omega, by omega⟩
      have e3 : (a : Int) ^ (d : Int).toNat % (n : Int) = ((a ^ d % n : Nat) : Int) := by rw [Int.toNat_natCast, Int.natCast_emod, Int.natCast_pow]
      rw [e3] at hp
      refine ev_bind hp ?_
      rw [wu64 (x := (n : Int) - 1) (by omega) (by omega)]
      refine ev_ite (fun h1 => ?_) (fun h1 => ?_)
      · refine ev_succ ?_
        simp only [modp_strong.j1]
        exact ev_pos trivial (ev_now (hb.2 ((sp_iff e hdo).2 (.inl (by omega)))).symm)
      · refine ev_succ ?_
        simp only [modp_strong.j1]
        refine ev_ite (fun h2 => ev_now ?_) (fun h2 => ?_)
        · have h3 : ((a ^ d % n : Nat) : Int) = (n : Int) - 1 := eq_of_beq h2
          refine (hb.2 ((sp_iff e hdo).2 (.inr ⟨0, hs1, ?_⟩))).symm
          rw [Nat.pow_zero, Nat.one_mul]; omega
        · have h3 : ¬ ((a ^ d % n : Nat) : Int) = (n : Int) - 1 := fun h => h2 (beq_iff_eq.2 h)
          have e4 : wrap64 ((s : Int) - 1) = ((s - 1 : Nat) : Int) := by rw [w64 (by omega) (by omega)]; omega
          rw [e4]
          have := strong_l1 (n := n) (a := a) (d := d) (s := s) (by omega) hlt (by omega) (s - 1) 0 (by omega) b ⟨hb.trans ((sp_iff e hdo).trans ⟨?_, ?_⟩)⟩
          · rw [Nat.pow_zero, Nat.one_mul] at this
            exact this
          · rintro (h4 | ⟨r, hr, h4⟩)
            · omega
            · refine ⟨r, ?_, hr, h4⟩
              rcases Nat.eq_zero_or_pos r with h0 | h0
              · subst h0; rw [Nat.pow_zero, Nat.one_mul] at h4; omega
              · exact h0
          · rintro ⟨r, _, hr, h4⟩
            exact .inr ⟨r, hr, h4⟩
theorem strong_ev {n a : Nat} (hn3 : 3 ≤ n) (hlt : n < 4294967296) (hodd : n % 2 = 1) (ha : a < 4294967296) {b : Bool} (hb : b = true ↔ SP a n) : Ev (fun k => modp_strong.f k (n : Int) (a : Int)) b := by
  unfold modp_strong.f
  have e : IntKind.u64.wrap ((n : Int) - 1) = ((n - 1 : Nat) : Int) := by rw [wu64 (by omega) (by omega)]; omega
  rw [e]
  exact strong_l0 hn3 hlt hodd ha hb (n - 1) 0 (by simp)
theorem prime_l1_step {n : Nat} (hn3 : 3 ≤ n) (hlt : n < 4294967296) (hodd : n % 2 = 1) {i w : Nat} (hi : i < 3) (hw : rd [2, 7, 61] (i : Int) = (w : Int)) (hw2 : w < 4294967296) {b : Bool}
    (hno : ¬ SP w n → b = false) (hyes : SP w n → Ev (fun k => modp_Prime.l1 k (n : Int) (i + 1)) b) : Ev (fun k => modp_Prime.l1 k (n : Int) i) b := by
  refine ev_succ ?_
  simp only [modp_Prime.l1]
  rw [hw]
  refine ev_pos hi ?_
  by_cases h : SP w n
  · exact ev_bind (strong_ev hn3 hlt hodd hw2 (b := true) (by simp [h])) (ev_pos rfl (hyes h))
  · exact ev_bind (strong_ev hn3 hlt hodd hw2 (b := false) (by simp [h])) (ev_neg (by decide) (ev_now (hno h).symm))
theorem prime_l0_step {n i w : Nat} (hi : i < 3) (hw : rd [2, 7, 61] (i : Int) = (w : Int)) {b : Bool}
    (h1 : n = w → b = true) (h2 : n ≠ w → n % w = 0 → b = false) (h3 : n ≠ w → n % w ≠ 0 → Ev (fun k => modp_Prime.l0 k (n : Int) (i + 1)) b) : Ev (fun k => modp_Prime.l0 k (n : Int) i) b := by
  refine ev_succ ?_
  simp only [modp_Prime.l0]
  rw [hw, emod_tmod (by omega), ← Int.natCast_emod]
  refine ev_pos hi (ev_ite (fun h => ev_now (h1 (by omega)).symm) (fun h => ev_ite (fun h' => ev_now (h2 (by omega) (by omega)).symm) (fun h' => h3 (by omega) (by omega))))
theorem not_pr_of {n w : Nat} (hw : 2 ≤ w) (h : n ≠ w) (h0 : n % w = 0) : ¬ Pr n := by
  intro hp
  rcases hp.2 w (Nat.dvd_of_mod_eq_zero h0) with h1 | h1 <;> omega
theorem prime_nat {n : Nat} (hn : 2 ≤ n) (hlt : n < 4294967296) {b : Bool} (hb : b = true ↔ Pr n) : Ev (fun k => modp_Prime.f k (n : Int)) b := by
  have hno : ¬ Pr n → b = false := fun h => by cases b with | false => rfl | true => exact absurd (hb.1 rfl) h
  unfold modp_Prime.f
  refine ev_eq (right_yes ⟨by omega, by omega⟩) (ev_pos rfl ?_)
  refine prime_l0_step (w := 2) (by decide) rfl (fun h => hb.2 (h ▸ pr2)) (fun h h0 => hno (not_pr_of (by decide) h h0)) (fun a2 c2 => ?_)
  refine prime_l0_step (w := 7) (by decide) rfl (fun h => hb.2 (h ▸ pr7)) (fun h h0 => hno (not_pr_of (by decide) h h0)) (fun a7 c7 => ?_)
  refine prime_l0_step (w := 61) (by decide) rfl (fun h => hb.2 (h ▸ pr61)) (fun h h0 => hno (not_pr_of (by decide) h h0)) (fun a61 c61 => ?_)
  refine ev_succ ?_
  simp only [modp_Prime.l0]
  refine ev_neg (by decide) ?_
  have hn3 : 3 ≤ n := by omega
  have hodd : n % 2 = 1 := by omega
  refine prime_l1_step (w := 2) hn3 hlt hodd (by decide) rfl (by decide) (fun h => hno fun hp => h (pr_sp hp (not_dvd_pr hp pr2 a2))) (fun s2 => ?_)
  refine prime_l1_step (w := 7) hn3 hlt hodd (by decide) rfl (by decide) (fun h => hno fun hp => h (pr_sp hp (not_dvd_pr hp pr7 a7))) (fun s7 => ?_)
  refine prime_l1_step (w := 61) hn3 hlt hodd (by decide) rfl (by decide) (fun h => hno fun hp => h (pr_sp hp (not_dvd_pr hp pr61 a61))) (fun s61 => ?_)
  refine ev_succ ?_
  simp only [modp_Prime.l1]
  exact ev_neg (by decide) (ev_now (hb.2 (mr hn hlt c2 c7 c61 ⟨s2, s7, s61⟩)).symm)
theorem below_l0 : ∀ x : Nat, 2 ≤ x → x < 4294967296 → ∃ p : Nat, Ev (fun k => modp_Below.l0 k (x : Int)) ((p : Int), 0) ∧ Pr p ∧ p ≤ x ∧ ∀ q, p < q → q ≤ x → ¬ Pr q := by
  intro x
  induction x with
  | zero => intro h; omega
  | succ x ih =>
    intro h2 hlt
    by_cases hp : Pr (x + 1)
    · refine ⟨x + 1, ?_, hp, Nat.le_refl _, fun q h1 h3 => by omega⟩
      refine ev_succ ?_
      simp only [modp_Below.l0]
      exact ev_bind (prime_nat h2 hlt (b := true) (by simp [hp])) (ev_pos rfl (ev_now rfl))
    · have h3 : 2 ≤ x := by
        rcases Nat.lt_or_ge x 2 with h | h
        · obtain rfl : x = 1 := by omega
          exact absurd pr2 hp
        · exact h
      obtain ⟨p, e, hpp, hle, hall⟩ := ih h3 (by omega)
      refine ⟨p, ?_, hpp, by omega, fun q h1 h4 => ?_⟩
      · have e1 : IntKind.u64.wrap (((x + 1 : Nat) : Int) - 1) = (x : Int) := by rw [wu64 (by omega) (by omega)]; omega
        refine ev_succ ?_
        simp only [modp_Below.l0]
        rw [e1]
        exact ev_bind (prime_nat h2 hlt (b := false) (by simp [hp])) (ev_neg (by decide) e)
      · by_cases hq : q = x + 1
        · subst hq; exact hp
        · exact hall q h1 (by omega)
theorem below_ev {n : Int} (h1 : 2 < n) (h2 : n ≤ 4294967296) : ∃ p : Nat, Ev (fun k => modp_Below.f k n) ((p : Int), 0) ∧ Pr p ∧ (p : Int) < n ∧ ∀ q : Nat, p < q → (q : Int) < n → ¬ Pr q := by
  obtain ⟨x, rfl⟩ : ∃ x : Nat, n = ((x + 1 : Nat) : Int) := ⟨(n - 1).toNat, by omega⟩
  obtain ⟨p, e, hp, hle, hall⟩ := below_l0 x (by omega) (by omega)
  refine ⟨p, ?_, hp, by omega, fun q h3 h4 => hall q h3 (by omega)⟩
  unfold modp_Below.f
  refine ev_neg (by omega) (ev_succ ?_)
  simp only [modp_Below.j0]
  have e1 : IntKind.u64.wrap (((x + 1 : Nat) : Int) - 1) = (x : Int) := by rw [wu64 (by omega) (by omega)]; omega
  rw [e1]
  exact ev_neg (by simp; omega) e
theorem below_no {n : Int} (h : n ≤ 2 ∨ 4294967296 < n) : Ev (fun k => modp_Below.f k n) (0, 2) := by
  unfold modp_Below.f
  refine ev_ite (fun h1 => ?_) (fun h1 => ?_)
  · refine ev_succ ?_
    simp only [modp_Below.j0]
    exact ev_pos trivial (ev_now rfl)
  · refine ev_succ ?_
    simp only [modp_Below.j0]
    exact ev_pos (decide_eq_true (by omega)) (ev_now rfl)
end Go.Proofs.Ytpjephicbiiamaa.M

end
section
namespace Go.Proofs.Ytpjephicbiiamaa.Pure
set_option linter.unusedVariables false
set_option linter.unusedSimpArgs false
open Go Go.RowKit Go.Proofs.YtpjephicbiiamaaW.PrintWords Go.Proofs.YtpjephicbiiamaaW.PrintLast Go.Proofs.YtpjephicbiiamaaW.PrintMore Go.Proofs.Ytpjephicbiiamaa.F Go.Proofs.Ytpjephicbiiamaa.A Go.Proofs.Ytpjephicbiiamaa.B Go.Proofs.Ytpjephicbiiamaa.M Go.Proofs.Ytpjephicbiiamaa.Y
set_option maxRecDepth 100000 in
theorem works40_ev : Ev (fun k => triviumlaw40_works.f k) true := Ev.of (fun k => triviumlaw40_works.mono k) (k := 150) (by decide +kernel)
theorem fermat_all {p a : Nat} (hp : Pr p) : a ^ p % p = a % p := by
  have e : a ^ p = a ^ (p - 1) * a := by rw [← Nat.pow_succ]; congr 1; have := hp.1; omega
  by_cases h : p ∣ a
  · rw [e, Nat.mul_mod, Nat.mod_eq_zero_of_dvd h, Nat.mul_zero, Nat.zero_mod]
  · rw [e, Nat.mul_mod, fermat hp h, Nat.mod_eq_of_lt (a := 1) hp.1, Nat.one_mul, Nat.mod_mod]
theorem ModpFermat : triviumlaw40_ModpFermat.Pure := by
  intro a n ha hn
  replace ha : U a := wf_u64 ha
  replace hn : U n := wf_u64 hn
  refine Ev.rounds ?_
  unfold triviumlaw40_ModpFermat.f
  refine ev_bind works40_ev (ev_pos rfl ?_)
  by_cases h : n ≤ 2 ∨ 4294967296 < n
  · exact ev_bind (below_no h) (ev_neg (by decide) (ev_now rfl))
  · obtain ⟨p, e, hp, hlt, -⟩ := below_ev (n := n) (by omega) (by omega)
    have hp1 := hp.1
    have hR : Right (p : Int) := ⟨by omega, by omega⟩
    obtain ⟨m, rfl⟩ : ∃ m : Nat, a = (m : Int) := ⟨a.toNat, by have := ha.1; omega⟩
    obtain ⟨res, i1, -, i3⟩ := inv_ev ha hR
    refine ev_bind e (ev_pos rfl (ev_bind i1 (ev_bind (pow_ev ha ⟨by omega, by omega⟩ hR) (ev_neg (by show ¬ (p : Int) = 0; omega) ?_))))
    have e1 : (m : Int) ^ (p : Int).toNat % (p : Int) = ((m % p : Nat) : Int) := by
      rw [Int.toNat_natCast, ← fermat_all hp, Int.natCast_emod, Int.natCast_pow]
    have e2 : Int.tmod (m : Int) (p : Int) = ((m % p : Nat) : Int) := by rw [emod_tmod (by omega), Int.natCast_emod]
    show Ev (fun k => if (m : Int) ^ (p : Int).toNat % (p : Int) = Int.tmod (m : Int) (p : Int) then some ((res.2 == 0) == (Int.tmod (m : Int) (p : Int) != 0)) else some false) true
    rw [e1, e2]
    refine ev_pos rfl (ev_now ?_)
    have hg : Int.gcd ((m : Int) % (p : Int)) (p : Int) = Nat.gcd (m % p) p := by rw [← Int.natCast_emod, Int.gcd_natCast_natCast]
    rw [hg] at i3
    have hg2 : m % p ≠ 0 → Nat.gcd (m % p) p = 1 := fun h0 => by
      have : ¬ p ∣ m % p := fun hd => by have := Nat.le_of_dvd (by omega) hd; have := Nat.mod_lt m (show 0 < p by omega); omega
      exact (hp.cop this).symm
    rcases i3 with ⟨h0, h1, -⟩ | ⟨h0, h1⟩
    · have : m % p ≠ 0 := by
        intro h2
        rw [h2, Nat.gcd_zero_left] at h1
        omega
      rw [h0]
      simp
      omega
    · have : m % p = 0 := Classical.byContradiction fun h2 => h1 (by rw [hg2 h2]; rfl)
      rw [h0, this]
      rfl
end Go.Proofs.Ytpjephicbiiamaa.Pure

end
section
namespace Go.Proofs.Ytpjephicbiiamaa.modpFermat
open Go.Proofs.YtpjephicbiiamaaW
open Go.ChangeShapes Go.WideShapes Go.ChangeAt Go.RowKit
open Go.ChangeMaps (open_string shut_string)
set_option linter.unusedVariables false
theorem own : ownKnob Try.prog.godebug = none := by kernel_rfl
set_option maxRecDepth 100000 in
theorem lifted (os : Os) (started : os.Started) (H : Type) (enc : TypeId × Value → H) :
    ReturnsInHanded {} Try.checked os 10 .any (Rows.modpFermatSpec.pre6 enc Try.prog Try.f10 Rows.modpFermatRow.domain false) (Rows.modpFermatSpec.post enc Try.prog Try.f10 false true false false) := by
  refine returnsInHanded_of_change_sized (C := Try.checked) own started (by kernel_rfl) Try.func10
    (ChangeSpec.witness6 (enc := enc) (C := Try.checked) false ⟨#[], #[.int .u64 0, .int .u64 0], []⟩ 8 (by kernel_rfl) (by kernel_rfl) (by kernel_rfl) (by kernel_rfl)) ?_
  intro W base args ds gs before hval0 hW hcnd hsz0 _
  have hsz : (DataW.weightsEach Try.prog (Try.f10.params.toList ++ Rows.modpFermatSpec.plain.varTypes Try.prog) (ds ++ gs)).all (· ≤ reachBytes) = true := hsz0
  have hval : ∀ (j : Nat) t v, Try.f10.params[j]? = some t → args[j]? = some v → Value.okWide Try.prog W .any base t v := hval0
  have hW' := hW
  obtain ⟨p, q, hA0, hV, rfl, hfz, hnd⟩ := hW
  have hA : DataW.TrodAll enc Try.prog W 0 (fun _ => true) true Try.f10.params.toList args.toList ds p := hA0
  rw [Try.params10] at hA hval hsz
  obtain ⟨v0, vs0, d0, ds0, p0, q0, hargs, rfl, rfl, h0, r0⟩ := trodAll_cons hA
  obtain ⟨v1, vs1, d1, ds1, p1, q1, rfl, rfl, rfl, h1, r1⟩ := trodAll_cons r0
  obtain ⟨rfl, rfl, rfl⟩ := trodAll_nil r1
  obtain rfl : args = #[v0, v1] := by cases args; simp_all
  obtain ⟨rfl, rfl⟩ := trodVars_none hV
  obtain ⟨a0, rfl, rfl, rfl, w0⟩ := open_int Try.underlying54 (hval 0 54 v0 rfl rfl) h0
  obtain ⟨a1, rfl, rfl, rfl, w1⟩ := open_int Try.underlying54 (hval 1 54 v1 rfl rfl) h1
  clear hA0 hval0 hsz0 hsz
  refine (F.triviumlaw40_ModpFermat.walk Pure.ModpFermat a0 a1 W w0 w1).mono fun e W' ⟨he, bel⟩ => ?_
  subst he
  exact ⟨_, rfl, _, _, _, [], _, [], hW', trodAll_mk1 (shut_bool Try.underlying4 _), (trodAll_cons_mk (shut_int Try.underlying54 w0) (trodAll_cons_mk (shut_int Try.underlying54 w1) trodAll_mk0)), rfl, bel.frame _, fun h => by cases h⟩
theorem over : Rows.modpFermatRow.holds Try.pinned (OpenSpec.ofChange Rows.modpFermatSpec) :=
  OpenClaim.holds_of_wide 10 Try.f10 rfl rfl rfl rfl rfl rfl rfl ⟨rfl, rfl, rfl, rfl, rfl⟩ rfl rfl rfl rfl rfl (by kernel_rfl) Try.func10 (by kernel_rfl)
    (of_decide_eq_true (by kernel_rfl)) (by unfold Func.isWrapper; first | (rw [if_pos (by decide +kernel)]; kernel_rfl) | (rw [if_neg (by decide +kernel)]; exact ⟨rfl, rfl⟩))
    (fun os started H enc _ => lifted os started H enc)
theorem proved : Rows.ModpFermatSaid := over
#print axioms proved
end Go.Proofs.Ytpjephicbiiamaa.modpFermat
namespace Go.Proofs.Ytpjephicbiiamaa
theorem modpFermat_holds : Rows.ModpFermatSaid := modpFermat.proved
end Go.Proofs.Ytpjephicbiiamaa

end
