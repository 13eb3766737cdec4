/- A part of the proof of the law ModpBelow: words, what the Go code does function by function, lemmas (assembled by wip/assemble.py). -/
import Derived.WalkKit
import Derived.Test.YtpjephicbiiamaaCModpBelow1
set_option linter.unusedVariables false
set_option linter.unusedSimpArgs false
set_option linter.unusedSectionVars false
section
namespace Go.Proofs.Ytpjephicbiiamaa.Y
set_option linter.unusedVariables false
set_option linter.unusedSimpArgs false
def Pr (p : Nat) : Prop := 2 ≤ p ∧ ∀ d, d ∣ p → d = 1 ∨ d = p
theorem ex_pr : ∀ n : Nat, 2 ≤ n → ∃ p, Pr p ∧ p ∣ n := by
  intro n
  induction n using Nat.strongRecOn with
  | ind n ih =>
    intro h
    by_cases hp : Pr n
    · exact ⟨n, hp, Nat.dvd_refl n⟩
    · have : ∃ d, d ∣ n ∧ d ≠ 1 ∧ d ≠ n := by
        apply Classical.byContradiction
        intro hc
        apply hp
        refine ⟨h, fun d hd => ?_⟩
        by_cases h1 : d = 1
        · exact .inl h1
        · by_cases h2 : d = n
          · exact .inr h2
          · exact absurd ⟨d, hd, h1, h2⟩ hc
      obtain ⟨d, hd, h1, h2⟩ := this
      have hle := Nat.le_of_dvd (by omega) hd
      have h0 : d ≠ 0 := by rintro rfl; have := Nat.zero_dvd.1 hd; omega
      obtain ⟨p, hp, hpd⟩ := ih d (by omega) (by omega)
      exact ⟨p, hp, Nat.dvd_trans hpd hd⟩
theorem Pr.cop {p a : Nat} (hp : Pr p) (h : ¬ p ∣ a) : Nat.Coprime p a := by
  rcases hp.2 (Nat.gcd p a) (Nat.gcd_dvd_left p a) with h1 | h1
  · exact h1
  · exact absurd (h1 ▸ Nat.gcd_dvd_right p a) h
theorem Pr.dvd_mul {p a b : Nat} (hp : Pr p) (h : p ∣ a * b) : p ∣ a ∨ p ∣ b := by
  by_cases ha : p ∣ a
  · exact .inl ha
  · exact .inr ((hp.cop ha).dvd_of_dvd_mul_left h)
theorem Pr.ne_dvd {p q : Nat} (hp : Pr p) (hq : Pr q) (h : p ∣ q) : p = q := by
  rcases hq.2 p h with h | h
  · have := hp.1; omega
  · exact h
theorem mod_of_dvd {a b n m : Nat} (h : a % n = b % n) (hm : m ∣ n) : a % m = b % m := by
  rw [← Nat.mod_mod_of_dvd a hm, h, Nat.mod_mod_of_dvd b hm]
theorem pow_mod_mul (a m n x : Nat) (h : a ^ m % x = 1 % x) : a ^ (m * n) % x = 1 % x := by
  rw [Nat.pow_mul, Nat.pow_mod, h, ← Nat.pow_mod, Nat.one_pow]
theorem pow_gcd {a p : Nat} (hp : Nat.Coprime a p) : ∀ m n : Nat, a ^ m % p = 1 % p → a ^ n % p = 1 % p → a ^ (Nat.gcd m n) % p = 1 % p := by
  intro m
  induction m using Nat.strongRecOn with
  | ind m ih =>
    intro n hm hn
    by_cases h0 : m = 0
    · subst h0; rwa [Nat.gcd_zero_left]
    · rw [Nat.gcd_rec]
      refine ih (n % m) (Nat.mod_lt _ (by omega)) m ?_ hm
      have e : a ^ n = a ^ (m * (n / m)) * a ^ (n % m) := by rw [← Nat.pow_add, Nat.div_add_mod]
      rw [e, Nat.mul_mod, pow_mod_mul _ _ _ _ hm, ← Nat.mul_mod, Nat.one_mul] at hn
      exact hn
theorem perm_of_sub : ∀ (l1 l2 : List Nat), l1.Nodup → (∀ x ∈ l1, x ∈ l2) → l2.length ≤ l1.length → l1.Perm l2
  | [], l2, _, _, h => by have : l2 = [] := List.length_eq_zero_iff.1 (by simpa using h); rw [this]
  | x :: l1, l2, hn, hs, hl => by
    have hx : x ∈ l2 := hs x (List.mem_cons_self ..)
    have hp := List.perm_cons_erase hx
    have hn' := List.nodup_cons.1 hn
    have hle : (l2.erase x).length ≤ l1.length := by
      rw [List.length_erase_of_mem hx]
      simp only [List.length_cons] at hl
      omega
    have := perm_of_sub l1 (l2.erase x) hn'.2 (fun y hy => by
      have hyx : y ≠ x := fun h => hn'.1 (h ▸ hy)
      exact (List.mem_erase_of_ne hyx).2 (hs y (List.mem_cons_of_mem _ hy))) hle
    exact (this.cons x).trans hp.symm
def prod (l : List Nat) : Nat := l.foldr (· * ·) 1
theorem prod_perm {l1 l2 : List Nat} (h : l1.Perm l2) : prod l1 = prod l2 := by
  induction h with
  | nil => rfl
  | cons x _ ih => simp only [prod, List.foldr_cons] at *; rw [ih]
  | swap x y l => simp only [prod, List.foldr_cons]; rw [Nat.mul_left_comm]
  | trans _ _ ih1 ih2 => rw [ih1, ih2]
theorem prod_map_mod (a p : Nat) : ∀ l : List Nat, prod (l.map fun i => a * i % p) % p = a ^ l.length * prod l % p
  | [] => by simp [prod]
  | x :: l => by
    have ih := prod_map_mod a p l
    simp only [prod, List.map_cons, List.foldr_cons, List.length_cons] at *
    rw [Nat.mul_mod, Nat.mod_mod, ih, ← Nat.mul_mod, Nat.pow_succ]
    congr 1
    ac_rfl
theorem prod_cop {p : Nat} (hp : Pr p) : ∀ l : List Nat, (∀ x ∈ l, ¬ p ∣ x) → ¬ p ∣ prod l
  | [], _ => fun h => by have := Nat.le_of_dvd (by decide) (show p ∣ 1 from h); have := hp.1; omega
  | x :: l, hl => fun h => by
    rcases hp.dvd_mul (show p ∣ x * prod l from h) with h | h
    · exact hl x (List.mem_cons_self ..) h
    · exact prod_cop hp l (fun y hy => hl y (List.mem_cons_of_mem _ hy)) h
theorem dvd_sub_of_mod {a b p : Nat} (h : a % p = b % p) (hle : b ≤ a) : p ∣ a - b := Nat.dvd_of_mod_eq_zero (Nat.sub_mod_eq_zero_of_mod_eq h)
theorem mod_of_dvd_sub {a b p : Nat} (h : p ∣ a - b) (hle : b ≤ a) : a % p = b % p := by
  obtain ⟨k, hk⟩ := h
  have : a = b + p * k := by omega
  rw [this, Nat.add_mul_mod_self_left]
theorem mul_cancel {a b c p : Nat} (hp : Nat.Coprime p c) (h : a * c % p = b * c % p) : a % p = b % p := by
  rcases Nat.le_total b a with hle | hle
  · have h1 := dvd_sub_of_mod h (Nat.mul_le_mul_right c hle)
    rw [← Nat.sub_mul] at h1
    have h2 := hp.dvd_of_dvd_mul_right h1
    exact mod_of_dvd_sub h2 hle
  · have h1 := dvd_sub_of_mod h.symm (Nat.mul_le_mul_right c hle)
    rw [← Nat.sub_mul] at h1
    have h2 := hp.dvd_of_dvd_mul_right h1
    exact (mod_of_dvd_sub h2 hle).symm
theorem fermat {p a : Nat} (hp : Pr p) (ha : ¬ p ∣ a) : a ^ (p - 1) % p = 1 % p := by
  have hcop : Nat.Coprime p a := hp.cop ha
  let L := List.range' 1 (p - 1)
  have hL : ∀ x, x ∈ L ↔ 1 ≤ x ∧ x < p := fun x => by
    have := hp.1
    simp only [L, List.mem_range'_1]; omega
  have hperm : (L.map fun i => a * i % p).Perm L := by
    refine perm_of_sub _ _ ?_ ?_ (by simp)
    · refine List.pairwise_map.2 (List.Pairwise.imp_of_mem (fun {x y} hx hy hne hxy => hne ?_) (List.nodup_range' (s := 1) (n := p - 1)))
      have hx' := (hL x).1 hx
      have hy' := (hL y).1 hy
      rw [Nat.mul_comm a x, Nat.mul_comm a y] at hxy
      have := mul_cancel hcop hxy
      rw [Nat.mod_eq_of_lt hx'.2, Nat.mod_eq_of_lt hy'.2] at this
      exact this
    · intro y hy
      obtain ⟨x, hx, rfl⟩ := List.mem_map.1 hy
      have hx' := (hL x).1 hx
      refine (hL _).2 ⟨?_, Nat.mod_lt _ (by have := hp.1; omega)⟩
      apply Nat.pos_of_ne_zero
      intro h0
      rcases hp.dvd_mul (Nat.dvd_of_mod_eq_zero h0) with h | h
      · exact ha h
      · have := Nat.le_of_dvd (by omega) h; omega
  have h1 := prod_map_mod a p L
  rw [prod_perm hperm] at h1
  have h2 : ¬ p ∣ prod L := prod_cop hp L (fun x hx h => by
    have hx' := (hL x).1 hx
    have := Nat.le_of_dvd (by omega) h; omega)
  have hlen : L.length = p - 1 := by simp [L]
  rw [hlen] at h1
  have h3 : a ^ (p - 1) * prod L % p = 1 * prod L % p := by rw [Nat.one_mul]; exact h1.symm
  exact mul_cancel (hp.cop h2) h3
theorem sqrt_one {p x : Nat} (hp : Pr p) (h : x * x % p = 1 % p) : x % p = 1 % p ∨ x % p = p - 1 := by
  have h2 := hp.1
  by_cases hx : x % p = 0
  · have : x * x % p = 0 := by rw [Nat.mul_mod, hx]; simp
    rw [this, Nat.mod_eq_of_lt (by omega)] at h; omega
  · have hlt := Nat.mod_lt x (show 0 < p by omega)
    obtain ⟨y, hy⟩ : ∃ y, x % p = y + 1 := ⟨x % p - 1, by omega⟩
    rw [Nat.mul_mod, hy] at h
    have h3 : p ∣ (y + 1) * (y + 1) - 1 := dvd_sub_of_mod h (Nat.le_trans (by omega) (Nat.le_mul_of_pos_left _ (by omega)))
    have e : (y + 1) * (y + 1) - 1 = y * (y + 2) := by
      have : (y + 1) * (y + 1) = y * (y + 2) + 1 := by grind
      omega
    rw [e] at h3
    rcases hp.dvd_mul h3 with h4 | h4
    · left
      have : y = 0 := by
        rcases Nat.eq_zero_or_pos y with h | h
        · exact h
        · have := Nat.le_of_dvd h h4; omega
      rw [hy, this, Nat.mod_eq_of_lt (by omega)]
    · right
      have := Nat.le_of_dvd (by omega) h4
      rw [hy]; omega
end Go.Proofs.Ytpjephicbiiamaa.Y

end
section
namespace Go.Proofs.Ytpjephicbiiamaa.Y
set_option linter.unusedVariables false
set_option linter.unusedSimpArgs false
def SP (a n : Nat) : Prop := ∃ s d, n - 1 = 2 ^ s * d ∧ d % 2 = 1 ∧ (a ^ d % n = 1 ∨ ∃ r, r < s ∧ a ^ (2 ^ r * d) % n = n - 1)
theorem odd_uniq : ∀ {s d s' d' : Nat}, 2 ^ s * d = 2 ^ s' * d' → d % 2 = 1 → d' % 2 = 1 → s = s' ∧ d = d'
  | 0, d, 0, d', h, _, _ => by simpa using h
  | 0, d, s' + 1, d', h, h1, _ => by rw [Nat.pow_succ, Nat.mul_comm (2 ^ s') 2, Nat.mul_assoc] at h; simp only [Nat.pow_zero, Nat.one_mul] at h; omega
  | s + 1, d, 0, d', h, _, h1 => by rw [Nat.pow_succ, Nat.mul_comm (2 ^ s) 2, Nat.mul_assoc] at h; simp only [Nat.pow_zero, Nat.one_mul] at h; omega
  | s + 1, d, s' + 1, d', h, h1, h2 => by
    rw [Nat.pow_succ, Nat.mul_comm (2 ^ s) 2, Nat.mul_assoc, Nat.pow_succ, Nat.mul_comm (2 ^ s') 2, Nat.mul_assoc] at h
    obtain ⟨a, b⟩ := odd_uniq (s := s) (s' := s') (d := d) (d' := d') (by omega) h1 h2
    exact ⟨by omega, b⟩
theorem ex_odd : ∀ n : Nat, 0 < n → ∃ s d, n = 2 ^ s * d ∧ d % 2 = 1 := by
  intro n
  induction n using Nat.strongRecOn with
  | ind n ih =>
    intro h
    by_cases h2 : n % 2 = 1
    · exact ⟨0, n, by simp, h2⟩
    · obtain ⟨s, d, e, hd⟩ := ih (n / 2) (by omega) (by omega)
      refine ⟨s + 1, d, ?_, hd⟩
      rw [Nat.pow_succ, Nat.mul_comm (2 ^ s) 2, Nat.mul_assoc, ← e]; omega
theorem SP.fermat {a n : Nat} (hn : 2 ≤ n) (h : SP a n) : a ^ (n - 1) % n = 1 % n := by
  obtain ⟨s, d, e, hd, h | ⟨r, hr, h⟩⟩ := h
  · rw [e, Nat.mul_comm]
    exact pow_mod_mul _ _ _ _ (by rw [h, Nat.mod_eq_of_lt (by omega)])
  · have e2 : n - 1 = (2 ^ r * d) * 2 * 2 ^ (s - r - 1) := by
      rw [e]
      have : 2 ^ s = 2 ^ r * 2 * 2 ^ (s - r - 1) := by rw [← Nat.pow_succ, ← Nat.pow_add, show r + 1 + (s - r - 1) = s by omega]
      rw [this]; ac_rfl
    rw [e2]
    refine pow_mod_mul _ _ _ _ ?_
    rw [Nat.pow_mul, Nat.pow_two, Nat.mul_mod, h]
    have : (n - 1) * (n - 1) = 1 + n * (n - 2) := by
      obtain ⟨m, rfl⟩ : ∃ m, n = m + 2 := ⟨n - 2, by omega⟩
      simp only [show m + 2 - 1 = m + 1 by omega, show m + 2 - 2 = m by omega]
      grind
    rw [this, Nat.add_mul_mod_self_left]
theorem one_mod_dvd {a e n p : Nat} (h : a ^ e % n = 1 % n) (hp : p ∣ n) : a ^ e % p = 1 % p := mod_of_dvd h hp
def T (a p i : Nat) : Prop := ∃ t d, p - 1 = 2 ^ t * d ∧ d % 2 = 1 ∧ a ^ (2 ^ i * d) % p = 1 % p
theorem gcd_odd {c d t d' : Nat} (hd : d % 2 = 1) (h : c ≤ t) : Nat.gcd (2 ^ c * d) (2 ^ t * d') ∣ 2 ^ c * d' := by
  have e : 2 ^ t * d' = 2 ^ c * (2 ^ (t - c) * d') := by rw [← Nat.mul_assoc, ← Nat.pow_add, show c + (t - c) = t by omega]
  rw [e, Nat.gcd_mul_left]
  refine Nat.mul_dvd_mul_left _ ?_
  have h1 := Nat.gcd_dvd_left d (2 ^ (t - c) * d')
  have h2 := Nat.gcd_dvd_right d (2 ^ (t - c) * d')
  have h3 : Nat.Coprime (Nat.gcd d (2 ^ (t - c) * d')) (2 ^ (t - c)) := by
    refine Nat.Coprime.pow_right _ ?_
    have : ¬ 2 ∣ Nat.gcd d (2 ^ (t - c) * d') := fun h => by have := Nat.dvd_trans h h1; omega
    have hp2 : Pr 2 := ⟨by omega, fun d hd => by have := Nat.le_of_dvd (by omega) hd; have : d ≠ 0 := by rintro rfl; have := Nat.zero_dvd.1 hd; omega
                                                 omega⟩
    exact (hp2.cop this).symm
  exact h3.dvd_of_dvd_mul_left h2
theorem pow_one_dvd {a p m n : Nat} (h : a ^ m % p = 1 % p) (hd : m ∣ n) : a ^ n % p = 1 % p := by
  obtain ⟨k, rfl⟩ := hd
  exact pow_mod_mul _ _ _ _ h
theorem T_up {a p c d : Nat} (hp : Pr p) (ha : ¬ p ∣ a) (hd : d % 2 = 1) (h : a ^ (2 ^ c * d) % p = 1 % p) : ∀ i, c ≤ i → T a p i := by
  intro i hi
  obtain ⟨t, d', e, hd'⟩ := ex_odd (p - 1) (by have := hp.1; omega)
  refine ⟨t, d', e, hd', ?_⟩
  have hf := fermat hp ha
  rw [e] at hf
  by_cases hit : t ≤ i
  · exact pow_one_dvd hf (Nat.mul_dvd_mul_right (Nat.pow_dvd_pow 2 hit) _)
  · have hg := pow_gcd (hp.cop ha).symm _ _ h hf
    exact pow_one_dvd hg (Nat.dvd_trans (gcd_odd hd (by omega)) (Nat.mul_dvd_mul_right (Nat.pow_dvd_pow 2 hi) _))
theorem T_down {a n p r s d : Nat} (hp : Pr p) (ha : ¬ p ∣ a) (hpn : p ∣ n) (hodd : n % 2 = 1) (hn : 2 ≤ n) (e : n - 1 = 2 ^ s * d) (hd : d % 2 = 1) (hr : r < s) (h : a ^ (2 ^ r * d) % n = n - 1)
    (hf : a ^ (n - 1) % n = 1 % n) : ∀ i, i ≤ r → ¬ T a p i := by
  rintro i hi ⟨t, d', e', hd', h'⟩
  have h1 : a ^ (2 ^ r * d') % p = 1 % p := pow_one_dvd h' (Nat.mul_dvd_mul_right (Nat.pow_dvd_pow 2 hi) _)
  have h2 := one_mod_dvd hf hpn
  rw [e] at h2
  have hg := pow_gcd (hp.cop ha).symm _ _ h1 h2
  have h3 := pow_one_dvd hg (gcd_odd hd' (Nat.le_of_lt hr))
  have h4 : (n - 1) % p = 1 % p := by rw [← h3, ← h, Nat.mod_mod_of_dvd _ hpn]
  obtain ⟨k, hk⟩ := hpn
  have hp2 := hp.1
  have hk0 : k ≠ 0 := by rintro rfl; omega
  obtain ⟨j, rfl⟩ : ∃ j, k = j + 1 := ⟨k - 1, by omega⟩
  have e5 : n - 1 = (p - 1) + p * j := by rw [hk, Nat.mul_add, Nat.mul_one]; omega
  rw [e5, Nat.add_mul_mod_self_left, Nat.mod_eq_of_lt (by omega), Nat.mod_eq_of_lt (by omega)] at h4
  have : p = 2 := by omega
  subst this
  omega
theorem SP.class {a n : Nat} (hn : 2 ≤ n) (hodd : n % 2 = 1) (h : SP a n) : ∃ c, ∀ p, Pr p → p ∣ n → ¬ p ∣ a → ∀ i, T a p i ↔ c ≤ i := by
  have hf := h.fermat hn
  obtain ⟨s, d, e, hd, h | ⟨r, hr, h⟩⟩ := h
  · refine ⟨0, fun p hp hpn ha i => ⟨fun _ => Nat.zero_le _, fun _ => ?_⟩⟩
    have h1 : a ^ (2 ^ 0 * d) % p = 1 % p := by
      rw [Nat.pow_zero, Nat.one_mul]
      exact one_mod_dvd (by rw [h, Nat.mod_eq_of_lt (by omega)]) hpn
    exact T_up hp ha hd h1 i (Nat.zero_le _)
  · refine ⟨r + 1, fun p hp hpn ha i => ⟨fun hT => ?_, fun hi => ?_⟩⟩
    · apply Nat.lt_of_not_le
      intro hle
      exact T_down hp ha hpn hodd hn e hd hr h hf i hle hT
    · have h1 : a ^ (2 ^ (r + 1) * d) % n = 1 % n := by
        have e2 : 2 ^ (r + 1) * d = (2 ^ r * d) * 2 := by rw [Nat.pow_succ]; ac_rfl
        rw [e2, Nat.pow_mul, Nat.pow_two, Nat.mul_mod, h]
        have : (n - 1) * (n - 1) = 1 + n * (n - 2) := by
          obtain ⟨m, rfl⟩ : ∃ m, n = m + 2 := ⟨n - 2, by omega⟩
          simp only [show m + 2 - 1 = m + 1 by omega, show m + 2 - 2 = m by omega]
          grind
        rw [this, Nat.add_mul_mod_self_left]
      exact T_up hp ha hd (one_mod_dvd h1 hpn) i hi
def pw (a e m : Nat) : Nat :=
  Nat.mod (Nat.mul (Nat.pow (Nat.mod (Nat.mul (Nat.pow (Nat.mod (Nat.mul (Nat.pow (Nat.mod (Nat.pow a (Nat.div e 16777216)) m) 256) (Nat.pow a (Nat.mod (Nat.div e 65536) 256))) m) 256) (Nat.pow a (Nat.mod (Nat.div e 256) 256))) m) 256) (Nat.pow a (Nat.mod e 256))) m
theorem pw_def (a e m : Nat) : pw a e m = ((((a ^ (e / 16777216) % m) ^ 256 * a ^ (e / 65536 % 256) % m) ^ 256 * a ^ (e / 256 % 256) % m) ^ 256 * a ^ (e % 256)) % m := rfl
def force (x : Nat) (f : Nat → Bool) : Bool := Nat.casesOn x (f 0) (fun n => f (Nat.succ n))
theorem force_eq (x : Nat) (f : Nat → Bool) : force x f = f x := by cases x <;> rfl
theorem pw_step (a x d m : Nat) : (a ^ x % m) ^ 256 * a ^ d % m = a ^ (x * 256 + d) % m := by
  rw [Nat.mul_mod, ← Nat.pow_mod, ← Nat.mul_mod, ← Nat.pow_mul, ← Nat.pow_add]
theorem pw_eq (a e m : Nat) : pw a e m = a ^ e % m := by
  rw [pw_def, pw_step, pw_step, pw_step]
  congr 2
  omega
def dec : Nat → Nat → Nat → Nat × Nat
  | 0, s, x => (s, x)
  | f + 1, s, x => if x % 2 = 0 then dec f (s + 1) (x / 2) else (s, x)
def spLoop (n : Nat) : Nat → Nat → Bool
  | 0, _ => false
  | s + 1, x => Nat.beq x (n - 1) || spLoop n s (x * x % n)
def spB (a n : Nat) : Bool :=
  let q := dec 32 0 (n - 1)
  Nat.beq (pw a q.2 n) 1 || spLoop n q.1 (pw a q.2 n)
theorem dec_eq : ∀ (f s x : Nat), 0 < x → x < 2 ^ f → ∃ j, (dec f s x).1 = s + j ∧ x = 2 ^ j * (dec f s x).2 ∧ (dec f s x).2 % 2 = 1 := by
  intro f
  induction f with
  | zero => intro s x h0 h1; simp at h1; omega
  | succ f ih =>
    intro s x h0 h1
    unfold dec
    by_cases h : x % 2 = 0
    · rw [if_pos h]
      obtain ⟨j, a, b, c⟩ := ih (s + 1) (x / 2) (by omega) (by rw [Nat.pow_succ] at h1; omega)
      refine ⟨j + 1, by omega, ?_, c⟩
      rw [Nat.pow_succ, Nat.mul_comm (2 ^ j) 2, Nat.mul_assoc, ← b]; omega
    · rw [if_neg h]; exact ⟨0, by simp, by simp, by omega⟩
theorem spLoop_eq (n a d : Nat) : ∀ (s i : Nat), spLoop n s (a ^ (2 ^ i * d) % n) = true ↔ ∃ r, r < s ∧ a ^ (2 ^ (i + r) * d) % n = n - 1 := by
  intro s
  induction s with
  | zero => intro i; simp [spLoop]
  | succ s ih =>
    intro i
    have e : a ^ (2 ^ i * d) % n * (a ^ (2 ^ i * d) % n) % n = a ^ (2 ^ (i + 1) * d) % n := by
      rw [← Nat.mul_mod, ← Nat.pow_add]
      congr 2
      rw [Nat.pow_succ, Nat.mul_comm (2 ^ i) 2, Nat.mul_assoc]; omega
    unfold spLoop
    rw [e, Bool.or_eq_true, ih (i + 1)]
    constructor
    · rintro (h | ⟨r, hr, h⟩)
      · exact ⟨0, by omega, by simpa using Nat.eq_of_beq_eq_true h⟩
      · exact ⟨r + 1, by omega, by rw [show i + (r + 1) = i + 1 + r by omega]; exact h⟩
    · rintro ⟨r, hr, h⟩
      cases r with
      | zero => left; rw [Nat.add_zero] at h; rw [h]; exact Nat.beq_refl _
      | succ r => right; exact ⟨r, by omega, by rw [show i + 1 + r = i + (r + 1) by omega]; exact h⟩
theorem spB_iff {a n : Nat} (hn : 2 ≤ n) (hlt : n < 4294967296) : spB a n = true ↔ SP a n := by
  obtain ⟨j, e1, e2, e3⟩ := dec_eq 32 0 (n - 1) (by omega) (by omega)
  unfold spB
  simp only [pw_eq]
  rw [Bool.or_eq_true]
  have hl := spLoop_eq n a (dec 32 0 (n - 1)).2 (dec 32 0 (n - 1)).1 0
  simp only [Nat.pow_zero, Nat.one_mul, Nat.zero_add] at hl
  rw [hl]
  constructor
  · rintro (h | ⟨r, hr, h⟩)
    · exact ⟨j, _, e2, e3, .inl (Nat.eq_of_beq_eq_true h)⟩
    · exact ⟨j, _, e2, e3, .inr ⟨r, by omega, h⟩⟩
  · rintro ⟨s, d, f1, f2, h⟩
    obtain ⟨rfl, rfl⟩ := odd_uniq (f1.symm.trans e2) f2 e3
    rcases h with h | ⟨r, hr, h⟩
    · left; rw [h]; rfl
    · right; exact ⟨r, by omega, h⟩
def bad (n : Nat) : Bool := !Nat.beq (pw 2 (Nat.sub n 1) n) 1 || !Nat.beq (pw 7 (Nat.sub n 1) n) 1 || !Nat.beq (pw 61 (Nat.sub n 1) n) 1 || !spB 2 n || !spB 7 n || !spB 61 n
def SP3 (n : Nat) : Prop := SP 2 n ∧ SP 7 n ∧ SP 61 n
theorem bad_not {n : Nat} (hn : 2 ≤ n) (hlt : n < 4294967296) (h : bad n = true) : ¬ SP3 n := by
  rintro ⟨h2, h7, h61⟩
  have f2 := h2.fermat hn
  have f7 := h7.fermat hn
  have f61 := h61.fermat hn
  rw [Nat.mod_eq_of_lt (show 1 < n by omega)] at f2 f7 f61
  unfold bad at h
  change (!Nat.beq (pw 2 (n - 1) n) 1 || !Nat.beq (pw 7 (n - 1) n) 1 || !Nat.beq (pw 61 (n - 1) n) 1 || !spB 2 n || !spB 7 n || !spB 61 n) = true at h
  rw [pw_eq, pw_eq, pw_eq, f2, f7, f61, (spB_iff hn hlt).2 h2, (spB_iff hn hlt).2 h7, (spB_iff hn hlt).2 h61] at h
  exact absurd h (by decide)
def badm (p m : Nat) : Bool := force (Nat.sub (Nat.mul p m) 1) (fun e => !Nat.beq (pw 2 e m) 1) || bad (Nat.mul p m)
theorem badm_not {p m : Nat} (hm : 2 ≤ m) (hp : 1 ≤ p) (hlt : p * m < 4294967296) (h : badm p m = true) : ¬ SP3 (p * m) := by
  intro h3
  have hn : 2 ≤ p * m := Nat.le_trans hm (Nat.le_mul_of_pos_left _ hp)
  unfold badm at h
  rw [force_eq] at h
  change (!Nat.beq (pw 2 (p * m - 1) m) 1 || bad (p * m)) = true at h
  rw [Bool.or_eq_true] at h
  rcases h with h | h
  · have f2 := one_mod_dvd (h3.1.fermat hn) (Nat.dvd_mul_left m p)
    rw [Nat.mod_eq_of_lt (show 1 < m by omega)] at f2
    rw [pw_eq, f2] at h
    exact absurd h (by decide)
  · exact bad_not hn hlt h h3
end Go.Proofs.Ytpjephicbiiamaa.Y

end
section
namespace Go.Proofs.Ytpjephicbiiamaa.Y
set_option linter.unusedVariables false
set_option linter.unusedSimpArgs false
def SM : List Nat := [2, 3, 5, 7, 11, 13, 17, 19, 23, 29, 31, 37, 41, 43, 47, 53, 59, 61, 67, 71, 73, 79, 83, 89, 97, 101, 103, 107, 109, 113, 127, 131, 137, 139, 149, 151, 157, 163, 167, 173, 179, 181, 191, 193, 197, 199, 211, 223, 227, 229, 233, 239, 241, 251]
def PR : Nat := 64266330917908644872330635228106713310880186591609208114244758680898150367880703152525200743234420230
theorem PR_eq : PR = prod SM := by decide +kernel
theorem PR_small : ∀ d, d < 256 → 2 ≤ d → PR % d = 0 ∨ ∃ e, e < d ∧ 2 ≤ e ∧ d % e = 0 := by decide +kernel
theorem SM_lt : ∀ p ∈ SM, p < 256 ∧ 2 ≤ p := by decide +kernel
theorem Pr.mem_prod {p : Nat} (hp : Pr p) : ∀ l : List Nat, p ∣ prod l → ∃ x ∈ l, p ∣ x
  | [], h => by have := Nat.le_of_dvd (by decide) (show p ∣ 1 from h); have := hp.1; omega
  | x :: l, h => by
    rcases hp.dvd_mul (show p ∣ x * prod l from h) with h | h
    · exact ⟨x, List.mem_cons_self .., h⟩
    · obtain ⟨y, hy, hd⟩ := hp.mem_prod l h
      exact ⟨y, List.mem_cons_of_mem _ hy, hd⟩
theorem small_dvd {p : Nat} (hp : Pr p) (h : p < 256) : p ∣ PR := by
  rcases PR_small p h hp.1 with h | ⟨e, he, he2, hd⟩
  · exact Nat.dvd_of_mod_eq_zero h
  · rcases hp.2 e (Nat.dvd_of_mod_eq_zero hd) with h | h <;> omega
theorem PR_lt {p : Nat} (hp : Pr p) (h : p ∣ PR) : p < 256 := by
  rw [PR_eq] at h
  obtain ⟨x, hx, hd⟩ := hp.mem_prod _ h
  have := SM_lt x hx
  have := Nat.le_of_dvd (by omega) hd
  omega
theorem comp_div {n : Nat} (h2 : 2 ≤ n) (h : ¬ Pr n) : ∃ p, Pr p ∧ p ∣ n ∧ p * p ≤ n := by
  have : ∃ d, d ∣ n ∧ d ≠ 1 ∧ d ≠ n := by
    apply Classical.byContradiction
    intro hc
    apply h
    refine ⟨h2, fun d hd => ?_⟩
    by_cases h1 : d = 1
    · exact .inl h1
    · by_cases h2 : d = n
      · exact .inr h2
      · exact absurd ⟨d, hd, h1, h2⟩ hc
  obtain ⟨d, ⟨e, hde⟩, h1, h3⟩ := this
  have hd0 : d ≠ 0 := by rintro rfl; rw [Nat.zero_mul] at hde; omega
  have he0 : e ≠ 0 := by rintro rfl; rw [Nat.mul_zero] at hde; omega
  have he1 : e ≠ 1 := by rintro rfl; rw [Nat.mul_one] at hde; omega
  rcases Nat.le_total d e with hle | hle
  · obtain ⟨p, hp, hpd⟩ := ex_pr d (by omega)
    have := Nat.le_of_dvd (by omega) hpd
    refine ⟨p, hp, hde ▸ Nat.dvd_trans hpd (Nat.dvd_mul_right d e), ?_⟩
    rw [hde]; exact Nat.mul_le_mul this (by omega)
  · obtain ⟨p, hp, hpd⟩ := ex_pr e (by omega)
    have := Nat.le_of_dvd (by omega) hpd
    refine ⟨p, hp, hde ▸ Nat.dvd_trans hpd (Nat.dvd_mul_left e d), ?_⟩
    rw [hde]; exact Nat.mul_le_mul (by omega) this
theorem isP_pr {q : Nat} (h2 : 2 ≤ q) (hlt : q < 65536) (hg : Nat.gcd q PR = 1) : Pr q := by
  apply Classical.byContradiction
  intro h
  obtain ⟨p, hp, hd, hpp⟩ := comp_div h2 h
  have hp256 : p < 256 := by
    apply Nat.lt_of_not_le
    intro h
    have := Nat.mul_le_mul h h
    omega
  have := Nat.dvd_gcd hd (small_dvd hp hp256)
  rw [hg] at this
  have := Nat.le_of_dvd (by decide) this
  have := hp.1
  omega
theorem pr_isP {q : Nat} (hq : Pr q) (h : 256 ≤ q) : Nat.gcd q PR = 1 := by
  apply hq.cop
  intro hd
  have := PR_lt hq hd
  omega
def allOne (q e : Nat) : Bool := Nat.beq (pw 2 e q) 1 && Nat.beq (pw 7 e q) 1 && Nat.beq (pw 61 e q) 1
def AllOne (q e : Nat) : Prop := 2 ^ e % q = 1 % q ∧ 7 ^ e % q = 1 % q ∧ 61 ^ e % q = 1 % q
theorem allOne_iff {q e : Nat} (hq : 2 ≤ q) : allOne q e = true ↔ AllOne q e := by
  unfold allOne AllOne
  rw [Bool.and_eq_true, Bool.and_eq_true, pw_eq, pw_eq, pw_eq, Nat.beq_eq, Nat.beq_eq, Nat.beq_eq, Nat.mod_eq_of_lt (show 1 < q by omega)]
  exact and_assoc
def stripR (r : Nat) : Nat → Nat → Nat
  | 0, x => x
  | f + 1, x => cond (Nat.beq (x % r) 0) (stripR r f (x / r)) x
def redL (q r : Nat) : Nat → Nat → Nat
  | 0, L => L
  | f + 1, L => cond (Nat.beq (L % r) 0 && allOne q (L / r)) (redL q r f (L / r)) L
def rsOf (q : Nat) : List Nat :=
  let l := SM.filter (fun r => Nat.beq ((q - 1) % r) 0)
  let c := l.foldl (fun x r => stripR r 16 x) (q - 1)
  cond (Nat.beq c 1) l (c :: l)
def mkL (q : Nat) (rs : List Nat) : Nat := rs.foldl (fun L r => redL q r 16 L) (q - 1)
def okR (r : Nat) : Bool := SM.contains r || (Nat.ble 2 r && Nat.blt r 65536 && Nat.beq (Nat.gcd r PR) 1)
def cert (q L : Nat) (rs : List Nat) : Bool :=
  allOne q L && rs.all (fun r => okR r && (!Nat.beq (L % r) 0 || !allOne q (L / r))) && Nat.beq (rs.foldl (fun x r => stripR r 16 x) L) 1
theorem SM_pr : ∀ p ∈ SM, Pr p := by
  intro p hp
  have h := SM_lt p hp
  have H : ∀ p ∈ SM, ∀ d, d < 256 → 2 ≤ d → p % d = 0 → d = p := by decide +kernel
  refine ⟨h.2, fun d hd => ?_⟩
  have hle := Nat.le_of_dvd (by omega) hd
  have h0 : d ≠ 0 := by rintro rfl; have := Nat.zero_dvd.1 hd; omega
  by_cases h1 : d = 1
  · exact .inl h1
  · exact .inr (H p hp d (by omega) (by omega) (Nat.mod_eq_zero_of_dvd hd))
theorem okR_pr {r : Nat} (h : okR r = true) : Pr r := by
  unfold okR at h
  rw [Bool.or_eq_true] at h
  rcases h with h | h
  · exact SM_pr r (by simpa using h)
  · simp only [Bool.and_eq_true] at h
    exact isP_pr (Nat.le_of_ble_eq_true h.1.1) (Nat.lt_of_le_of_lt (show r ≤ 65535 by have := h.1.2; simpa [Nat.blt] using this) (by decide)) (Nat.eq_of_beq_eq_true h.2)
theorem stripR_dvd {p r : Nat} (hp : Pr p) : ∀ (f x : Nat), p ∣ x → p ∣ r ∨ p ∣ stripR r f x := by
  intro f
  induction f with
  | zero => intro x h; exact .inr h
  | succ f ih =>
    intro x h
    unfold stripR
    cases hc : Nat.beq (x % r) 0 with
    | false => exact .inr h
    | true =>
      have hd := Nat.dvd_of_mod_eq_zero (Nat.eq_of_beq_eq_true hc)
      obtain ⟨k, hk⟩ := hd
      rw [hk] at h
      rcases hp.dvd_mul h with h1 | h1
      · exact .inl h1
      · by_cases hr : r = 0
        · subst hr; exact .inl (Nat.dvd_zero p)
        · refine ih _ ?_
          rw [hk, Nat.mul_div_cancel_left _ (Nat.pos_of_ne_zero hr)]
          exact h1
theorem stripAll_dvd {p : Nat} (hp : Pr p) : ∀ (rs : List Nat) (x : Nat), p ∣ x → (∃ r ∈ rs, p ∣ r) ∨ p ∣ rs.foldl (fun x r => stripR r 16 x) x
  | [], x, h => .inr h
  | r :: rs, x, h => by
    rcases stripR_dvd (r := r) hp 16 x h with h1 | h1
    · exact .inl ⟨r, List.mem_cons_self .., h1⟩
    · rcases stripAll_dvd hp rs _ h1 with ⟨s, hs, h2⟩ | h2
      · exact .inl ⟨s, List.mem_cons_of_mem _ hs, h2⟩
      · exact .inr h2
theorem AllOne.of_dvd {q m n : Nat} (h : AllOne q m) (hd : m ∣ n) : AllOne q n := ⟨pow_one_dvd h.1 hd, pow_one_dvd h.2.1 hd, pow_one_dvd h.2.2 hd⟩
structure Good (q : Nat) : Prop where
  pr : Pr q
  n2 : ¬ q ∣ 2
  n7 : ¬ q ∣ 7
  n61 : ¬ q ∣ 61
theorem AllOne.gcd {q m n : Nat} (hq : Good q) (h : AllOne q m) (k : AllOne q n) : AllOne q (Nat.gcd m n) :=
  ⟨pow_gcd (hq.pr.cop hq.n2).symm _ _ h.1 k.1, pow_gcd (hq.pr.cop hq.n7).symm _ _ h.2.1 k.2.1, pow_gcd (hq.pr.cop hq.n61).symm _ _ h.2.2 k.2.2⟩
theorem cert_dvd {q L : Nat} {rs : List Nat} (hq : Good q) (hL : 0 < L) (h : cert q L rs = true) {e : Nat} (he : AllOne q e) : L ∣ e := by
  unfold cert at h
  simp only [Bool.and_eq_true, List.all_eq_true] at h
  obtain ⟨⟨h1, h2⟩, h3⟩ := h
  have h1' := (allOne_iff hq.pr.1).1 h1
  have hg := h1'.gcd hq he
  have hgd : Nat.gcd L e ∣ L := Nat.gcd_dvd_left L e
  obtain ⟨k, hk⟩ := hgd
  by_cases hk1 : k = 1
  · rw [hk1, Nat.mul_one] at hk
    rw [hk]; exact Nat.gcd_dvd_right L e
  · have hk0 : k ≠ 0 := by rintro rfl; rw [Nat.mul_zero] at hk; omega
    obtain ⟨p, hp, hpk⟩ := ex_pr k (by omega)
    have hpL : p ∣ L := hk ▸ Nat.dvd_trans hpk (Nat.dvd_mul_left k _)
    rcases stripAll_dvd hp rs L hpL with ⟨r, hr, hpr⟩ | h4
    · have hr2 := h2 r hr
      rw [Bool.or_eq_true] at hr2
      have := hp.ne_dvd (okR_pr hr2.1) hpr
      subst this
      obtain ⟨j, hj⟩ := hpk
      have e1 : L / p = Nat.gcd L e * j := by
        conv => lhs; rw [hk, hj, Nat.mul_left_comm]
        exact Nat.mul_div_cancel_left _ (by have := hp.1; omega)
      have h5 : AllOne q (L / p) := by rw [e1]; exact hg.of_dvd (Nat.dvd_mul_right _ _)
      rcases hr2.2 with h6 | h6
      · rw [Nat.mod_eq_zero_of_dvd hpL] at h6; exact absurd h6 (by decide)
      · rw [(allOne_iff hq.pr.1).2 h5] at h6; exact absurd h6 (by decide)
    · rw [Nat.eq_of_beq_eq_true h3] at h4
      have := Nat.le_of_dvd (by decide) h4
      have := hp.1
      omega
noncomputable def scan (p L k : Nat) : Nat → Bool := Nat.rec (fun _ => true) (fun _ ih m => badm p m && force (Nat.add m L) ih) k
theorem scan_succ (p L k m : Nat) : scan p L (k + 1) m = (badm p m && force (Nat.add m L) (scan p L k)) := rfl
theorem scan_all {p L : Nat} : ∀ (k m : Nat), scan p L k m = true → ∀ j, j < k → badm p (m + j * L) = true := by
  intro k
  induction k with
  | zero => intro m _ j hj; omega
  | succ k ih =>
    intro m h j hj
    rw [scan_succ, force_eq] at h
    change (badm p m && scan p L k (m + L)) = true at h
    rw [Bool.and_eq_true] at h
    cases j with
    | zero => simpa using h.1
    | succ j =>
      have := ih _ h.2 j (by omega)
      rwa [show m + L + j * L = m + (j + 1) * L by rw [Nat.succ_mul]; omega] at this
noncomputable def scanP (p : Nat) : Bool :=
  let rs := rsOf p
  let L := mkL p rs
  force L (fun L => Nat.ble 1 L && cert p L rs && force ((4294967295 / p - 1) / L) (fun K => force (1 + L) (scan p L K)))
theorem allOne_cof {p m n : Nat} (hp : Good p) (hm : 1 ≤ m) (hn : n = p * m) (h : AllOne p (n - 1)) : AllOne p (m - 1) := by
  have e : n - 1 = (p - 1) * m + (m - 1) := by
    have := hp.pr.1
    obtain ⟨q, rfl⟩ : ∃ q, p = q + 1 := ⟨p - 1, by omega⟩
    rw [hn, Nat.add_mul, Nat.one_mul, Nat.add_sub_cancel]; omega
  have key : ∀ a, ¬ p ∣ a → a ^ (n - 1) % p = 1 % p → a ^ (m - 1) % p = 1 % p := by
    intro a ha h
    rw [e, Nat.pow_add, Nat.mul_mod, pow_mod_mul _ _ _ _ (fermat hp.pr ha), ← Nat.mul_mod, Nat.one_mul] at h
    exact h
  exact ⟨key 2 hp.n2 h.1, key 7 hp.n7 h.2.1, key 61 hp.n61 h.2.2⟩
theorem SP3.allOne {n p : Nat} (hn : 2 ≤ n) (h : SP3 n) (hp : p ∣ n) : AllOne p (n - 1) := ⟨one_mod_dvd (h.1.fermat hn) hp, one_mod_dvd (h.2.1.fermat hn) hp, one_mod_dvd (h.2.2.fermat hn) hp⟩
theorem scanP_not {p n : Nat} (hp : Good p) (h : scanP p = true) (hd : p ∣ n) (hne : n ≠ p) (hn : 2 ≤ n) (hlt : n < 4294967296) : ¬ SP3 n := by
  intro h3
  unfold scanP at h
  simp only [force_eq, Bool.and_eq_true] at h
  obtain ⟨⟨hL, hc⟩, hs⟩ := h
  have hL := Nat.le_of_ble_eq_true hL
  obtain ⟨m, hm⟩ := hd
  have hp2 := hp.pr.1
  have hm0 : m ≠ 0 := by rintro rfl; omega
  have hm1 : m ≠ 1 := by rintro rfl; rw [Nat.mul_one] at hm; exact hne hm
  have hd := cert_dvd hp hL hc (allOne_cof hp (by omega) hm (h3.allOne hn ⟨m, hm⟩))
  obtain ⟨j, hj⟩ := hd
  have hj0 : j ≠ 0 := by rintro rfl; omega
  have hmle : m ≤ 4294967295 / p := (Nat.le_div_iff_mul_le (by omega)).2 (by rw [Nat.mul_comm, ← hm]; omega)
  have hjle : j ≤ (4294967295 / p - 1) / mkL p (rsOf p) := (Nat.le_div_iff_mul_le hL).2 (by rw [Nat.mul_comm, ← hj]; omega)
  have hb := scan_all _ _ hs (j - 1) (by omega)
  have e : 1 + mkL p (rsOf p) + (j - 1) * mkL p (rsOf p) = m := by
    obtain ⟨i, rfl⟩ : ∃ i, j = i + 1 := ⟨j - 1, by omega⟩
    rw [Nat.add_sub_cancel]
    rw [Nat.mul_add, Nat.mul_one, Nat.mul_comm] at hj
    omega
  rw [e] at hb
  exact badm_not (by omega) (by omega) (by rw [← hm]; exact hlt) hb (hm ▸ h3)
noncomputable def scanR (k : Nat) : Nat → Bool := Nat.rec (fun _ => true) (fun _ ih q => cond (Nat.beq (Nat.gcd q PR) 1) (scanP q) true && force (Nat.add q 2) ih) k
theorem scanR_succ (k q : Nat) : scanR (k + 1) q = (cond (Nat.beq (Nat.gcd q PR) 1) (scanP q) true && force (Nat.add q 2) (scanR k)) := rfl
theorem scanR_all : ∀ (k q : Nat), scanR k q = true → ∀ j, j < k → Nat.gcd (q + 2 * j) PR = 1 → scanP (q + 2 * j) = true := by
  intro k
  induction k with
  | zero => intro q _ j hj; omega
  | succ k ih =>
    intro q h j hj hg
    rw [scanR_succ, force_eq] at h
    change (cond (Nat.beq (Nat.gcd q PR) 1) (scanP q) true && scanR k (q + 2)) = true at h
    rw [Bool.and_eq_true] at h
    cases j with
    | zero =>
      rw [Nat.mul_zero, Nat.add_zero] at hg ⊢
      have := h.1
      rw [hg] at this
      exact this
    | succ j =>
      have e : q + 2 + 2 * j = q + 2 * (j + 1) := by omega
      have := ih (q + 2) h.2 j (by omega)
      rw [e] at this
      exact this hg
end Go.Proofs.Ytpjephicbiiamaa.Y

end
