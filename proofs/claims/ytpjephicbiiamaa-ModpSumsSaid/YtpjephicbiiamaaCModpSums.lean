/- modp.Add, Sub, Mul and Pow answer modulo any number what the document's answer does, and 0 modulo what is no modulus: for all four numbers. -/
import Derived.Laws.BitsLemmas
import Derived.Test.YtpjephicbiiamaaRows
import Derived.WalkKit
import Derived.ProofKit
import Derived.OpenShut
import Derived.ShutString
import Derived.ChangeOld
import Derived.Below
import Derived.SizedLaws
import Derived.Test.YtpjephicbiiamaaCModpSums2
set_option linter.unusedVariables false
set_option linter.unusedSimpArgs false
set_option linter.unusedSectionVars false
section
namespace Go.Proofs.Ytpjephicbiiamaa.A
set_option linter.unusedVariables false
set_option linter.unusedSimpArgs false
open Go Go.RowKit Go.Proofs.YtpjephicbiiamaaW.PrintWords Go.Proofs.YtpjephicbiiamaaW.PrintLast Go.Proofs.YtpjephicbiiamaaW.PrintMore
section
variable {α β : Type} {f g : Nat → Option α} {r : α}
theorem ev_pos {c : Prop} [Decidable c] (h : c) (k : Ev f r) : Ev (fun n => if c then f n else g n) r := by
  simpa only [if_pos h] using k
theorem ev_neg {c : Prop} [Decidable c] (h : ¬ c) (k : Ev g r) : Ev (fun n => if c then f n else g n) r := by
  simpa only [if_neg h] using k
theorem ev_ite {c : Prop} [Decidable c] (hp : c → Ev f r) (hn : ¬ c → Ev g r) : Ev (fun n => if c then f n else g n) r := by
  by_cases h : c
  · exact ev_pos h (hp h)
  · exact ev_neg h (hn h)
theorem ev_now {a : α} (h : a = r) : Ev (fun _ => some a) r := ⟨0, fun _ _ => by rw [h]⟩
theorem ev_bind {a : β} {g : Nat → Option β} {f : Nat → β → Option α} (h : Ev g a) (k : Ev (fun n => f n a) r) : Ev (fun n => (g n).bind (f n)) r := h.bind k
theorem ev_eq {a : β} {x : Option β} {f : Nat → β → Option α} (h : x = some a) (k : Ev (fun n => f n a) r) : Ev (fun n => x.bind (f n)) r := by
  subst h; exact k
end
theorem wu64 {x : Int} (h0 : 0 ≤ x) (h1 : x ≤ 18446744073709551615) : IntKind.u64.wrap x = x := by
  have e : IntKind.u64.wrap x = x % 18446744073709551616 := by simp [IntKind.wrap, IntKind.bits, IntKind.signed]
  rw [e]; omega
theorem bit1 {x : Int} (h0 : 0 ≤ x) (h1 : x ≤ 18446744073709551615) : Go.bits .and .u64 x 1 = x % 2 := by
  have := bits_mask .u64 64 (by decide) (fun n a b => wu64 a (by omega)) 1 (by decide) x h0 (by omega)
  simpa using this
theorem wf_u64 {x : Int} (h : (Lit.int .u64 x).wf = true) : 0 ≤ x ∧ x ≤ 18446744073709551615 := by
  simp [Lit.wf, IntKind.min, IntKind.max, IntKind.signed, IntKind.bits] at h; omega
theorem rd_nat (xs : List Int) (i : Nat) : rd xs (i : Int) = xs.getD i 0 := by simp [rd]
def Dig (b : Int) (xs : List Int) : Prop := ∀ x ∈ xs, 0 ≤ x ∧ x < b
theorem Dig.nil {b : Int} : Dig b [] := fun _ h => by cases h
theorem Dig.cons {b x : Int} {xs : List Int} (h0 : 0 ≤ x) (h1 : x < b) (h : Dig b xs) : Dig b (x :: xs) := by
  intro y hy
  rcases List.mem_cons.1 hy with rfl | hy
  · exact ⟨h0, h1⟩
  · exact h y hy
theorem Dig.rd {b : Int} {xs : List Int} (h : Dig b xs) {i : Int} (h0 : 0 ≤ i) (h1 : i < xs.length) : 0 ≤ rd xs i ∧ rd xs i < b := by
  obtain ⟨j, rfl⟩ := Int.eq_ofNat_of_zero_le h0
  have hj : j < xs.length := by omega
  rw [rd_nat, List.getD, List.getElem?_eq_getElem hj]
  exact h _ (List.getElem_mem hj)
theorem Dig.take {b : Int} {xs : List Int} (h : Dig b xs) (i : Nat) : Dig b (xs.take i) := fun y hy => h y (List.mem_of_mem_take hy)
theorem Dig.mono {b c : Int} {xs : List Int} (h : Dig b xs) (hc : b ≤ c) : Dig c xs := fun x hx => ⟨(h x hx).1, by have := (h x hx).2; omega⟩
theorem dg_ind {b : Int} (hb : 2 ≤ b) {P : Int → Prop} (h0 : P 0) (h1 : ∀ n, 0 < n → P (n / b) → P n) : ∀ n : Int, 0 ≤ n → P n := by
  have H : ∀ m : Nat, ∀ n : Int, 0 ≤ n → n.toNat = m → P n := by
    intro m
    induction m using Nat.strongRecOn with
    | ind m ih =>
      intro n hn hm
      by_cases hz : n = 0
      · rw [hz]; exact h0
      · have hl : n / b < n := Int.ediv_lt_of_lt_mul (by omega) (by
          have : n * 2 ≤ n * b := Int.mul_le_mul_of_nonneg_left hb hn
          omega)
        have hg : 0 ≤ n / b := Int.ediv_nonneg hn (by omega)
        exact h1 n (by omega) (ih _ (by omega) _ hg rfl)
  exact fun n hn => H _ n hn rfl
end Go.Proofs.Ytpjephicbiiamaa.A

end
section
namespace Go.Proofs.Ytpjephicbiiamaa.B
set_option linter.unusedVariables false
set_option linter.unusedSimpArgs false
open Go Go.RowKit Go.Proofs.YtpjephicbiiamaaW.PrintWords Go.Proofs.YtpjephicbiiamaaW.PrintLast Go.Proofs.YtpjephicbiiamaaW.PrintMore Go.Proofs.Ytpjephicbiiamaa.F Go.Proofs.Ytpjephicbiiamaa.A
abbrev B : Int := 4294967296
theorem ev_succ {α : Type} {g : Nat → Option α} {r : α} (h : Ev (fun k => g (k + 1)) r) : Ev g r := by
  obtain ⟨K, hK⟩ := h
  refine ⟨K + 1, fun k hk => ?_⟩
  obtain ⟨m, rfl⟩ : ∃ m, k = m + 1 := ⟨k - 1, by omega⟩
  exact hK m (by omega)
end Go.Proofs.Ytpjephicbiiamaa.B

end
section
namespace Go.Proofs.Ytpjephicbiiamaa.B
set_option linter.unusedVariables false
set_option linter.unusedSimpArgs false
open Go Go.RowKit Go.Proofs.YtpjephicbiiamaaW.PrintWords Go.Proofs.YtpjephicbiiamaaW.PrintLast Go.Proofs.YtpjephicbiiamaaW.PrintMore Go.Proofs.Ytpjephicbiiamaa.F Go.Proofs.Ytpjephicbiiamaa.A
theorem hB : (2 : Int) ≤ B := by decide
theorem ediv_tdiv {a b : Int} (h : 0 ≤ a) : Int.tdiv a b = a / b := Int.tdiv_eq_ediv_of_nonneg h
theorem emod_tmod {a b : Int} (h : 0 ≤ a) : Int.tmod a b = a % b := Int.tmod_eq_emod_of_nonneg h
end Go.Proofs.Ytpjephicbiiamaa.B

end
section
namespace Go.Proofs.Ytpjephicbiiamaa.M
set_option linter.unusedVariables false
set_option linter.unusedSimpArgs false
open Go Go.RowKit Go.Proofs.YtpjephicbiiamaaW.PrintWords Go.Proofs.YtpjephicbiiamaaW.PrintLast Go.Proofs.YtpjephicbiiamaaW.PrintMore Go.Proofs.Ytpjephicbiiamaa.F Go.Proofs.Ytpjephicbiiamaa.A Go.Proofs.Ytpjephicbiiamaa.B
def Right (p : Int) : Prop := 2 ≤ p ∧ p < 4294967296
def U (x : Int) : Prop := 0 ≤ x ∧ x ≤ 18446744073709551615
theorem right_yes {p : Int} (h : Right p) : modp_right.f p = some true := by
  unfold modp_right.f; rw [if_pos h.1, decide_eq_true h.2]
theorem right_no {p : Int} (h : ¬ Right p) : modp_right.f p = some false := by
  unfold modp_right.f
  by_cases h2 : p ≥ 2
  · rw [if_pos h2, decide_eq_false (fun h3 => h ⟨h2, h3⟩)]
  · rw [if_neg h2]
theorem rright_yes {p : Int} (h : Right p) : triviumref40_Right.f p = some true := by
  unfold triviumref40_Right.f; rw [if_pos h.1, decide_eq_true h.2]
theorem rright_no {p : Int} (h : ¬ Right p) : triviumref40_Right.f p = some false := by
  unfold triviumref40_Right.f
  by_cases h2 : p ≥ 2
  · rw [if_pos h2, decide_eq_false (fun h3 => h ⟨h2, h3⟩)]
  · rw [if_neg h2]
theorem md {a p : Int} (h : 0 < p) : 0 ≤ a % p ∧ a % p < p := ⟨Int.emod_nonneg _ (by omega), Int.emod_lt_of_pos _ h⟩
theorem mul_small {a b p : Int} (ha0 : 0 ≤ a) (ha : a < p) (hb0 : 0 ≤ b) (hb : b < p) (hp : p < 4294967296) : 0 ≤ a * b ∧ a * b ≤ 18446744073709551615 := by
  refine ⟨Int.mul_nonneg ha0 hb0, ?_⟩
  have : a * b ≤ 4294967295 * 4294967295 := Int.mul_le_mul (by omega) (by omega) hb0 (by omega)
  omega
theorem add_eq {a b p : Int} (ha : U a) (hb : U b) (hp : Right p) : modp_Add.f a b p = some ((a % p + b % p) % p) := by
  have h1 := md (a := a) (p := p) (by have := hp.1; omega)
  have h2 := md (a := b) (p := p) (by have := hp.1; omega)
  have h3 := hp.1
  have h4 := hp.2
  unfold modp_Add.f
  rw [right_yes hp, Option.bind_some, if_pos rfl, if_neg (by omega), emod_tmod ha.1, emod_tmod hb.1, wu64 (by omega) (by omega), emod_tmod (by omega)]
theorem add_no {a b p : Int} (hp : ¬ Right p) : modp_Add.f a b p = some 0 := by
  unfold modp_Add.f; rw [right_no hp, Option.bind_some, if_neg (by decide)]
theorem sub_eq {a b p : Int} (ha : U a) (hb : U b) (hp : Right p) : modp_Sub.f a b p = some ((a % p + p - b % p) % p) := by
  have h1 := md (a := a) (p := p) (by have := hp.1; omega)
  have h2 := md (a := b) (p := p) (by have := hp.1; omega)
  have h3 := hp.1
  have h4 := hp.2
  unfold modp_Sub.f
  rw [right_yes hp, Option.bind_some, if_pos rfl, if_neg (by omega), emod_tmod ha.1, emod_tmod hb.1, wu64 (x := a % p + p) (by omega) (by omega), wu64 (by omega) (by omega), emod_tmod (by omega)]
theorem sub_no {a b p : Int} (hp : ¬ Right p) : modp_Sub.f a b p = some 0 := by
  unfold modp_Sub.f; rw [right_no hp, Option.bind_some, if_neg (by decide)]
theorem mul_eq {a b p : Int} (ha : U a) (hb : U b) (hp : Right p) : modp_Mul.f a b p = some (a % p * (b % p) % p) := by
  have h3 := hp.1
  have h4 := hp.2
  have h1 := md (a := a) (p := p) (by omega)
  have h2 := md (a := b) (p := p) (by omega)
  have hm := mul_small h1.1 h1.2 h2.1 h2.2 h4
  unfold modp_Mul.f
  rw [right_yes hp, Option.bind_some, if_pos rfl, if_neg (by omega), emod_tmod ha.1, emod_tmod hb.1, wu64 hm.1 hm.2, emod_tmod hm.1]
theorem mul_no {a b p : Int} (hp : ¬ Right p) : modp_Mul.f a b p = some 0 := by
  unfold modp_Mul.f; rw [right_no hp, Option.bind_some, if_neg (by decide)]
theorem pow_md (a p : Int) : ∀ n : Nat, (a % p) ^ n % p = a ^ n % p
  | 0 => by simp
  | n + 1 => by rw [Int.pow_succ, Int.pow_succ, Int.mul_emod, pow_md a p n, Int.emod_emod, ← Int.mul_emod]
theorem pow_half {a n : Int} (h : 0 ≤ n) : a ^ n.toNat = (a * a) ^ (n / 2).toNat * a ^ (n % 2).toNat := by
  have e : n.toNat = 2 * (n / 2).toNat + (n % 2).toNat := by omega
  conv => lhs; rw [e, Int.pow_add, Int.pow_mul]
  rw [Int.pow_succ a 1, Int.pow_one]
theorem pow_l0 {p : Int} (hp : Right p) : ∀ n : Int, 0 ≤ n → ∀ a x : Int, n ≤ 18446744073709551615 → 0 ≤ a → a < p → 0 ≤ x → x < p → Ev (fun k => modp_Pow.l0 k a n p x) (x * a ^ n.toNat % p) := by
  have h3 := hp.1
  have h4 := hp.2
  refine dg_ind (b := 2) (by decide) ?_ ?_
  · intro a x hn ha0 ha hx0 hx
    refine ev_succ ?_
    simp only [modp_Pow.l0]
    refine ev_neg (by omega) (ev_now ?_)
    simp [Int.emod_eq_of_lt hx0 hx]
  · intro n hn ih a x hn2 ha0 ha hx0 hx
    have hm := mul_small ha0 ha ha0 ha h4
    have hxa := mul_small hx0 hx ha0 ha h4
    have hq := md (a := a * a) (p := p) (by omega)
    have hxq := md (a := x * a) (p := p) (by omega)
    refine ev_succ ?_
    simp only [modp_Pow.l0]
    rw [bit1 (by omega) hn2, wu64 hm.1 hm.2, wu64 hxa.1 hxa.2, emod_tmod hm.1, emod_tmod hxa.1]
    refine ev_pos (by omega) (ev_ite (fun h1 => ev_neg (by omega) ?_) (fun h1 => ev_neg (by omega) ?_))
    · have := ih (a * a % p) (x * a % p) (by omega) hq.1 hq.2 hxq.1 hxq.2
      have e : x * a % p * (a * a % p) ^ (n / 2).toNat % p = x * a ^ n.toNat % p := by
        rw [Int.mul_emod, Int.emod_emod, pow_md, ← Int.mul_emod, pow_half (a := a) (n := n) (by omega), h1]
        congr 1
        simp only [Int.toNat_one, Int.pow_one]
        rw [Int.mul_assoc, Int.mul_comm a]
      rwa [e] at this
    · have := ih (a * a % p) x (by omega) hq.1 hq.2 hx0 hx
      have e : x * (a * a % p) ^ (n / 2).toNat % p = x * a ^ n.toNat % p := by
        rw [Int.mul_emod, pow_md, ← Int.mul_emod, pow_half (a := a) (n := n) (by omega), show n % 2 = 0 by omega]
        simp
      rwa [e] at this
theorem pow_ev {a n p : Int} (ha : U a) (hn : U n) (hp : Right p) : Ev (fun k => modp_Pow.f k a n p) (a ^ n.toNat % p) := by
  have h3 := hp.1
  have h := md (a := a) (p := p) (by omega)
  unfold modp_Pow.f
  refine ev_eq (right_yes hp) (ev_pos rfl (ev_neg (by omega) ?_))
  rw [emod_tmod ha.1]
  have := pow_l0 hp n hn.1 (a % p) 1 hn.2 h.1 h.2 (by omega) (by omega)
  rwa [Int.one_mul, pow_md] at this
theorem pow_no {a n p : Int} (hp : ¬ Right p) : Ev (fun k => modp_Pow.f k a n p) 0 := by
  unfold modp_Pow.f
  exact ev_eq (right_no hp) (ev_neg (by decide) (ev_now rfl))
theorem rpow_ev {a p : Int} (ha : U a) (hp : Right p) : ∀ n : Int, 0 ≤ n → n ≤ 18446744073709551615 → Ev (fun k => triviumref40_Pow.f k a n p) (a ^ n.toNat % p) := by
  have h3 := hp.1
  have h4 := hp.2
  refine dg_ind (b := 2) (by decide) ?_ ?_
  · intro _
    refine ev_succ ?_
    simp only [triviumref40_Pow.f]
    refine ev_eq (rright_yes hp) (ev_pos rfl (ev_pos (by trivial) (ev_neg (by omega) (ev_now ?_))))
    simp
  · intro n hn ih hn2
    refine ev_succ ?_
    simp only [triviumref40_Pow.f]
    rw [ediv_tdiv (by omega), emod_tmod (by omega), emod_tmod ha.1, wu64 (by omega) (by omega)]
    refine ev_eq (rright_yes hp) (ev_pos rfl (ev_neg (by omega) (ev_bind (ih (by omega)) (ev_neg (by omega) ?_))))
    have ht := md (a := a ^ (n / 2).toNat) (p := p) (by omega)
    have hm := mul_small ht.1 ht.2 ht.1 ht.2 h4
    have hq := md (a := a ^ (n / 2).toNat % p * (a ^ (n / 2).toNat % p)) (p := p) (by omega)
    have hA := md (a := a) (p := p) (by omega)
    have hm2 := mul_small hq.1 hq.2 hA.1 hA.2 h4
    rw [wu64 hm.1 hm.2, emod_tmod hm.1]
    have e0 : (a * a) ^ (n / 2).toNat = a ^ (n / 2).toNat * a ^ (n / 2).toNat := by rw [Int.mul_pow]
    refine ev_ite (fun h1 => ev_now ?_) (fun h1 => ev_now ?_)
    · rw [wu64 hm2.1 hm2.2, emod_tmod hm2.1, pow_half (a := a) (n := n) (by omega), h1, e0, ← Int.mul_emod]
      simp only [Int.toNat_one, Int.pow_one]
      rw [Int.mul_emod (a ^ (n / 2).toNat % p * (a ^ (n / 2).toNat % p)) a, ← Int.mul_emod (a ^ (n / 2).toNat), ← Int.mul_emod]
    · rw [pow_half (a := a) (n := n) (by omega), show n % 2 = 0 by omega, e0, ← Int.mul_emod]
      simp
end Go.Proofs.Ytpjephicbiiamaa.M

end
section
namespace Go.Proofs.Ytpjephicbiiamaa.Pure
set_option linter.unusedVariables false
set_option linter.unusedSimpArgs false
open Go Go.RowKit Go.Proofs.YtpjephicbiiamaaW.PrintWords Go.Proofs.YtpjephicbiiamaaW.PrintLast Go.Proofs.YtpjephicbiiamaaW.PrintMore Go.Proofs.Ytpjephicbiiamaa.F Go.Proofs.Ytpjephicbiiamaa.A Go.Proofs.Ytpjephicbiiamaa.B Go.Proofs.Ytpjephicbiiamaa.M
set_option maxRecDepth 100000 in
theorem works40_ev : Ev (fun k => triviumlaw40_works.f k) true := Ev.of (fun k => triviumlaw40_works.mono k) (k := 150) (by decide +kernel)
theorem ModpSums : triviumlaw40_ModpSums.Pure := by
  intro a b n p ha hb hn hp
  replace ha : U a := wf_u64 ha
  replace hb : U b := wf_u64 hb
  replace hn : U n := wf_u64 hn
  refine Ev.rounds ?_
  unfold triviumlaw40_ModpSums.f
  by_cases h : Right p
  · have h3 := h.1
    have h4 := h.2
    have h1 := md (a := a) (p := p) (by omega)
    have h2 := md (a := b) (p := p) (by omega)
    have hm := mul_small h1.1 h1.2 h2.1 h2.2 h4
    rw [emod_tmod ha.1, emod_tmod hb.1, wu64 (x := a % p + b % p) (by omega) (by omega), wu64 (x := a % p + p) (by omega) (by omega), wu64 (x := a % p + p - b % p) (by omega) (by omega), wu64 hm.1 hm.2, emod_tmod (by omega), emod_tmod (by omega), emod_tmod hm.1]
    refine ev_eq (rright_yes h) (ev_pos rfl (ev_neg (by omega) (ev_eq (add_eq ha hb h) (ev_pos rfl (ev_eq (sub_eq ha hb h) (ev_pos rfl (ev_eq (mul_eq ha hb h) (ev_pos rfl ?_))))))))
    exact ev_bind (pow_ev ha hn h) (ev_bind (rpow_ev ha h n hn.1 hn.2) (ev_pos rfl (ev_bind works40_ev (ev_now rfl))))
  · refine ev_eq (rright_no h) (ev_neg (by decide) (ev_eq (add_no h) (ev_eq (sub_no h) (ev_eq (mul_no h) (ev_bind (pow_no h) ?_)))))
    refine ev_pos ?_ (ev_bind works40_ev (ev_now rfl))
    rw [wu64 (by decide) (by decide), wu64 (by decide) (by decide), wu64 (by decide) (by decide)]
    rfl
end Go.Proofs.Ytpjephicbiiamaa.Pure

end
section
namespace Go.Proofs.Ytpjephicbiiamaa.modpSums
open Go.Proofs.YtpjephicbiiamaaW
open Go.ChangeShapes Go.WideShapes Go.ChangeAt Go.RowKit
open Go.ChangeMaps (open_string shut_string)
set_option linter.unusedVariables false
theorem own : ownKnob Try.prog.godebug = none := by kernel_rfl
set_option maxRecDepth 100000 in
theorem lifted (os : Os) (started : os.Started) (H : Type) (enc : TypeId × Value → H) :
    ReturnsInHanded {} Try.checked os 12 .any (Rows.modpSumsSpec.pre6 enc Try.prog Try.f12 Rows.modpSumsRow.domain false) (Rows.modpSumsSpec.post enc Try.prog Try.f12 false true false false) := by
  refine returnsInHanded_of_change_sized (C := Try.checked) own started (by kernel_rfl) Try.func12
    (ChangeSpec.witness6 (enc := enc) (C := Try.checked) false ⟨#[], #[.int .u64 0, .int .u64 0, .int .u64 0, .int .u64 0], []⟩ 8 (by kernel_rfl) (by kernel_rfl) (by kernel_rfl) (by kernel_rfl)) ?_
  intro W base args ds gs before hval0 hW hcnd hsz0 _
  have hsz : (DataW.weightsEach Try.prog (Try.f12.params.toList ++ Rows.modpSumsSpec.plain.varTypes Try.prog) (ds ++ gs)).all (· ≤ reachBytes) = true := hsz0
  have hval : ∀ (j : Nat) t v, Try.f12.params[j]? = some t → args[j]? = some v → Value.okWide Try.prog W .any base t v := hval0
  have hW' := hW
  obtain ⟨p, q, hA0, hV, rfl, hfz, hnd⟩ := hW
  have hA : DataW.TrodAll enc Try.prog W 0 (fun _ => true) true Try.f12.params.toList args.toList ds p := hA0
  rw [Try.params12] at hA hval hsz
  obtain ⟨v0, vs0, d0, ds0, p0, q0, hargs, rfl, rfl, h0, r0⟩ := trodAll_cons hA
  obtain ⟨v1, vs1, d1, ds1, p1, q1, rfl, rfl, rfl, h1, r1⟩ := trodAll_cons r0
  obtain ⟨v2, vs2, d2, ds2, p2, q2, rfl, rfl, rfl, h2, r2⟩ := trodAll_cons r1
  obtain ⟨v3, vs3, d3, ds3, p3, q3, rfl, rfl, rfl, h3, r3⟩ := trodAll_cons r2
  obtain ⟨rfl, rfl, rfl⟩ := trodAll_nil r3
  obtain rfl : args = #[v0, v1, v2, v3] := by cases args; simp_all
  obtain ⟨rfl, rfl⟩ := trodVars_none hV
  obtain ⟨a0, rfl, rfl, rfl, w0⟩ := open_int Try.underlying54 (hval 0 54 v0 rfl rfl) h0
  obtain ⟨a1, rfl, rfl, rfl, w1⟩ := open_int Try.underlying54 (hval 1 54 v1 rfl rfl) h1
  obtain ⟨a2, rfl, rfl, rfl, w2⟩ := open_int Try.underlying54 (hval 2 54 v2 rfl rfl) h2
  obtain ⟨a3, rfl, rfl, rfl, w3⟩ := open_int Try.underlying54 (hval 3 54 v3 rfl rfl) h3
  clear hA0 hval0 hsz0 hsz
  refine (F.triviumlaw40_ModpSums.walk Pure.ModpSums a0 a1 a2 a3 W w0 w1 w2 w3).mono fun e W' ⟨he, bel⟩ => ?_
  subst he
  exact ⟨_, rfl, _, _, _, [], _, [], hW', trodAll_mk1 (shut_bool Try.underlying4 _), (trodAll_cons_mk (shut_int Try.underlying54 w0) (trodAll_cons_mk (shut_int Try.underlying54 w1) (trodAll_cons_mk (shut_int Try.underlying54 w2) (trodAll_cons_mk (shut_int Try.underlying54 w3) trodAll_mk0)))), rfl, bel.frame _, fun h => by cases h⟩
theorem over : Rows.modpSumsRow.holds Try.pinned (OpenSpec.ofChange Rows.modpSumsSpec) :=
  OpenClaim.holds_of_wide 12 Try.f12 rfl rfl rfl rfl rfl rfl rfl ⟨rfl, rfl, rfl, rfl, rfl⟩ rfl rfl rfl rfl rfl (by kernel_rfl) Try.func12 (by kernel_rfl)
    (of_decide_eq_true (by kernel_rfl)) (by unfold Func.isWrapper; first | (rw [if_pos (by decide +kernel)]; kernel_rfl) | (rw [if_neg (by decide +kernel)]; exact ⟨rfl, rfl⟩))
    (fun os started H enc _ => lifted os started H enc)
theorem proved : Rows.ModpSumsSaid := over
#print axioms proved
end Go.Proofs.Ytpjephicbiiamaa.modpSums
namespace Go.Proofs.Ytpjephicbiiamaa
theorem modpSums_holds : Rows.ModpSumsSaid := modpSums.proved
end Go.Proofs.Ytpjephicbiiamaa

end
