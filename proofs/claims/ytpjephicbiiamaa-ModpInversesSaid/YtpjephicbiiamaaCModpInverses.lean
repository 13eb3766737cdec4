/- modp.Inv answers what the document's answer does, or refuses as it does, and what it answers is an inverse: for all two numbers. -/
import Derived.Laws.BitsLemmas
import Derived.Test.YtpjephicbiiamaaRows
import Derived.WalkKit
import Derived.ProofKit
import Derived.OpenShut
import Derived.ShutString
import Derived.ChangeOld
import Derived.Below
import Derived.SizedLaws
import Derived.Test.YtpjephicbiiamaaCModpInverses1
set_option linter.unusedVariables false
set_option linter.unusedSimpArgs false
set_option linter.unusedSectionVars false
section
namespace Go.Proofs.Ytpjephicbiiamaa.A
set_option linter.unusedVariables false
set_option linter.unusedSimpArgs false
open Go Go.RowKit Go.Proofs.YtpjephicbiiamaaW.PrintWords Go.Proofs.YtpjephicbiiamaaW.PrintLast Go.Proofs.YtpjephicbiiamaaW.PrintMore
section
variable {α β : Type} {f g : Nat → Option α} {r : α}
theorem ev_pos {c : Prop} [Decidable c] (h : c) (k : Ev f r) : Ev (fun n => if c then f n else g n) r := by
  simpa only [if_pos h] using k
theorem ev_neg {c : Prop} [Decidable c] (h : ¬ c) (k : Ev g r) : Ev (fun n => if c then f n else g n) r := by
  simpa only [if_neg h] using k
theorem ev_now {a : α} (h : a = r) : Ev (fun _ => some a) r := ⟨0, fun _ _ => by rw [h]⟩
theorem ev_bind {a : β} {g : Nat → Option β} {f : Nat → β → Option α} (h : Ev g a) (k : Ev (fun n => f n a) r) : Ev (fun n => (g n).bind (f n)) r := h.bind k
theorem ev_eq {a : β} {x : Option β} {f : Nat → β → Option α} (h : x = some a) (k : Ev (fun n => f n a) r) : Ev (fun n => x.bind (f n)) r := by
  subst h; exact k
end
theorem wu64 {x : Int} (h0 : 0 ≤ x) (h1 : x ≤ 18446744073709551615) : IntKind.u64.wrap x = x := by
  have e : IntKind.u64.wrap x = x % 18446744073709551616 := by simp [IntKind.wrap, IntKind.bits, IntKind.signed]
  rw [e]; omega
theorem wf_u64 {x : Int} (h : (Lit.int .u64 x).wf = true) : 0 ≤ x ∧ x ≤ 18446744073709551615 := by
  simp [Lit.wf, IntKind.min, IntKind.max, IntKind.signed, IntKind.bits] at h; omega
theorem rd_nat (xs : List Int) (i : Nat) : rd xs (i : Int) = xs.getD i 0 := by simp [rd]
def Dig (b : Int) (xs : List Int) : Prop := ∀ x ∈ xs, 0 ≤ x ∧ x < b
theorem Dig.nil {b : Int} : Dig b [] := fun _ h => by cases h
theorem Dig.rd {b : Int} {xs : List Int} (h : Dig b xs) {i : Int} (h0 : 0 ≤ i) (h1 : i < xs.length) : 0 ≤ rd xs i ∧ rd xs i < b := by
  obtain ⟨j, rfl⟩ := Int.eq_ofNat_of_zero_le h0
  have hj : j < xs.length := by omega
  rw [rd_nat, List.getD, List.getElem?_eq_getElem hj]
  exact h _ (List.getElem_mem hj)
theorem Dig.take {b : Int} {xs : List Int} (h : Dig b xs) (i : Nat) : Dig b (xs.take i) := fun y hy => h y (List.mem_of_mem_take hy)
theorem Dig.mono {b c : Int} {xs : List Int} (h : Dig b xs) (hc : b ≤ c) : Dig c xs := fun x hx => ⟨(h x hx).1, by have := (h x hx).2; omega⟩
end Go.Proofs.Ytpjephicbiiamaa.A

end
section
namespace Go.Proofs.Ytpjephicbiiamaa.B
set_option linter.unusedVariables false
set_option linter.unusedSimpArgs false
open Go Go.RowKit Go.Proofs.YtpjephicbiiamaaW.PrintWords Go.Proofs.YtpjephicbiiamaaW.PrintLast Go.Proofs.YtpjephicbiiamaaW.PrintMore Go.Proofs.Ytpjephicbiiamaa.F Go.Proofs.Ytpjephicbiiamaa.A
abbrev B : Int := 4294967296
theorem ev_succ {α : Type} {g : Nat → Option α} {r : α} (h : Ev (fun k => g (k + 1)) r) : Ev g r := by
  obtain ⟨K, hK⟩ := h
  refine ⟨K + 1, fun k hk => ?_⟩
  obtain ⟨m, rfl⟩ : ∃ m, k = m + 1 := ⟨k - 1, by omega⟩
  exact hK m (by omega)
end Go.Proofs.Ytpjephicbiiamaa.B

end
section
namespace Go.Proofs.Ytpjephicbiiamaa.B
set_option linter.unusedVariables false
set_option linter.unusedSimpArgs false
open Go Go.RowKit Go.Proofs.YtpjephicbiiamaaW.PrintWords Go.Proofs.YtpjephicbiiamaaW.PrintLast Go.Proofs.YtpjephicbiiamaaW.PrintMore Go.Proofs.Ytpjephicbiiamaa.F Go.Proofs.Ytpjephicbiiamaa.A
theorem hB : (2 : Int) ≤ B := by decide
theorem ediv_tdiv {a b : Int} (h : 0 ≤ a) : Int.tdiv a b = a / b := Int.tdiv_eq_ediv_of_nonneg h
theorem emod_tmod {a b : Int} (h : 0 ≤ a) : Int.tmod a b = a % b := Int.tmod_eq_emod_of_nonneg h
end Go.Proofs.Ytpjephicbiiamaa.B

end
section
namespace Go.Proofs.Ytpjephicbiiamaa.M
set_option linter.unusedVariables false
set_option linter.unusedSimpArgs false
open Go Go.RowKit Go.Proofs.YtpjephicbiiamaaW.PrintWords Go.Proofs.YtpjephicbiiamaaW.PrintLast Go.Proofs.YtpjephicbiiamaaW.PrintMore Go.Proofs.Ytpjephicbiiamaa.F Go.Proofs.Ytpjephicbiiamaa.A Go.Proofs.Ytpjephicbiiamaa.B
def Right (p : Int) : Prop := 2 ≤ p ∧ p < 4294967296
def U (x : Int) : Prop := 0 ≤ x ∧ x ≤ 18446744073709551615
theorem right_yes {p : Int} (h : Right p) : modp_right.f p = some true := by
  unfold modp_right.f; rw [if_pos h.1, decide_eq_true h.2]
theorem right_no {p : Int} (h : ¬ Right p) : modp_right.f p = some false := by
  unfold modp_right.f
  by_cases h2 : p ≥ 2
  · rw [if_pos h2, decide_eq_false (fun h3 => h ⟨h2, h3⟩)]
  · rw [if_neg h2]
theorem rright_yes {p : Int} (h : Right p) : triviumref40_Right.f p = some true := by
  unfold triviumref40_Right.f; rw [if_pos h.1, decide_eq_true h.2]
theorem rright_no {p : Int} (h : ¬ Right p) : triviumref40_Right.f p = some false := by
  unfold triviumref40_Right.f
  by_cases h2 : p ≥ 2
  · rw [if_pos h2, decide_eq_false (fun h3 => h ⟨h2, h3⟩)]
  · rw [if_neg h2]
theorem md {a p : Int} (h : 0 < p) : 0 ≤ a % p ∧ a % p < p := ⟨Int.emod_nonneg _ (by omega), Int.emod_lt_of_pos _ h⟩
theorem mul_small {a b p : Int} (ha0 : 0 ≤ a) (ha : a < p) (hb0 : 0 ≤ b) (hb : b < p) (hp : p < 4294967296) : 0 ≤ a * b ∧ a * b ≤ 18446744073709551615 := by
  refine ⟨Int.mul_nonneg ha0 hb0, ?_⟩
  have : a * b ≤ 4294967295 * 4294967295 := Int.mul_le_mul (by omega) (by omega) hb0 (by omega)
  omega
theorem sub_eq {a b p : Int} (ha : U a) (hb : U b) (hp : Right p) : modp_Sub.f a b p = some ((a % p + p - b % p) % p) := by
  have h1 := md (a := a) (p := p) (by have := hp.1; omega)
  have h2 := md (a := b) (p := p) (by have := hp.1; omega)
  have h3 := hp.1
  have h4 := hp.2
  unfold modp_Sub.f
  rw [right_yes hp, Option.bind_some, if_pos rfl, if_neg (by omega), emod_tmod ha.1, emod_tmod hb.1, wu64 (x := a % p + p) (by omega) (by omega), wu64 (by omega) (by omega), emod_tmod (by omega)]
theorem mul_eq {a b p : Int} (ha : U a) (hb : U b) (hp : Right p) : modp_Mul.f a b p = some (a % p * (b % p) % p) := by
  have h3 := hp.1
  have h4 := hp.2
  have h1 := md (a := a) (p := p) (by omega)
  have h2 := md (a := b) (p := p) (by omega)
  have hm := mul_small h1.1 h1.2 h2.1 h2.2 h4
  unfold modp_Mul.f
  rw [right_yes hp, Option.bind_some, if_pos rfl, if_neg (by omega), emod_tmod ha.1, emod_tmod hb.1, wu64 hm.1 hm.2, emod_tmod hm.1]
theorem gcd_step (r s : Int) (hs : 0 < s) (hr : 0 ≤ r) : Int.gcd s (r % s) = Int.gcd r s := by
  obtain ⟨m, rfl⟩ := Int.eq_ofNat_of_zero_le hr
  obtain ⟨n, rfl⟩ := Int.eq_ofNat_of_zero_le (Int.le_of_lt hs)
  rw [← Int.natCast_emod]
  simp only [Int.gcd_natCast_natCast]
  rw [Nat.gcd_comm m n, Nat.gcd_rec n m, Nat.gcd_comm]
def InvSays (a p g : Int) (res : Int × Int) : Prop := (res.2 = 0 ∧ g = 1 ∧ 0 ≤ res.1 ∧ res.1 < p ∧ a * res.1 % p = 1 % p) ∨ (res = (0, 3) ∧ g ≠ 1)
theorem inv_l0 {a p : Int} (hp : Right p) : ∀ (t : Nat) (r s x y : Int), s.toNat = t → 0 ≤ r → r ≤ p → 0 ≤ s → s ≤ p → 0 ≤ x → x < p → 0 ≤ y → y < p → a * x % p = r % p → a * y % p = s % p →
    ∃ res, Ev (fun k => modp_Inv.l0 k p r s x y) res ∧ Ev (fun k => triviumref40_Inv.l0 k p r s x y) res ∧ InvSays a p (Int.gcd r s) res := by
  have h3 := hp.1
  have h4 := hp.2
  intro t
  induction t using Nat.strongRecOn with
  | ind t ih =>
    intro r s x y ht hr0 hr hs0 hs hx0 hx hy0 hy hax hay
    by_cases hz : s = 0
    · subst hz
      by_cases h1 : r = 1
      · subst h1
        refine ⟨(x, 0), ?_, ?_, .inl ⟨rfl, by decide, hx0, hx, hax⟩⟩
        · refine ev_succ ?_
          simp only [modp_Inv.l0]
          exact ev_pos (by trivial) (ev_pos (by trivial) (ev_now rfl))
        · refine ev_succ ?_
          simp only [triviumref40_Inv.l0]
          refine ev_neg (by omega) (ev_pos (by trivial) (ev_neg (by omega) (ev_now ?_)))
          rw [emod_tmod hx0, Int.emod_eq_of_lt hx0 hx]
      · refine ⟨(0, 3), ?_, ?_, .inr ⟨rfl, ?_⟩⟩
        · refine ev_succ ?_
          simp only [modp_Inv.l0]
          exact ev_pos (by trivial) (ev_neg h1 (ev_now rfl))
        · refine ev_succ ?_
          simp only [triviumref40_Inv.l0]
          exact ev_neg (by omega) (ev_neg h1 (ev_now rfl))
        · rw [Int.gcd_zero_right]; omega
    · have hsp : 0 < s := by omega
      have hq0 : 0 ≤ r / s := Int.ediv_nonneg hr0 (by omega)
      have hq1 : r / s ≤ r := Int.ediv_le_self _ hr0
      have hm := md (a := r) (p := s) hsp
      have hqp := md (a := r / s) (p := p) (by omega)
      have hmul := mul_small hqp.1 hqp.2 hy0 hy h4
      have hc := md (a := r / s % p * y) (p := p) (by omega)
      have hrs := Int.mul_ediv_add_emod r s
      have hy' : ∀ z : Int, 0 ≤ (x + p - z) % p ∧ (x + p - z) % p < p := fun z => md (by omega)
      have key : a * ((x + p - r / s % p * y % p) % p) % p = r % s % p := by
        have e1 : (x + p - r / s % p * y % p) % p = (x - r / s * y) % p := by
          rw [Int.sub_emod, Int.emod_emod, Int.mul_emod (r / s % p) y, Int.emod_emod, ← Int.mul_emod, ← Int.sub_emod]
          rw [show x + p - r / s * y = x - r / s * y + p by omega, Int.add_emod_right]
        rw [e1, Int.mul_emod, Int.emod_emod, ← Int.mul_emod, Int.mul_sub]
        have e2 : a * (r / s * y) = r / s * (a * y) := by rw [Int.mul_left_comm]
        rw [e2, Int.sub_emod, hax, Int.mul_emod (r / s), hay, ← Int.mul_emod, ← Int.sub_emod]
        have : r - r / s * s = r % s := by rw [Int.mul_comm]; omega
        rw [this]
      have hlt : r % s < s := hm.2
      obtain ⟨res, e1, e2, e3⟩ := ih (r % s).toNat (by omega) s (r % s) y ((x + p - r / s % p * y % p) % p) rfl hs0 hs hm.1 (by omega) hy0 hy (hy' _).1 (hy' _).2 hay key
      refine ⟨res, ?_, ?_, by rw [← gcd_step r s hsp hr0]; exact e3⟩
      · refine ev_succ ?_
        simp only [modp_Inv.l0]
        rw [ediv_tdiv hr0, emod_tmod hr0, wu64 hq0 (by omega)]
        refine ev_neg hz (ev_eq (mul_eq ⟨hq0, by omega⟩ ⟨hy0, by omega⟩ hp) (ev_eq (sub_eq ⟨hx0, by omega⟩ ?_ hp) ?_))
        · rw [Int.emod_eq_of_lt hy0 hy]; exact ⟨hc.1, by omega⟩
        · rw [Int.emod_eq_of_lt hy0 hy, Int.emod_eq_of_lt hx0 hx, Int.emod_eq_of_lt hc.1 hc.2]
          exact e1
      · refine ev_succ ?_
        simp only [triviumref40_Inv.l0]
        have hsq : 0 ≤ r / s * s ∧ r / s * s ≤ r := by
          have := Int.mul_comm s (r / s)
          constructor
          · exact Int.mul_nonneg hq0 hs0
          · omega
        have hrm : r - r / s * s = r % s := by rw [Int.mul_comm]; omega
        rw [ediv_tdiv hr0, wu64 hq0 (by omega), wu64 hsq.1 (by omega), hrm, wu64 hm.1 (by omega), emod_tmod hq0, wu64 hmul.1 hmul.2, emod_tmod hmul.1, wu64 (x := x + p) (by omega) (by omega), wu64 (x := x + p - r / s % p * y % p) (by omega) (by omega), emod_tmod (by omega)]
        exact ev_pos (by omega) (ev_neg hz (ev_neg (by omega) e2))
theorem inv_ev {a p : Int} (ha : U a) (hp : Right p) : ∃ res, Ev (fun k => modp_Inv.f k a p) res ∧ Ev (fun k => triviumref40_Inv.f k a p) res ∧ InvSays a p (Int.gcd (a % p) p) res := by
  have h3 := hp.1
  have h := md (a := a) (p := p) (by omega)
  obtain ⟨res, e1, e2, e3⟩ := inv_l0 (a := a) hp _ (a % p) p 1 0 rfl h.1 (by omega) (by omega) (Int.le_refl _) (by omega) (by omega) (by omega) (by omega) (by rw [Int.mul_one, Int.emod_emod]) (by rw [Int.mul_zero, Int.zero_emod, Int.emod_self])
  refine ⟨res, ?_, ?_, e3⟩
  · unfold modp_Inv.f
    rw [emod_tmod ha.1]
    exact ev_eq (right_yes hp) (ev_pos rfl (ev_neg (by omega) e1))
  · unfold triviumref40_Inv.f
    rw [emod_tmod ha.1]
    exact ev_eq (rright_yes hp) (ev_pos rfl (ev_neg (by omega) e2))
theorem inv_no {a p : Int} (hp : ¬ Right p) : Ev (fun k => modp_Inv.f k a p) (0, 2) ∧ Ev (fun k => triviumref40_Inv.f k a p) (0, 2) := by
  constructor
  · unfold modp_Inv.f
    exact ev_eq (right_no hp) (ev_neg (by decide) (ev_now rfl))
  · unfold triviumref40_Inv.f
    exact ev_eq (rright_no hp) (ev_neg (by decide) (ev_now rfl))
end Go.Proofs.Ytpjephicbiiamaa.M

end
section
namespace Go.Proofs.Ytpjephicbiiamaa.Pure
set_option linter.unusedVariables false
set_option linter.unusedSimpArgs false
open Go Go.RowKit Go.Proofs.YtpjephicbiiamaaW.PrintWords Go.Proofs.YtpjephicbiiamaaW.PrintLast Go.Proofs.YtpjephicbiiamaaW.PrintMore Go.Proofs.Ytpjephicbiiamaa.F Go.Proofs.Ytpjephicbiiamaa.A Go.Proofs.Ytpjephicbiiamaa.B Go.Proofs.Ytpjephicbiiamaa.M
set_option maxRecDepth 100000 in
theorem works40_ev : Ev (fun k => triviumlaw40_works.f k) true := Ev.of (fun k => triviumlaw40_works.mono k) (k := 150) (by decide +kernel)
theorem ModpInverses : triviumlaw40_ModpInverses.Pure := by
  intro a p ha hp
  replace ha : U a := wf_u64 ha
  refine Ev.rounds ?_
  unfold triviumlaw40_ModpInverses.f
  by_cases h : Right p
  · have h3 := h.1
    have h4 := h.2
    obtain ⟨res, e1, e2, e3⟩ := inv_ev ha h
    refine ev_bind e1 (ev_bind e2 (ev_pos rfl (ev_pos rfl ?_)))
    rcases e3 with ⟨h0, -, hr0, hr, hm⟩ | ⟨h0, -⟩
    · refine ev_pos h0 (ev_eq (mul_eq ha ⟨hr0, by omega⟩ h) (ev_pos ?_ (ev_bind works40_ev (ev_now rfl))))
      rw [← Int.mul_emod, hm, Int.emod_eq_of_lt (by omega) (by omega)]
    · subst h0
      exact ev_neg (by decide) (ev_bind works40_ev (ev_now rfl))
  · obtain ⟨e1, e2⟩ := inv_no (a := a) h
    exact ev_bind e1 (ev_bind e2 (ev_pos rfl (ev_pos rfl (ev_neg (by decide) (ev_bind works40_ev (ev_now rfl))))))
end Go.Proofs.Ytpjephicbiiamaa.Pure

end
section
namespace Go.Proofs.Ytpjephicbiiamaa.modpInverses
open Go.Proofs.YtpjephicbiiamaaW
open Go.ChangeShapes Go.WideShapes Go.ChangeAt Go.RowKit
open Go.ChangeMaps (open_string shut_string)
set_option linter.unusedVariables false
theorem own : ownKnob Try.prog.godebug = none := by kernel_rfl
set_option maxRecDepth 100000 in
theorem lifted (os : Os) (started : os.Started) (H : Type) (enc : TypeId × Value → H) :
    ReturnsInHanded {} Try.checked os 9 .any (Rows.modpInversesSpec.pre6 enc Try.prog Try.f9 Rows.modpInversesRow.domain false) (Rows.modpInversesSpec.post enc Try.prog Try.f9 false true false false) := by
  refine returnsInHanded_of_change_sized (C := Try.checked) own started (by kernel_rfl) Try.func9
    (ChangeSpec.witness6 (enc := enc) (C := Try.checked) false ⟨#[], #[.int .u64 0, .int .u64 0], []⟩ 8 (by kernel_rfl) (by kernel_rfl) (by kernel_rfl) (by kernel_rfl)) ?_
  intro W base args ds gs before hval0 hW hcnd hsz0 _
  have hsz : (DataW.weightsEach Try.prog (Try.f9.params.toList ++ Rows.modpInversesSpec.plain.varTypes Try.prog) (ds ++ gs)).all (· ≤ reachBytes) = true := hsz0
  have hval : ∀ (j : Nat) t v, Try.f9.params[j]? = some t → args[j]? = some v → Value.okWide Try.prog W .any base t v := hval0
  have hW' := hW
  obtain ⟨p, q, hA0, hV, rfl, hfz, hnd⟩ := hW
  have hA : DataW.TrodAll enc Try.prog W 0 (fun _ => true) true Try.f9.params.toList args.toList ds p := hA0
  rw [Try.params9] at hA hval hsz
  obtain ⟨v0, vs0, d0, ds0, p0, q0, hargs, rfl, rfl, h0, r0⟩ := trodAll_cons hA
  obtain ⟨v1, vs1, d1, ds1, p1, q1, rfl, rfl, rfl, h1, r1⟩ := trodAll_cons r0
  obtain ⟨rfl, rfl, rfl⟩ := trodAll_nil r1
  obtain rfl : args = #[v0, v1] := by cases args; simp_all
  obtain ⟨rfl, rfl⟩ := trodVars_none hV
  obtain ⟨a0, rfl, rfl, rfl, w0⟩ := open_int Try.underlying54 (hval 0 54 v0 rfl rfl) h0
  obtain ⟨a1, rfl, rfl, rfl, w1⟩ := open_int Try.underlying54 (hval 1 54 v1 rfl rfl) h1
  clear hA0 hval0 hsz0 hsz
  refine (F.triviumlaw40_ModpInverses.walk Pure.ModpInverses a0 a1 W w0 w1).mono fun e W' ⟨he, bel⟩ => ?_
  subst he
  exact ⟨_, rfl, _, _, _, [], _, [], hW', trodAll_mk1 (shut_bool Try.underlying4 _), (trodAll_cons_mk (shut_int Try.underlying54 w0) (trodAll_cons_mk (shut_int Try.underlying54 w1) trodAll_mk0)), rfl, bel.frame _, fun h => by cases h⟩
theorem over : Rows.modpInversesRow.holds Try.pinned (OpenSpec.ofChange Rows.modpInversesSpec) :=
  OpenClaim.holds_of_wide 9 Try.f9 rfl rfl rfl rfl rfl rfl rfl ⟨rfl, rfl, rfl, rfl, rfl⟩ rfl rfl rfl rfl rfl (by kernel_rfl) Try.func9 (by kernel_rfl)
    (of_decide_eq_true (by kernel_rfl)) (by unfold Func.isWrapper; first | (rw [if_pos (by decide +kernel)]; kernel_rfl) | (rw [if_neg (by decide +kernel)]; exact ⟨rfl, rfl⟩))
    (fun os started H enc _ => lifted os started H enc)
theorem proved : Rows.ModpInversesSaid := over
#print axioms proved
end Go.Proofs.Ytpjephicbiiamaa.modpInverses
namespace Go.Proofs.Ytpjephicbiiamaa
theorem modpInverses_holds : Rows.ModpInversesSaid := modpInverses.proved
end Go.Proofs.Ytpjephicbiiamaa

end
