/- A part of the proof of the law SolveSolved: an abstract machine for the functions' code with its soundness, words, lemmas (assembled by a program). -/
import Derived.Test.YtflnfnemhgjglaaGreatProg
import Derived.KernelRfl
import Derived.Test.YtflnfnemhgjglaaGreatCSolveSolved4
set_option linter.unusedVariables false
set_option linter.unusedSimpArgs false
set_option linter.unusedSectionVars false
section
set_option maxRecDepth 100000
namespace Go.Proofs.YtflnfnemhgjglaaGreat.R
open Go Go.AM Go.S Go.Proofs
def okAll (P : Program) : Nat → List (Option AFunc) → Bool
  | _, [] => true
  | i, none :: r => okAll P (i + 1) r
  | i, some a :: r => okF P i a && okAll P (i + 1) r
theorem okAll_get {P : Program} {af : AFunc} : ∀ (l : List (Option AFunc)) (i f : Nat), okAll P i l = true → nthF l f = some af → okF P (i + f) af = true := by
  intro l
  induction l with
  | nil => intro i f _ h; cases h
  | cons a r ih =>
    intro i f h1 h2
    cases f with
    | zero =>
      cases a with
      | none => cases h2
      | some a =>
        simp only [okAll, Bool.and_eq_true] at h1
        cases h2
        exact h1.1
    | succ f =>
      have h3 : okAll P (i + 1) r = true := by
        cases a with
        | none => exact h1
        | some a => simp only [okAll, Bool.and_eq_true] at h1; exact h1.2
      have := ih (i + 1) f h3 h2
      rwa [show i + 1 + f = i + (f + 1) by omega] at this
theorem all_ok : okAll Tryz.prog 0 FL = true := by kernel_rfl
theorem hF : ∀ f af, F f = some af → okF Tryz.prog f af = true := fun f af h => by
  have := okAll_get FL 0 f all_ok h
  rwa [Nat.zero_add] at this
end Go.Proofs.YtflnfnemhgjglaaGreat.R

end
