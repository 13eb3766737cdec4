/- A part of the proof of the law BareissSolves: an abstract machine for the functions' code with its soundness, words, lemmas (assembled by a program). -/
import Derived.Test.YtflnfnemhgjglaaProg
import Derived.KernelRfl
import Derived.Test.YtflnfnemhgjglaaCBareissSolves4
set_option linter.unusedVariables false
set_option linter.unusedSimpArgs false
set_option linter.unusedSectionVars false
section
set_option linter.unusedVariables false
set_option linter.unusedSimpArgs false
set_option maxRecDepth 100000
namespace Go.Proofs.Ytflnfnemhgjglaa.R
open Go Go.AM Go.S Go.RowKit Go.K Go.Proofs
def okN (l : List Int) : Prop := (∀ x ∈ l, 0 ≤ x) ∧ l.length < 17592186044416
theorem bytes64 : Try.prog.bytesOf 61 = 8 := by kernel_rfl
theorem rdU : Rd Try.prog 61 (fun n : Int => [.int .u64 n]) fun n => (Lit.int .u64 n).wf = true := rd_int Try.underlying61
theorem rdN : Rd Try.prog 27 (fun l : List Int => [.lst (u l)]) okN :=
  (rd_slice Try.underlying27 rdU (fun n => AV.int .u64 n) (fun _ => rfl) (s := 1) (by kernel_rfl) (fun _ => rfl) (by decide)).map id (fun _ => rfl) fun l ⟨h1, h2⟩ => ⟨fun x hx => (wf_u64 (h1 x hx)).1, by
    rw [bytes64] at h2
    have : reachBytes = 140737488351232 := rfl
    show l.length < _
    omega⟩
theorem rdZ : Rd Try.prog 29 (fun z : Bool × List Int => [.bool z.1, .lst (u z.2)]) fun z => okN z.2 := by
  refine Rd.map (f := fun p : Bool × List Int × Unit => [AV.bool p.1] ++ ([AV.lst (u p.2.1)] ++ [])) (ok := fun p => True ∧ okN p.2.1 ∧ True) (rd_struct Try.underlying29 (fun _ => by kernel_rfl) ?_) (fun p => (p.1, p.2.1)) (fun _ => rfl) fun p h => h.2.1
  refine rdfs_cons (s := 1) (f := fun b : Bool => [AV.bool b]) (g := fun q : List Int × Unit => [AV.lst (u q.1)] ++ []) (ok := fun _ => True) (okb := fun q => okN q.1 ∧ True) rfl (by kernel_rfl) (fun _ => rfl) (rd_bool Try.underlying4) ?_
  exact rdfs_cons (s := 1) (f := fun l : List Int => [AV.lst (u l)]) (g := fun _ : Unit => []) (ok := okN) (okb := fun _ => True) rfl (by kernel_rfl) (fun _ => rfl) rdN rdfs_nil
theorem rdRZ : Rd Try.prog 46 (fun l : List XZ => [.lst (em eXZ l)]) fun l => ∀ x ∈ l, XZ.ok x :=
  (rd_slice Try.underlying46 rdZ eXZ (fun _ => rfl) (s := 2) (by kernel_rfl) (fun _ => rfl) (by decide)).map id (fun _ => rfl) fun l h => h.1
theorem rdTZ : Rd Try.prog 22 (fun l : List (List XZ) => [.lst (em eXZL l)]) fun l => ∀ r ∈ l, ∀ x ∈ r, XZ.ok x :=
  (rd_slice Try.underlying22 rdRZ eXZL (fun _ => rfl) (s := 1) (by kernel_rfl) (fun _ => rfl) (by decide)).map id (fun _ => rfl) fun l h => h.1
end Go.Proofs.Ytflnfnemhgjglaa.R

end
