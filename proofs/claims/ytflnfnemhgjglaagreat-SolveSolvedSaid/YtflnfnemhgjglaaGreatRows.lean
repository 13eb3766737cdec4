/-
  No cell of these rows narrows 'for every input' (looked for: loops, veiled, ifaces, maps, wideKeys, modest, calm, conditions, laid).
  DERIVED. THE GIVEN ROWS OF THIS SEAT. 8 by the template 'for every input the law returns true; each argument reads behind the call as it read before'; 0 by the template 'total and deterministic' (their statements: YtflnfnemhgjglaaGreatTotals.lean).
  GIVEN WITH THE SEED: the statements are not yours to turn. If you find one false, say at which input.
  Laid BY PROGRAM, IN A SANDBOX (cutbox-rows.mjs): the forced cells as the released guide's own fill.sh prints them over the translation 3399eee5d9db216c… (all of the seat's roots in one cut). By AI agents, Wed Nov 11 2026. No macro, syntax, notation, axiom, sorry.
-/
import Derived.Test.YtflnfnemhgjglaaGreatChecked
import GoSem.Claim
import GoSem.ClaimJoined
import GoSem.ClaimMapViews
import Derived.JoinedTies
import Derived.KernelRfl
namespace Go.Proofs.YtflnfnemhgjglaaGreat
/- THE CELL 'sum', in the pinned program and in every row, IS THE sha256 OF THE DUMP (.gsa) THAT YtflnfnemhgjglaaGreatProg.lean LOADS. Nothing in Lean hashes anything: it is a label: what it is worth is what the hold of that sum in a sandbox is worth. -/
noncomputable def Tryz.pinned : Pinned := { name := "ytflnfnemhgjglaagreat", sum := "3399eee5d9db216cdac86f7a472e195a414b30abed274ce2eedfbaaf1d3530f3", checked := Tryz.checked }
namespace Rows
def none {H : Type} : Left H := { results := [], args := [] }

/-- 'triviumlaw14.GaussReduces': WHATEVER THE INPUT: true; the input reads as it did. -/
def gaussReducesSpec : ChangeSpec := { name := "gaussReduces", fn := fun _ => fun
  | [d] => { results := [.lit (.bool true)], args := [d] }
  | _ => none }
def gaussReducesRow : OpenClaim := { program := "ytflnfnemhgjglaagreat", sum := "3399eee5d9db216cdac86f7a472e195a414b30abed274ce2eedfbaaf1d3530f3", func := "trivium/triviumlaw14.GaussReduces", spec := "gaussReduces", unfollowed := true, recurses := true, apart := false }
def GaussReducesSaid : Prop := gaussReducesRow.holds Tryz.pinned (OpenSpec.ofChange gaussReducesSpec)

/-- ITS FALSE NEIGHBOUR: 'it returns false'. Refute it at one input. -/
def gaussReducesWrong : ChangeSpec := { name := "gaussReduces", fn := fun _ => fun
  | [d] => { results := [.lit (.bool false)], args := [d] }
  | _ => none }
def GaussReducesWrongFalsely : Prop := gaussReducesRow.holds Tryz.pinned (OpenSpec.ofChange gaussReducesWrong)

/-- 'triviumlaw14.GaussProducts': WHATEVER THE INPUT: true; the input reads as it did. -/
def gaussProductsSpec : ChangeSpec := { name := "gaussProducts", fn := fun _ => fun
  | [d1, d2] => { results := [.lit (.bool true)], args := [d1, d2] }
  | _ => none }
def gaussProductsRow : OpenClaim := { program := "ytflnfnemhgjglaagreat", sum := "3399eee5d9db216cdac86f7a472e195a414b30abed274ce2eedfbaaf1d3530f3", func := "trivium/triviumlaw14.GaussProducts", spec := "gaussProducts", unfollowed := true, recurses := true, apart := false }
def GaussProductsSaid : Prop := gaussProductsRow.holds Tryz.pinned (OpenSpec.ofChange gaussProductsSpec)

/-- ITS FALSE NEIGHBOUR: 'it returns false'. Refute it at one input. -/
def gaussProductsWrong : ChangeSpec := { name := "gaussProducts", fn := fun _ => fun
  | [d1, d2] => { results := [.lit (.bool false)], args := [d1, d2] }
  | _ => none }
def GaussProductsWrongFalsely : Prop := gaussProductsRow.holds Tryz.pinned (OpenSpec.ofChange gaussProductsWrong)

/-- 'triviumlaw14.GaussKernel': WHATEVER THE INPUT: true; the input reads as it did. -/
def gaussKernelSpec : ChangeSpec := { name := "gaussKernel", fn := fun _ => fun
  | [d] => { results := [.lit (.bool true)], args := [d] }
  | _ => none }
def gaussKernelRow : OpenClaim := { program := "ytflnfnemhgjglaagreat", sum := "3399eee5d9db216cdac86f7a472e195a414b30abed274ce2eedfbaaf1d3530f3", func := "trivium/triviumlaw14.GaussKernel", spec := "gaussKernel", unfollowed := true, recurses := true, apart := false }
def GaussKernelSaid : Prop := gaussKernelRow.holds Tryz.pinned (OpenSpec.ofChange gaussKernelSpec)

/-- ITS FALSE NEIGHBOUR: 'it returns false'. Refute it at one input. -/
def gaussKernelWrong : ChangeSpec := { name := "gaussKernel", fn := fun _ => fun
  | [d] => { results := [.lit (.bool false)], args := [d] }
  | _ => none }
def GaussKernelWrongFalsely : Prop := gaussKernelRow.holds Tryz.pinned (OpenSpec.ofChange gaussKernelWrong)

/-- 'triviumlaw14.GaussDets': WHATEVER THE INPUT: true; the input reads as it did. -/
def gaussDetsSpec : ChangeSpec := { name := "gaussDets", fn := fun _ => fun
  | [d] => { results := [.lit (.bool true)], args := [d] }
  | _ => none }
def gaussDetsRow : OpenClaim := { program := "ytflnfnemhgjglaagreat", sum := "3399eee5d9db216cdac86f7a472e195a414b30abed274ce2eedfbaaf1d3530f3", func := "trivium/triviumlaw14.GaussDets", spec := "gaussDets", unfollowed := true, recurses := true, apart := false }
def GaussDetsSaid : Prop := gaussDetsRow.holds Tryz.pinned (OpenSpec.ofChange gaussDetsSpec)

/-- ITS FALSE NEIGHBOUR: 'it returns false'. Refute it at one input. -/
def gaussDetsWrong : ChangeSpec := { name := "gaussDets", fn := fun _ => fun
  | [d] => { results := [.lit (.bool false)], args := [d] }
  | _ => none }
def GaussDetsWrongFalsely : Prop := gaussDetsRow.holds Tryz.pinned (OpenSpec.ofChange gaussDetsWrong)

/-- 'triviumlaw16.SolveTells': WHATEVER THE INPUT: true; the input reads as it did. -/
def solveTellsSpec : ChangeSpec := { name := "solveTells", fn := fun _ => fun
  | [d1, d2] => { results := [.lit (.bool true)], args := [d1, d2] }
  | _ => none }
def solveTellsRow : OpenClaim := { program := "ytflnfnemhgjglaagreat", sum := "3399eee5d9db216cdac86f7a472e195a414b30abed274ce2eedfbaaf1d3530f3", func := "trivium/triviumlaw16.SolveTells", spec := "solveTells", unfollowed := true, recurses := true, apart := false }
def SolveTellsSaid : Prop := solveTellsRow.holds Tryz.pinned (OpenSpec.ofChange solveTellsSpec)

/-- ITS FALSE NEIGHBOUR: 'it returns false'. Refute it at one input. -/
def solveTellsWrong : ChangeSpec := { name := "solveTells", fn := fun _ => fun
  | [d1, d2] => { results := [.lit (.bool false)], args := [d1, d2] }
  | _ => none }
def SolveTellsWrongFalsely : Prop := solveTellsRow.holds Tryz.pinned (OpenSpec.ofChange solveTellsWrong)

/-- 'triviumlaw16.SolveClears': WHATEVER THE INPUT: true; the input reads as it did. -/
def solveClearsSpec : ChangeSpec := { name := "solveClears", fn := fun _ => fun
  | [d] => { results := [.lit (.bool true)], args := [d] }
  | _ => none }
def solveClearsRow : OpenClaim := { program := "ytflnfnemhgjglaagreat", sum := "3399eee5d9db216cdac86f7a472e195a414b30abed274ce2eedfbaaf1d3530f3", func := "trivium/triviumlaw16.SolveClears", spec := "solveClears", unfollowed := true, recurses := true, apart := false }
def SolveClearsSaid : Prop := solveClearsRow.holds Tryz.pinned (OpenSpec.ofChange solveClearsSpec)

/-- ITS FALSE NEIGHBOUR: 'it returns false'. Refute it at one input. -/
def solveClearsWrong : ChangeSpec := { name := "solveClears", fn := fun _ => fun
  | [d] => { results := [.lit (.bool false)], args := [d] }
  | _ => none }
def SolveClearsWrongFalsely : Prop := solveClearsRow.holds Tryz.pinned (OpenSpec.ofChange solveClearsWrong)

/-- 'triviumlaw16.SolveWhy': WHATEVER THE INPUT: true; the input reads as it did. -/
def solveWhySpec : ChangeSpec := { name := "solveWhy", fn := fun _ => fun
  | [d1, d2] => { results := [.lit (.bool true)], args := [d1, d2] }
  | _ => none }
def solveWhyRow : OpenClaim := { program := "ytflnfnemhgjglaagreat", sum := "3399eee5d9db216cdac86f7a472e195a414b30abed274ce2eedfbaaf1d3530f3", func := "trivium/triviumlaw16.SolveWhy", spec := "solveWhy", unfollowed := true, recurses := true, apart := false }
def SolveWhySaid : Prop := solveWhyRow.holds Tryz.pinned (OpenSpec.ofChange solveWhySpec)

/-- ITS FALSE NEIGHBOUR: 'it returns false'. Refute it at one input. -/
def solveWhyWrong : ChangeSpec := { name := "solveWhy", fn := fun _ => fun
  | [d1, d2] => { results := [.lit (.bool false)], args := [d1, d2] }
  | _ => none }
def SolveWhyWrongFalsely : Prop := solveWhyRow.holds Tryz.pinned (OpenSpec.ofChange solveWhyWrong)

/-- 'triviumlaw16.SolveSolved': WHATEVER THE INPUT: true; the input reads as it did. -/
def solveSolvedSpec : ChangeSpec := { name := "solveSolved", fn := fun _ => fun
  | [d1, d2] => { results := [.lit (.bool true)], args := [d1, d2] }
  | _ => none }
def solveSolvedRow : OpenClaim := { program := "ytflnfnemhgjglaagreat", sum := "3399eee5d9db216cdac86f7a472e195a414b30abed274ce2eedfbaaf1d3530f3", func := "trivium/triviumlaw16.SolveSolved", spec := "solveSolved", unfollowed := true, recurses := true, apart := false }
def SolveSolvedSaid : Prop := solveSolvedRow.holds Tryz.pinned (OpenSpec.ofChange solveSolvedSpec)

/-- ITS FALSE NEIGHBOUR: 'it returns false'. Refute it at one input. -/
def solveSolvedWrong : ChangeSpec := { name := "solveSolved", fn := fun _ => fun
  | [d1, d2] => { results := [.lit (.bool false)], args := [d1, d2] }
  | _ => none }
def SolveSolvedWrongFalsely : Prop := solveSolvedRow.holds Tryz.pinned (OpenSpec.ofChange solveSolvedWrong)

/- THE SECOND FORM. 'bulk': how many values and letters a reading holds, each counted each time it is reached (what is shared counts as often as it is met; a slice's spare places count too). A statement '..UptoSaid' is the law's where the arguments, and the package variables that the reading takes, are together of bulk at most 1048576: NARROWER than '..Said'. Prove '..Said' where nothing that the law and all that it calls make is longer than what came in: it says more and counts as full. Else prove '..UptoSaid'. A law counts once. -/
mutual
def uptoBulk {H : Type} : DataW H → Nat
  | .lit (.string bytes) => bytes.length + 1
  | .lit _ => 1
  | .nil => 1
  | .ptr d => uptoBulk d + 1
  | .slice elems spare => uptoBulkAll elems + uptoBulkAll spare + 1
  | .agg parts => uptoBulkAll parts + 1
  | .iface _ d => uptoBulk d + 1
  | .map entries => uptoBulkEntries entries + 1
  | .held _ => 1
def uptoBulkAll {H : Type} : List (DataW H) → Nat
  | [] => 0
  | d :: r => uptoBulk d + uptoBulkAll r
def uptoBulkEntries {H : Type} : List (Lit × DataW H) → Nat
  | [] => 0
  | x :: r => uptoBulkEntry x + uptoBulkEntries r
def uptoBulkEntry {H : Type} : Lit × DataW H → Nat
  | (.string bytes, d) => bytes.length + uptoBulk d + 1
  | (_, d) => uptoBulk d + 1
 end
def uptoSmall : (H : Type) → List (DataW H) → Bool := fun _ ds => decide (uptoBulkAll ds ≤ 1048576)
def OpenSpec.upto (s : _root_.Go.ChangeSpec) : _root_.Go.OpenSpec := { _root_.Go.OpenSpec.ofChange s with cond := some uptoSmall }

/-- 'triviumlaw14.GaussReduces', WHERE WHAT IT READS IS OF BULK AT MOST 1048576: true; the input reads as it did. -/
def gaussReducesUptoRow : OpenClaim := { program := "ytflnfnemhgjglaagreat", sum := "3399eee5d9db216cdac86f7a472e195a414b30abed274ce2eedfbaaf1d3530f3", func := "trivium/triviumlaw14.GaussReduces", spec := "gaussReduces", unfollowed := true, recurses := true, apart := false, narrowed := true }
def GaussReducesUptoSaid : Prop := gaussReducesUptoRow.holds Tryz.pinned (OpenSpec.upto gaussReducesSpec)

/-- 'triviumlaw14.GaussProducts', WHERE WHAT IT READS IS OF BULK AT MOST 1048576: true; the input reads as it did. -/
def gaussProductsUptoRow : OpenClaim := { program := "ytflnfnemhgjglaagreat", sum := "3399eee5d9db216cdac86f7a472e195a414b30abed274ce2eedfbaaf1d3530f3", func := "trivium/triviumlaw14.GaussProducts", spec := "gaussProducts", unfollowed := true, recurses := true, apart := false, narrowed := true }
def GaussProductsUptoSaid : Prop := gaussProductsUptoRow.holds Tryz.pinned (OpenSpec.upto gaussProductsSpec)

/-- 'triviumlaw14.GaussKernel', WHERE WHAT IT READS IS OF BULK AT MOST 1048576: true; the input reads as it did. -/
def gaussKernelUptoRow : OpenClaim := { program := "ytflnfnemhgjglaagreat", sum := "3399eee5d9db216cdac86f7a472e195a414b30abed274ce2eedfbaaf1d3530f3", func := "trivium/triviumlaw14.GaussKernel", spec := "gaussKernel", unfollowed := true, recurses := true, apart := false, narrowed := true }
def GaussKernelUptoSaid : Prop := gaussKernelUptoRow.holds Tryz.pinned (OpenSpec.upto gaussKernelSpec)

/-- 'triviumlaw14.GaussDets', WHERE WHAT IT READS IS OF BULK AT MOST 1048576: true; the input reads as it did. -/
def gaussDetsUptoRow : OpenClaim := { program := "ytflnfnemhgjglaagreat", sum := "3399eee5d9db216cdac86f7a472e195a414b30abed274ce2eedfbaaf1d3530f3", func := "trivium/triviumlaw14.GaussDets", spec := "gaussDets", unfollowed := true, recurses := true, apart := false, narrowed := true }
def GaussDetsUptoSaid : Prop := gaussDetsUptoRow.holds Tryz.pinned (OpenSpec.upto gaussDetsSpec)

/-- 'triviumlaw16.SolveTells', WHERE WHAT IT READS IS OF BULK AT MOST 1048576: true; the input reads as it did. -/
def solveTellsUptoRow : OpenClaim := { program := "ytflnfnemhgjglaagreat", sum := "3399eee5d9db216cdac86f7a472e195a414b30abed274ce2eedfbaaf1d3530f3", func := "trivium/triviumlaw16.SolveTells", spec := "solveTells", unfollowed := true, recurses := true, apart := false, narrowed := true }
def SolveTellsUptoSaid : Prop := solveTellsUptoRow.holds Tryz.pinned (OpenSpec.upto solveTellsSpec)

/-- 'triviumlaw16.SolveClears', WHERE WHAT IT READS IS OF BULK AT MOST 1048576: true; the input reads as it did. -/
def solveClearsUptoRow : OpenClaim := { program := "ytflnfnemhgjglaagreat", sum := "3399eee5d9db216cdac86f7a472e195a414b30abed274ce2eedfbaaf1d3530f3", func := "trivium/triviumlaw16.SolveClears", spec := "solveClears", unfollowed := true, recurses := true, apart := false, narrowed := true }
def SolveClearsUptoSaid : Prop := solveClearsUptoRow.holds Tryz.pinned (OpenSpec.upto solveClearsSpec)

/-- 'triviumlaw16.SolveWhy', WHERE WHAT IT READS IS OF BULK AT MOST 1048576: true; the input reads as it did. -/
def solveWhyUptoRow : OpenClaim := { program := "ytflnfnemhgjglaagreat", sum := "3399eee5d9db216cdac86f7a472e195a414b30abed274ce2eedfbaaf1d3530f3", func := "trivium/triviumlaw16.SolveWhy", spec := "solveWhy", unfollowed := true, recurses := true, apart := false, narrowed := true }
def SolveWhyUptoSaid : Prop := solveWhyUptoRow.holds Tryz.pinned (OpenSpec.upto solveWhySpec)

/-- 'triviumlaw16.SolveSolved', WHERE WHAT IT READS IS OF BULK AT MOST 1048576: true; the input reads as it did. -/
def solveSolvedUptoRow : OpenClaim := { program := "ytflnfnemhgjglaagreat", sum := "3399eee5d9db216cdac86f7a472e195a414b30abed274ce2eedfbaaf1d3530f3", func := "trivium/triviumlaw16.SolveSolved", spec := "solveSolved", unfollowed := true, recurses := true, apart := false, narrowed := true }
def SolveSolvedUptoSaid : Prop := solveSolvedUptoRow.holds Tryz.pinned (OpenSpec.upto solveSolvedSpec)

end Rows
end Go.Proofs.YtflnfnemhgjglaaGreat
