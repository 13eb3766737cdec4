/-
  No cell of these rows narrows 'for every input' (looked for: loops, veiled, ifaces, maps, wideKeys, modest, calm, conditions, laid).
  DERIVED. THE GIVEN ROWS OF THIS SEAT. 5 by the template 'for every input the law returns true; each argument reads behind the call as it read before'; 0 by the template 'total and deterministic' (their statements: YtpmbcdakpmceiaaGreatTotals.lean).
  GIVEN WITH THE SEED: the statements are not yours to turn. If you find one false, say at which input.
  Laid BY PROGRAM, IN A SANDBOX (cutbox-rows.mjs): the forced cells as the released guide's own fill.sh prints them over the translation 8e56e664202ca75e… (all of the seat's roots in one cut). By AI agents, Wed Nov 11 2026. No macro, syntax, notation, axiom, sorry.
-/
import Derived.Test.YtpmbcdakpmceiaaGreatChecked
import GoSem.Claim
import GoSem.ClaimJoined
import GoSem.ClaimMapViews
import Derived.JoinedTies
import Derived.KernelRfl
namespace Go.Proofs.YtpmbcdakpmceiaaGreat
/- THE CELL 'sum', in the pinned program and in every row, IS THE sha256 OF THE DUMP (.gsa) THAT YtpmbcdakpmceiaaGreatProg.lean LOADS. Nothing in Lean hashes anything: it is a label: what it is worth is what the hold of that sum in a sandbox is worth. -/
noncomputable def Tryz.pinned : Pinned := { name := "ytpmbcdakpmceiaagreat", sum := "8e56e664202ca75e83737312f9e8d53c5e246752f64ce20dee8c5e4e2709609f", checked := Tryz.checked }
namespace Rows
def none {H : Type} : Left H := { results := [], args := [] }

/-- 'triviumlaw12.MatrixChecks': WHATEVER THE INPUT: true; the input reads as it did. -/
def matrixChecksSpec : ChangeSpec := { name := "matrixChecks", fn := fun _ => fun
  | [d1, d2, d3] => { results := [.lit (.bool true)], args := [d1, d2, d3] }
  | _ => none }
def matrixChecksRow : OpenClaim := { program := "ytpmbcdakpmceiaagreat", sum := "8e56e664202ca75e83737312f9e8d53c5e246752f64ce20dee8c5e4e2709609f", func := "trivium/triviumlaw12.MatrixChecks", spec := "matrixChecks", unfollowed := true, recurses := true, plainKeys := false, apart := false }
def MatrixChecksSaid : Prop := matrixChecksRow.holds Tryz.pinned (OpenSpec.ofChange matrixChecksSpec)

/-- ITS FALSE NEIGHBOUR: 'it returns false'. Refute it at one input. -/
def matrixChecksWrong : ChangeSpec := { name := "matrixChecks", fn := fun _ => fun
  | [d1, d2, d3] => { results := [.lit (.bool false)], args := [d1, d2, d3] }
  | _ => none }
def MatrixChecksWrongFalsely : Prop := matrixChecksRow.holds Tryz.pinned (OpenSpec.ofChange matrixChecksWrong)

/-- 'triviumlaw12.MatrixTurns': WHATEVER THE INPUT: true; the input reads as it did. -/
def matrixTurnsSpec : ChangeSpec := { name := "matrixTurns", fn := fun _ => fun
  | [d1, d2] => { results := [.lit (.bool true)], args := [d1, d2] }
  | _ => none }
def matrixTurnsRow : OpenClaim := { program := "ytpmbcdakpmceiaagreat", sum := "8e56e664202ca75e83737312f9e8d53c5e246752f64ce20dee8c5e4e2709609f", func := "trivium/triviumlaw12.MatrixTurns", spec := "matrixTurns", unfollowed := true, recurses := true, plainKeys := false, apart := false }
def MatrixTurnsSaid : Prop := matrixTurnsRow.holds Tryz.pinned (OpenSpec.ofChange matrixTurnsSpec)

/-- ITS FALSE NEIGHBOUR: 'it returns false'. Refute it at one input. -/
def matrixTurnsWrong : ChangeSpec := { name := "matrixTurns", fn := fun _ => fun
  | [d1, d2] => { results := [.lit (.bool false)], args := [d1, d2] }
  | _ => none }
def MatrixTurnsWrongFalsely : Prop := matrixTurnsRow.holds Tryz.pinned (OpenSpec.ofChange matrixTurnsWrong)

/-- 'triviumlaw12.MatrixMuls': WHATEVER THE INPUT: true; the input reads as it did. -/
def matrixMulsSpec : ChangeSpec := { name := "matrixMuls", fn := fun _ => fun
  | [d1, d2, d3] => { results := [.lit (.bool true)], args := [d1, d2, d3] }
  | _ => none }
def matrixMulsRow : OpenClaim := { program := "ytpmbcdakpmceiaagreat", sum := "8e56e664202ca75e83737312f9e8d53c5e246752f64ce20dee8c5e4e2709609f", func := "trivium/triviumlaw12.MatrixMuls", spec := "matrixMuls", unfollowed := true, recurses := true, plainKeys := false, apart := false }
def MatrixMulsSaid : Prop := matrixMulsRow.holds Tryz.pinned (OpenSpec.ofChange matrixMulsSpec)

/-- ITS FALSE NEIGHBOUR: 'it returns false'. Refute it at one input. -/
def matrixMulsWrong : ChangeSpec := { name := "matrixMuls", fn := fun _ => fun
  | [d1, d2, d3] => { results := [.lit (.bool false)], args := [d1, d2, d3] }
  | _ => none }
def MatrixMulsWrongFalsely : Prop := matrixMulsRow.holds Tryz.pinned (OpenSpec.ofChange matrixMulsWrong)

/-- 'triviumlaw13.SparsePlays': WHATEVER THE INPUT: true; the input reads as it did. -/
def sparsePlaysSpec : ChangeSpec := { name := "sparsePlays", fn := fun _ => fun
  | [d1, d2, d3] => { results := [.lit (.bool true)], args := [d1, d2, d3] }
  | _ => none }
def sparsePlaysRow : OpenClaim := { program := "ytpmbcdakpmceiaagreat", sum := "8e56e664202ca75e83737312f9e8d53c5e246752f64ce20dee8c5e4e2709609f", func := "trivium/triviumlaw13.SparsePlays", spec := "sparsePlays", unfollowed := true, recurses := true, plainKeys := false, apart := false }
def SparsePlaysSaid : Prop := sparsePlaysRow.holds Tryz.pinned (OpenSpec.ofChange sparsePlaysSpec)

/-- ITS FALSE NEIGHBOUR: 'it returns false'. Refute it at one input. -/
def sparsePlaysWrong : ChangeSpec := { name := "sparsePlays", fn := fun _ => fun
  | [d1, d2, d3] => { results := [.lit (.bool false)], args := [d1, d2, d3] }
  | _ => none }
def SparsePlaysWrongFalsely : Prop := sparsePlaysRow.holds Tryz.pinned (OpenSpec.ofChange sparsePlaysWrong)

/-- 'triviumlaw13.SparseFull': WHATEVER THE INPUT: true; the input reads as it did. -/
def sparseFullSpec : ChangeSpec := { name := "sparseFull", fn := fun _ => fun
  | [d1, d2] => { results := [.lit (.bool true)], args := [d1, d2] }
  | _ => none }
def sparseFullRow : OpenClaim := { program := "ytpmbcdakpmceiaagreat", sum := "8e56e664202ca75e83737312f9e8d53c5e246752f64ce20dee8c5e4e2709609f", func := "trivium/triviumlaw13.SparseFull", spec := "sparseFull", unfollowed := true, recurses := true, plainKeys := false, apart := false }
def SparseFullSaid : Prop := sparseFullRow.holds Tryz.pinned (OpenSpec.ofChange sparseFullSpec)

/-- ITS FALSE NEIGHBOUR: 'it returns false'. Refute it at one input. -/
def sparseFullWrong : ChangeSpec := { name := "sparseFull", fn := fun _ => fun
  | [d1, d2] => { results := [.lit (.bool false)], args := [d1, d2] }
  | _ => none }
def SparseFullWrongFalsely : Prop := sparseFullRow.holds Tryz.pinned (OpenSpec.ofChange sparseFullWrong)

/- THE SECOND FORM. 'bulk': how many values and letters a reading holds, each counted each time it is reached (what is shared counts as often as it is met; a slice's spare places count too). A statement '..UptoSaid' is the law's where the arguments, and the package variables that the reading takes, are together of bulk at most 1048576: NARROWER than '..Said'. Prove '..Said' where nothing that the law and all that it calls make is longer than what came in: it says more and counts as full. Else prove '..UptoSaid'. A law counts once. -/
mutual
def uptoBulk {H : Type} : DataW H → Nat
  | .lit (.string bytes) => bytes.length + 1
  | .lit _ => 1
  | .nil => 1
  | .ptr d => uptoBulk d + 1
  | .slice elems spare => uptoBulkAll elems + uptoBulkAll spare + 1
  | .agg parts => uptoBulkAll parts + 1
  | .iface _ d => uptoBulk d + 1
  | .map entries => uptoBulkEntries entries + 1
  | .held _ => 1
def uptoBulkAll {H : Type} : List (DataW H) → Nat
  | [] => 0
  | d :: r => uptoBulk d + uptoBulkAll r
def uptoBulkEntries {H : Type} : List (Lit × DataW H) → Nat
  | [] => 0
  | x :: r => uptoBulkEntry x + uptoBulkEntries r
def uptoBulkEntry {H : Type} : Lit × DataW H → Nat
  | (.string bytes, d) => bytes.length + uptoBulk d + 1
  | (_, d) => uptoBulk d + 1
 end
def uptoSmall : (H : Type) → List (DataW H) → Bool := fun _ ds => decide (uptoBulkAll ds ≤ 1048576)
def OpenSpec.upto (s : _root_.Go.ChangeSpec) : _root_.Go.OpenSpec := { _root_.Go.OpenSpec.ofChange s with cond := some uptoSmall }

/-- 'triviumlaw12.MatrixChecks', WHERE WHAT IT READS IS OF BULK AT MOST 1048576: true; the input reads as it did. -/
def matrixChecksUptoRow : OpenClaim := { program := "ytpmbcdakpmceiaagreat", sum := "8e56e664202ca75e83737312f9e8d53c5e246752f64ce20dee8c5e4e2709609f", func := "trivium/triviumlaw12.MatrixChecks", spec := "matrixChecks", unfollowed := true, recurses := true, plainKeys := false, apart := false, narrowed := true }
def MatrixChecksUptoSaid : Prop := matrixChecksUptoRow.holds Tryz.pinned (OpenSpec.upto matrixChecksSpec)

/-- 'triviumlaw12.MatrixTurns', WHERE WHAT IT READS IS OF BULK AT MOST 1048576: true; the input reads as it did. -/
def matrixTurnsUptoRow : OpenClaim := { program := "ytpmbcdakpmceiaagreat", sum := "8e56e664202ca75e83737312f9e8d53c5e246752f64ce20dee8c5e4e2709609f", func := "trivium/triviumlaw12.MatrixTurns", spec := "matrixTurns", unfollowed := true, recurses := true, plainKeys := false, apart := false, narrowed := true }
def MatrixTurnsUptoSaid : Prop := matrixTurnsUptoRow.holds Tryz.pinned (OpenSpec.upto matrixTurnsSpec)

/-- 'triviumlaw12.MatrixMuls', WHERE WHAT IT READS IS OF BULK AT MOST 1048576: true; the input reads as it did. -/
def matrixMulsUptoRow : OpenClaim := { program := "ytpmbcdakpmceiaagreat", sum := "8e56e664202ca75e83737312f9e8d53c5e246752f64ce20dee8c5e4e2709609f", func := "trivium/triviumlaw12.MatrixMuls", spec := "matrixMuls", unfollowed := true, recurses := true, plainKeys := false, apart := false, narrowed := true }
def MatrixMulsUptoSaid : Prop := matrixMulsUptoRow.holds Tryz.pinned (OpenSpec.upto matrixMulsSpec)

/-- 'triviumlaw13.SparsePlays', WHERE WHAT IT READS IS OF BULK AT MOST 1048576: true; the input reads as it did. -/
def sparsePlaysUptoRow : OpenClaim := { program := "ytpmbcdakpmceiaagreat", sum := "8e56e664202ca75e83737312f9e8d53c5e246752f64ce20dee8c5e4e2709609f", func := "trivium/triviumlaw13.SparsePlays", spec := "sparsePlays", unfollowed := true, recurses := true, plainKeys := false, apart := false, narrowed := true }
def SparsePlaysUptoSaid : Prop := sparsePlaysUptoRow.holds Tryz.pinned (OpenSpec.upto sparsePlaysSpec)

/-- 'triviumlaw13.SparseFull', WHERE WHAT IT READS IS OF BULK AT MOST 1048576: true; the input reads as it did. -/
def sparseFullUptoRow : OpenClaim := { program := "ytpmbcdakpmceiaagreat", sum := "8e56e664202ca75e83737312f9e8d53c5e246752f64ce20dee8c5e4e2709609f", func := "trivium/triviumlaw13.SparseFull", spec := "sparseFull", unfollowed := true, recurses := true, plainKeys := false, apart := false, narrowed := true }
def SparseFullUptoSaid : Prop := sparseFullUptoRow.holds Tryz.pinned (OpenSpec.upto sparseFullSpec)

end Rows
end Go.Proofs.YtpmbcdakpmceiaaGreat
