/-
  No cell of these rows narrows 'for every input' (looked for: loops, veiled, ifaces, maps, wideKeys, modest, calm, conditions, laid).
  DERIVED. THE GIVEN ROWS OF THIS SEAT. 6 by the template 'for every input the law returns true; each argument reads behind the call as it read before'; 0 by the template 'total and deterministic' (their statements: YtpmbcdakpmceiaaTotals.lean).
  GIVEN WITH THE SEED: the statements are not yours to turn. If you find one false, say at which input.
  Laid BY PROGRAM, IN A SANDBOX (cutbox-rows.mjs): the forced cells as the released guide's own fill.sh prints them over the translation b0f264083d972787… (all of the seat's roots in one cut). By AI agents, Wed Nov 11 2026. No macro, syntax, notation, axiom, sorry.
-/
import Derived.Test.YtpmbcdakpmceiaaChecked
import GoSem.Claim
import GoSem.ClaimJoined
import GoSem.ClaimMapViews
import Derived.JoinedTies
import Derived.KernelRfl
namespace Go.Proofs.Ytpmbcdakpmceiaa
/- THE CELL 'sum', in the pinned program and in every row, IS THE sha256 OF THE DUMP (.gsa) THAT YtpmbcdakpmceiaaProg.lean LOADS. Nothing in Lean hashes anything: it is a label: what it is worth is what the hold of that sum in a sandbox is worth. -/
noncomputable def Try.pinned : Pinned := { name := "ytpmbcdakpmceiaa", sum := "b0f264083d972787135488d6984d60f898a75b307db5e85d0bda99a4d8b092f3", checked := Try.checked }
namespace Rows
def none {H : Type} : Left H := { results := [], args := [] }

/-- 'triviumlaw11.VectMakes': WHATEVER THE INPUT: true; the input reads as it did. -/
def vectMakesSpec : ChangeSpec := { name := "vectMakes", fn := fun _ => fun
  | [d1, d2] => { results := [.lit (.bool true)], args := [d1, d2] }
  | _ => none }
def vectMakesRow : OpenClaim := { program := "ytpmbcdakpmceiaa", sum := "b0f264083d972787135488d6984d60f898a75b307db5e85d0bda99a4d8b092f3", func := "trivium/triviumlaw11.VectMakes", spec := "vectMakes", unfollowed := true, recurses := true, plainKeys := false, apart := false }
def VectMakesSaid : Prop := vectMakesRow.holds Try.pinned (OpenSpec.ofChange vectMakesSpec)

/-- ITS FALSE NEIGHBOUR: 'it returns false'. Refute it at one input. -/
def vectMakesWrong : ChangeSpec := { name := "vectMakes", fn := fun _ => fun
  | [d1, d2] => { results := [.lit (.bool false)], args := [d1, d2] }
  | _ => none }
def VectMakesWrongFalsely : Prop := vectMakesRow.holds Try.pinned (OpenSpec.ofChange vectMakesWrong)

/-- 'triviumlaw11.VectLinear': WHATEVER THE INPUT: true; the input reads as it did. -/
def vectLinearSpec : ChangeSpec := { name := "vectLinear", fn := fun _ => fun
  | [d1, d2, d3, d4] => { results := [.lit (.bool true)], args := [d1, d2, d3, d4] }
  | _ => none }
def vectLinearRow : OpenClaim := { program := "ytpmbcdakpmceiaa", sum := "b0f264083d972787135488d6984d60f898a75b307db5e85d0bda99a4d8b092f3", func := "trivium/triviumlaw11.VectLinear", spec := "vectLinear", unfollowed := true, recurses := true, plainKeys := false, apart := false }
def VectLinearSaid : Prop := vectLinearRow.holds Try.pinned (OpenSpec.ofChange vectLinearSpec)

/-- ITS FALSE NEIGHBOUR: 'it returns false'. Refute it at one input. -/
def vectLinearWrong : ChangeSpec := { name := "vectLinear", fn := fun _ => fun
  | [d1, d2, d3, d4] => { results := [.lit (.bool false)], args := [d1, d2, d3, d4] }
  | _ => none }
def VectLinearWrongFalsely : Prop := vectLinearRow.holds Try.pinned (OpenSpec.ofChange vectLinearWrong)

/-- 'triviumlaw11.VectDots': WHATEVER THE INPUT: true; the input reads as it did. -/
def vectDotsSpec : ChangeSpec := { name := "vectDots", fn := fun _ => fun
  | [d1, d2] => { results := [.lit (.bool true)], args := [d1, d2] }
  | _ => none }
def vectDotsRow : OpenClaim := { program := "ytpmbcdakpmceiaa", sum := "b0f264083d972787135488d6984d60f898a75b307db5e85d0bda99a4d8b092f3", func := "trivium/triviumlaw11.VectDots", spec := "vectDots", unfollowed := true, recurses := true, plainKeys := false, apart := false }
def VectDotsSaid : Prop := vectDotsRow.holds Try.pinned (OpenSpec.ofChange vectDotsSpec)

/-- ITS FALSE NEIGHBOUR: 'it returns false'. Refute it at one input. -/
def vectDotsWrong : ChangeSpec := { name := "vectDots", fn := fun _ => fun
  | [d1, d2] => { results := [.lit (.bool false)], args := [d1, d2] }
  | _ => none }
def VectDotsWrongFalsely : Prop := vectDotsRow.holds Try.pinned (OpenSpec.ofChange vectDotsWrong)

/-- 'triviumlaw11.VectAdds': WHATEVER THE INPUT: true; the input reads as it did. -/
def vectAddsSpec : ChangeSpec := { name := "vectAdds", fn := fun _ => fun
  | [d1, d2, d3] => { results := [.lit (.bool true)], args := [d1, d2, d3] }
  | _ => none }
def vectAddsRow : OpenClaim := { program := "ytpmbcdakpmceiaa", sum := "b0f264083d972787135488d6984d60f898a75b307db5e85d0bda99a4d8b092f3", func := "trivium/triviumlaw11.VectAdds", spec := "vectAdds", unfollowed := true, recurses := true, plainKeys := false, apart := false }
def VectAddsSaid : Prop := vectAddsRow.holds Try.pinned (OpenSpec.ofChange vectAddsSpec)

/-- ITS FALSE NEIGHBOUR: 'it returns false'. Refute it at one input. -/
def vectAddsWrong : ChangeSpec := { name := "vectAdds", fn := fun _ => fun
  | [d1, d2, d3] => { results := [.lit (.bool false)], args := [d1, d2, d3] }
  | _ => none }
def VectAddsWrongFalsely : Prop := vectAddsRow.holds Try.pinned (OpenSpec.ofChange vectAddsWrong)

/-- 'triviumlaw12.MatrixRing': WHATEVER THE INPUT: true; the input reads as it did. -/
def matrixRingSpec : ChangeSpec := { name := "matrixRing", fn := fun _ => fun
  | [d1, d2, d3] => { results := [.lit (.bool true)], args := [d1, d2, d3] }
  | _ => none }
def matrixRingRow : OpenClaim := { program := "ytpmbcdakpmceiaa", sum := "b0f264083d972787135488d6984d60f898a75b307db5e85d0bda99a4d8b092f3", func := "trivium/triviumlaw12.MatrixRing", spec := "matrixRing", unfollowed := true, recurses := true, plainKeys := false, apart := false }
def MatrixRingSaid : Prop := matrixRingRow.holds Try.pinned (OpenSpec.ofChange matrixRingSpec)

/-- ITS FALSE NEIGHBOUR: 'it returns false'. Refute it at one input. -/
def matrixRingWrong : ChangeSpec := { name := "matrixRing", fn := fun _ => fun
  | [d1, d2, d3] => { results := [.lit (.bool false)], args := [d1, d2, d3] }
  | _ => none }
def MatrixRingWrongFalsely : Prop := matrixRingRow.holds Try.pinned (OpenSpec.ofChange matrixRingWrong)

/-- 'triviumlaw13.SparseVoid': WHATEVER THE INPUT: true; the input reads as it did. -/
def sparseVoidSpec : ChangeSpec := { name := "sparseVoid", fn := fun _ => fun
  | [d1, d2] => { results := [.lit (.bool true)], args := [d1, d2] }
  | _ => none }
def sparseVoidRow : OpenClaim := { program := "ytpmbcdakpmceiaa", sum := "b0f264083d972787135488d6984d60f898a75b307db5e85d0bda99a4d8b092f3", func := "trivium/triviumlaw13.SparseVoid", spec := "sparseVoid", unfollowed := true, recurses := true, plainKeys := false, apart := false }
def SparseVoidSaid : Prop := sparseVoidRow.holds Try.pinned (OpenSpec.ofChange sparseVoidSpec)

/-- ITS FALSE NEIGHBOUR: 'it returns false'. Refute it at one input. -/
def sparseVoidWrong : ChangeSpec := { name := "sparseVoid", fn := fun _ => fun
  | [d1, d2] => { results := [.lit (.bool false)], args := [d1, d2] }
  | _ => none }
def SparseVoidWrongFalsely : Prop := sparseVoidRow.holds Try.pinned (OpenSpec.ofChange sparseVoidWrong)

/- THE SECOND FORM. 'bulk': how many values and letters a reading holds, each counted each time it is reached (what is shared counts as often as it is met; a slice's spare places count too). A statement '..UptoSaid' is the law's where the arguments, and the package variables that the reading takes, are together of bulk at most 1048576: NARROWER than '..Said'. Prove '..Said' where nothing that the law and all that it calls make is longer than what came in: it says more and counts as full. Else prove '..UptoSaid'. A law counts once. -/
mutual
def uptoBulk {H : Type} : DataW H → Nat
  | .lit (.string bytes) => bytes.length + 1
  | .lit _ => 1
  | .nil => 1
  | .ptr d => uptoBulk d + 1
  | .slice elems spare => uptoBulkAll elems + uptoBulkAll spare + 1
  | .agg parts => uptoBulkAll parts + 1
  | .iface _ d => uptoBulk d + 1
  | .map entries => uptoBulkEntries entries + 1
  | .held _ => 1
def uptoBulkAll {H : Type} : List (DataW H) → Nat
  | [] => 0
  | d :: r => uptoBulk d + uptoBulkAll r
def uptoBulkEntries {H : Type} : List (Lit × DataW H) → Nat
  | [] => 0
  | x :: r => uptoBulkEntry x + uptoBulkEntries r
def uptoBulkEntry {H : Type} : Lit × DataW H → Nat
  | (.string bytes, d) => bytes.length + uptoBulk d + 1
  | (_, d) => uptoBulk d + 1
 end
def uptoSmall : (H : Type) → List (DataW H) → Bool := fun _ ds => decide (uptoBulkAll ds ≤ 1048576)
def OpenSpec.upto (s : _root_.Go.ChangeSpec) : _root_.Go.OpenSpec := { _root_.Go.OpenSpec.ofChange s with cond := some uptoSmall }

/-- 'triviumlaw11.VectMakes', WHERE WHAT IT READS IS OF BULK AT MOST 1048576: true; the input reads as it did. -/
def vectMakesUptoRow : OpenClaim := { program := "ytpmbcdakpmceiaa", sum := "b0f264083d972787135488d6984d60f898a75b307db5e85d0bda99a4d8b092f3", func := "trivium/triviumlaw11.VectMakes", spec := "vectMakes", unfollowed := true, recurses := true, plainKeys := false, apart := false, narrowed := true }
def VectMakesUptoSaid : Prop := vectMakesUptoRow.holds Try.pinned (OpenSpec.upto vectMakesSpec)

/-- 'triviumlaw11.VectLinear', WHERE WHAT IT READS IS OF BULK AT MOST 1048576: true; the input reads as it did. -/
def vectLinearUptoRow : OpenClaim := { program := "ytpmbcdakpmceiaa", sum := "b0f264083d972787135488d6984d60f898a75b307db5e85d0bda99a4d8b092f3", func := "trivium/triviumlaw11.VectLinear", spec := "vectLinear", unfollowed := true, recurses := true, plainKeys := false, apart := false, narrowed := true }
def VectLinearUptoSaid : Prop := vectLinearUptoRow.holds Try.pinned (OpenSpec.upto vectLinearSpec)

/-- 'triviumlaw11.VectDots', WHERE WHAT IT READS IS OF BULK AT MOST 1048576: true; the input reads as it did. -/
def vectDotsUptoRow : OpenClaim := { program := "ytpmbcdakpmceiaa", sum := "b0f264083d972787135488d6984d60f898a75b307db5e85d0bda99a4d8b092f3", func := "trivium/triviumlaw11.VectDots", spec := "vectDots", unfollowed := true, recurses := true, plainKeys := false, apart := false, narrowed := true }
def VectDotsUptoSaid : Prop := vectDotsUptoRow.holds Try.pinned (OpenSpec.upto vectDotsSpec)

/-- 'triviumlaw11.VectAdds', WHERE WHAT IT READS IS OF BULK AT MOST 1048576: true; the input reads as it did. -/
def vectAddsUptoRow : OpenClaim := { program := "ytpmbcdakpmceiaa", sum := "b0f264083d972787135488d6984d60f898a75b307db5e85d0bda99a4d8b092f3", func := "trivium/triviumlaw11.VectAdds", spec := "vectAdds", unfollowed := true, recurses := true, plainKeys := false, apart := false, narrowed := true }
def VectAddsUptoSaid : Prop := vectAddsUptoRow.holds Try.pinned (OpenSpec.upto vectAddsSpec)

/-- 'triviumlaw12.MatrixRing', WHERE WHAT IT READS IS OF BULK AT MOST 1048576: true; the input reads as it did. -/
def matrixRingUptoRow : OpenClaim := { program := "ytpmbcdakpmceiaa", sum := "b0f264083d972787135488d6984d60f898a75b307db5e85d0bda99a4d8b092f3", func := "trivium/triviumlaw12.MatrixRing", spec := "matrixRing", unfollowed := true, recurses := true, plainKeys := false, apart := false, narrowed := true }
def MatrixRingUptoSaid : Prop := matrixRingUptoRow.holds Try.pinned (OpenSpec.upto matrixRingSpec)

/-- 'triviumlaw13.SparseVoid', WHERE WHAT IT READS IS OF BULK AT MOST 1048576: true; the input reads as it did. -/
def sparseVoidUptoRow : OpenClaim := { program := "ytpmbcdakpmceiaa", sum := "b0f264083d972787135488d6984d60f898a75b307db5e85d0bda99a4d8b092f3", func := "trivium/triviumlaw13.SparseVoid", spec := "sparseVoid", unfollowed := true, recurses := true, plainKeys := false, apart := false, narrowed := true }
def SparseVoidUptoSaid : Prop := sparseVoidUptoRow.holds Try.pinned (OpenSpec.upto sparseVoidSpec)

end Rows
end Go.Proofs.Ytpmbcdakpmceiaa
