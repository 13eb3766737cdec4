/-
  No cell of these rows narrows 'for every input' (looked for: loops, veiled, ifaces, maps, wideKeys, modest, calm, conditions, laid).
  DERIVED. THE GIVEN ROWS OF THIS SEAT. 4 by the template 'for every input the law returns true; each argument reads behind the call as it read before'; 0 by the template 'total and deterministic' (their statements: YtflnfnemhgjglaaTotals.lean).
  GIVEN WITH THE SEED: the statements are not yours to turn. If you find one false, say at which input.
  Laid BY PROGRAM, IN A SANDBOX (cutbox-rows.mjs): the forced cells as the released guide's own fill.sh prints them over the translation 25085f774800bb9d… (all of the seat's roots in one cut). By AI agents, Wed Nov 11 2026. No macro, syntax, notation, axiom, sorry.
-/
import Derived.Test.YtflnfnemhgjglaaChecked
import GoSem.Claim
import GoSem.ClaimJoined
import GoSem.ClaimMapViews
import Derived.JoinedTies
import Derived.KernelRfl
namespace Go.Proofs.Ytflnfnemhgjglaa
/- THE CELL 'sum', in the pinned program and in every row, IS THE sha256 OF THE DUMP (.gsa) THAT YtflnfnemhgjglaaProg.lean LOADS. Nothing in Lean hashes anything: it is a label: what it is worth is what the hold of that sum in a sandbox is worth. -/
noncomputable def Try.pinned : Pinned := { name := "ytflnfnemhgjglaa", sum := "25085f774800bb9d3b23ebacc201941f6c3474196dbbbd4a843d7a93fd87a7a3", checked := Try.checked }
namespace Rows
def none {H : Type} : Left H := { results := [], args := [] }

/-- 'triviumlaw15.BareissDets': WHATEVER THE INPUT: true; the input reads as it did. -/
def bareissDetsSpec : ChangeSpec := { name := "bareissDets", fn := fun _ => fun
  | [d1, d2] => { results := [.lit (.bool true)], args := [d1, d2] }
  | _ => none }
def bareissDetsRow : OpenClaim := { program := "ytflnfnemhgjglaa", sum := "25085f774800bb9d3b23ebacc201941f6c3474196dbbbd4a843d7a93fd87a7a3", func := "trivium/triviumlaw15.BareissDets", spec := "bareissDets", unfollowed := true, recurses := true, apart := false }
def BareissDetsSaid : Prop := bareissDetsRow.holds Try.pinned (OpenSpec.ofChange bareissDetsSpec)

/-- ITS FALSE NEIGHBOUR: 'it returns false'. Refute it at one input. -/
def bareissDetsWrong : ChangeSpec := { name := "bareissDets", fn := fun _ => fun
  | [d1, d2] => { results := [.lit (.bool false)], args := [d1, d2] }
  | _ => none }
def BareissDetsWrongFalsely : Prop := bareissDetsRow.holds Try.pinned (OpenSpec.ofChange bareissDetsWrong)

/-- 'triviumlaw15.BareissRows': WHATEVER THE INPUT: true; the input reads as it did. -/
def bareissRowsSpec : ChangeSpec := { name := "bareissRows", fn := fun _ => fun
  | [d1, d2, d3] => { results := [.lit (.bool true)], args := [d1, d2, d3] }
  | _ => none }
def bareissRowsRow : OpenClaim := { program := "ytflnfnemhgjglaa", sum := "25085f774800bb9d3b23ebacc201941f6c3474196dbbbd4a843d7a93fd87a7a3", func := "trivium/triviumlaw15.BareissRows", spec := "bareissRows", unfollowed := true, recurses := true, apart := false }
def BareissRowsSaid : Prop := bareissRowsRow.holds Try.pinned (OpenSpec.ofChange bareissRowsSpec)

/-- ITS FALSE NEIGHBOUR: 'it returns false'. Refute it at one input. -/
def bareissRowsWrong : ChangeSpec := { name := "bareissRows", fn := fun _ => fun
  | [d1, d2, d3] => { results := [.lit (.bool false)], args := [d1, d2, d3] }
  | _ => none }
def BareissRowsWrongFalsely : Prop := bareissRowsRow.holds Try.pinned (OpenSpec.ofChange bareissRowsWrong)

/-- 'triviumlaw15.BareissSolves': WHATEVER THE INPUT: true; the input reads as it did. -/
def bareissSolvesSpec : ChangeSpec := { name := "bareissSolves", fn := fun _ => fun
  | [d1, d2] => { results := [.lit (.bool true)], args := [d1, d2] }
  | _ => none }
def bareissSolvesRow : OpenClaim := { program := "ytflnfnemhgjglaa", sum := "25085f774800bb9d3b23ebacc201941f6c3474196dbbbd4a843d7a93fd87a7a3", func := "trivium/triviumlaw15.BareissSolves", spec := "bareissSolves", unfollowed := true, recurses := true, apart := false }
def BareissSolvesSaid : Prop := bareissSolvesRow.holds Try.pinned (OpenSpec.ofChange bareissSolvesSpec)

/-- ITS FALSE NEIGHBOUR: 'it returns false'. Refute it at one input. -/
def bareissSolvesWrong : ChangeSpec := { name := "bareissSolves", fn := fun _ => fun
  | [d1, d2] => { results := [.lit (.bool false)], args := [d1, d2] }
  | _ => none }
def BareissSolvesWrongFalsely : Prop := bareissSolvesRow.holds Try.pinned (OpenSpec.ofChange bareissSolvesWrong)

/-- 'triviumlaw15.BareissSolved': WHATEVER THE INPUT: true; the input reads as it did. -/
def bareissSolvedSpec : ChangeSpec := { name := "bareissSolved", fn := fun _ => fun
  | [d1, d2] => { results := [.lit (.bool true)], args := [d1, d2] }
  | _ => none }
def bareissSolvedRow : OpenClaim := { program := "ytflnfnemhgjglaa", sum := "25085f774800bb9d3b23ebacc201941f6c3474196dbbbd4a843d7a93fd87a7a3", func := "trivium/triviumlaw15.BareissSolved", spec := "bareissSolved", unfollowed := true, recurses := true, apart := false }
def BareissSolvedSaid : Prop := bareissSolvedRow.holds Try.pinned (OpenSpec.ofChange bareissSolvedSpec)

/-- ITS FALSE NEIGHBOUR: 'it returns false'. Refute it at one input. -/
def bareissSolvedWrong : ChangeSpec := { name := "bareissSolved", fn := fun _ => fun
  | [d1, d2] => { results := [.lit (.bool false)], args := [d1, d2] }
  | _ => none }
def BareissSolvedWrongFalsely : Prop := bareissSolvedRow.holds Try.pinned (OpenSpec.ofChange bareissSolvedWrong)

/- THE SECOND FORM. 'bulk': how many values and letters a reading holds, each counted each time it is reached (what is shared counts as often as it is met; a slice's spare places count too). A statement '..UptoSaid' is the law's where the arguments, and the package variables that the reading takes, are together of bulk at most 1048576: NARROWER than '..Said'. Prove '..Said' where nothing that the law and all that it calls make is longer than what came in: it says more and counts as full. Else prove '..UptoSaid'. A law counts once. -/
mutual
def uptoBulk {H : Type} : DataW H → Nat
  | .lit (.string bytes) => bytes.length + 1
  | .lit _ => 1
  | .nil => 1
  | .ptr d => uptoBulk d + 1
  | .slice elems spare => uptoBulkAll elems + uptoBulkAll spare + 1
  | .agg parts => uptoBulkAll parts + 1
  | .iface _ d => uptoBulk d + 1
  | .map entries => uptoBulkEntries entries + 1
  | .held _ => 1
def uptoBulkAll {H : Type} : List (DataW H) → Nat
  | [] => 0
  | d :: r => uptoBulk d + uptoBulkAll r
def uptoBulkEntries {H : Type} : List (Lit × DataW H) → Nat
  | [] => 0
  | x :: r => uptoBulkEntry x + uptoBulkEntries r
def uptoBulkEntry {H : Type} : Lit × DataW H → Nat
  | (.string bytes, d) => bytes.length + uptoBulk d + 1
  | (_, d) => uptoBulk d + 1
 end
def uptoSmall : (H : Type) → List (DataW H) → Bool := fun _ ds => decide (uptoBulkAll ds ≤ 1048576)
def OpenSpec.upto (s : _root_.Go.ChangeSpec) : _root_.Go.OpenSpec := { _root_.Go.OpenSpec.ofChange s with cond := some uptoSmall }

/-- 'triviumlaw15.BareissDets', WHERE WHAT IT READS IS OF BULK AT MOST 1048576: true; the input reads as it did. -/
def bareissDetsUptoRow : OpenClaim := { program := "ytflnfnemhgjglaa", sum := "25085f774800bb9d3b23ebacc201941f6c3474196dbbbd4a843d7a93fd87a7a3", func := "trivium/triviumlaw15.BareissDets", spec := "bareissDets", unfollowed := true, recurses := true, apart := false, narrowed := true }
def BareissDetsUptoSaid : Prop := bareissDetsUptoRow.holds Try.pinned (OpenSpec.upto bareissDetsSpec)

/-- 'triviumlaw15.BareissRows', WHERE WHAT IT READS IS OF BULK AT MOST 1048576: true; the input reads as it did. -/
def bareissRowsUptoRow : OpenClaim := { program := "ytflnfnemhgjglaa", sum := "25085f774800bb9d3b23ebacc201941f6c3474196dbbbd4a843d7a93fd87a7a3", func := "trivium/triviumlaw15.BareissRows", spec := "bareissRows", unfollowed := true, recurses := true, apart := false, narrowed := true }
def BareissRowsUptoSaid : Prop := bareissRowsUptoRow.holds Try.pinned (OpenSpec.upto bareissRowsSpec)

/-- 'triviumlaw15.BareissSolves', WHERE WHAT IT READS IS OF BULK AT MOST 1048576: true; the input reads as it did. -/
def bareissSolvesUptoRow : OpenClaim := { program := "ytflnfnemhgjglaa", sum := "25085f774800bb9d3b23ebacc201941f6c3474196dbbbd4a843d7a93fd87a7a3", func := "trivium/triviumlaw15.BareissSolves", spec := "bareissSolves", unfollowed := true, recurses := true, apart := false, narrowed := true }
def BareissSolvesUptoSaid : Prop := bareissSolvesUptoRow.holds Try.pinned (OpenSpec.upto bareissSolvesSpec)

/-- 'triviumlaw15.BareissSolved', WHERE WHAT IT READS IS OF BULK AT MOST 1048576: true; the input reads as it did. -/
def bareissSolvedUptoRow : OpenClaim := { program := "ytflnfnemhgjglaa", sum := "25085f774800bb9d3b23ebacc201941f6c3474196dbbbd4a843d7a93fd87a7a3", func := "trivium/triviumlaw15.BareissSolved", spec := "bareissSolved", unfollowed := true, recurses := true, apart := false, narrowed := true }
def BareissSolvedUptoSaid : Prop := bareissSolvedUptoRow.holds Try.pinned (OpenSpec.upto bareissSolvedSpec)

end Rows
end Go.Proofs.Ytflnfnemhgjglaa
