/-
  No cell of these rows narrows 'for every input' (looked for: loops, veiled, ifaces, maps, wideKeys, modest, calm, conditions, laid).
  DERIVED. THE GIVEN ROWS OF THIS SEAT. 11 by the template 'for every input the law returns true; each argument reads behind the call as it read before'; 0 by the template 'total and deterministic' (their statements: YtiakcfkcmfmdiaaTotals.lean).
  GIVEN WITH THE SEED: the statements are not yours to turn. If you find one false, say at which input.
  Laid BY PROGRAM, IN A SANDBOX (cutbox-rows.mjs): the forced cells as the released guide's own fill.sh prints them over the translation e6653df449cbcdaa… (all of the seat's roots in one cut). By AI agents, Wed Nov 11 2026. No macro, syntax, notation, axiom, sorry.
-/
import Derived.Test.YtiakcfkcmfmdiaaChecked
import GoSem.Claim
import GoSem.ClaimJoined
import GoSem.ClaimMapViews
import Derived.JoinedTies
import Derived.KernelRfl
namespace Go.Proofs.Ytiakcfkcmfmdiaa
/- THE CELL 'sum', in the pinned program and in every row, IS THE sha256 OF THE DUMP (.gsa) THAT YtiakcfkcmfmdiaaProg.lean LOADS. Nothing in Lean hashes anything: it is a label: what it is worth is what the hold of that sum in a sandbox is worth. -/
noncomputable def Try.pinned : Pinned := { name := "ytiakcfkcmfmdiaa", sum := "e6653df449cbcdaabbeffc16c2617ba69e8cee657942d32417a83d20ac005e88", checked := Try.checked }
namespace Rows
def none {H : Type} : Left H := { results := [], args := [] }

/-- 'triviumlaw42.ModmatDets': WHATEVER THE INPUT: true; the input reads as it did. -/
def modmatDetsSpec : ChangeSpec := { name := "modmatDets", fn := fun _ => fun
  | [d1, d2] => { results := [.lit (.bool true)], args := [d1, d2] }
  | _ => none }
def modmatDetsRow : OpenClaim := { program := "ytiakcfkcmfmdiaa", sum := "e6653df449cbcdaabbeffc16c2617ba69e8cee657942d32417a83d20ac005e88", func := "trivium/triviumlaw42.ModmatDets", spec := "modmatDets", unfollowed := true, recurses := true, apart := false }
def ModmatDetsSaid : Prop := modmatDetsRow.holds Try.pinned (OpenSpec.ofChange modmatDetsSpec)

/-- ITS FALSE NEIGHBOUR: 'it returns false'. Refute it at one input. -/
def modmatDetsWrong : ChangeSpec := { name := "modmatDets", fn := fun _ => fun
  | [d1, d2] => { results := [.lit (.bool false)], args := [d1, d2] }
  | _ => none }
def ModmatDetsWrongFalsely : Prop := modmatDetsRow.holds Try.pinned (OpenSpec.ofChange modmatDetsWrong)

/-- 'triviumlaw42.ModmatSolves': WHATEVER THE INPUT: true; the input reads as it did. -/
def modmatSolvesSpec : ChangeSpec := { name := "modmatSolves", fn := fun _ => fun
  | [d1, d2, d3] => { results := [.lit (.bool true)], args := [d1, d2, d3] }
  | _ => none }
def modmatSolvesRow : OpenClaim := { program := "ytiakcfkcmfmdiaa", sum := "e6653df449cbcdaabbeffc16c2617ba69e8cee657942d32417a83d20ac005e88", func := "trivium/triviumlaw42.ModmatSolves", spec := "modmatSolves", unfollowed := true, recurses := true, apart := false }
def ModmatSolvesSaid : Prop := modmatSolvesRow.holds Try.pinned (OpenSpec.ofChange modmatSolvesSpec)

/-- ITS FALSE NEIGHBOUR: 'it returns false'. Refute it at one input. -/
def modmatSolvesWrong : ChangeSpec := { name := "modmatSolves", fn := fun _ => fun
  | [d1, d2, d3] => { results := [.lit (.bool false)], args := [d1, d2, d3] }
  | _ => none }
def ModmatSolvesWrongFalsely : Prop := modmatSolvesRow.holds Try.pinned (OpenSpec.ofChange modmatSolvesWrong)

/-- 'triviumlaw42.ModmatSolved': WHATEVER THE INPUT: true; the input reads as it did. -/
def modmatSolvedSpec : ChangeSpec := { name := "modmatSolved", fn := fun _ => fun
  | [d1, d2, d3] => { results := [.lit (.bool true)], args := [d1, d2, d3] }
  | _ => none }
def modmatSolvedRow : OpenClaim := { program := "ytiakcfkcmfmdiaa", sum := "e6653df449cbcdaabbeffc16c2617ba69e8cee657942d32417a83d20ac005e88", func := "trivium/triviumlaw42.ModmatSolved", spec := "modmatSolved", unfollowed := true, recurses := true, apart := false }
def ModmatSolvedSaid : Prop := modmatSolvedRow.holds Try.pinned (OpenSpec.ofChange modmatSolvedSpec)

/-- ITS FALSE NEIGHBOUR: 'it returns false'. Refute it at one input. -/
def modmatSolvedWrong : ChangeSpec := { name := "modmatSolved", fn := fun _ => fun
  | [d1, d2, d3] => { results := [.lit (.bool false)], args := [d1, d2, d3] }
  | _ => none }
def ModmatSolvedWrongFalsely : Prop := modmatSolvedRow.holds Try.pinned (OpenSpec.ofChange modmatSolvedWrong)

/-- 'triviumlaw04.DivideSmalls': WHATEVER THE INPUT: true; the input reads as it did. -/
def divideSmallsSpec : ChangeSpec := { name := "divideSmalls", fn := fun _ => fun
  | [d1, d2] => { results := [.lit (.bool true)], args := [d1, d2] }
  | _ => none }
def divideSmallsRow : OpenClaim := { program := "ytiakcfkcmfmdiaa", sum := "e6653df449cbcdaabbeffc16c2617ba69e8cee657942d32417a83d20ac005e88", func := "trivium/triviumlaw04.DivideSmalls", spec := "divideSmalls", recurses := true, apart := false }
def DivideSmallsSaid : Prop := divideSmallsRow.holds Try.pinned (OpenSpec.ofChange divideSmallsSpec)

/-- ITS FALSE NEIGHBOUR: 'it returns false'. Refute it at one input. -/
def divideSmallsWrong : ChangeSpec := { name := "divideSmalls", fn := fun _ => fun
  | [d1, d2] => { results := [.lit (.bool false)], args := [d1, d2] }
  | _ => none }
def DivideSmallsWrongFalsely : Prop := divideSmallsRow.holds Try.pinned (OpenSpec.ofChange divideSmallsWrong)

/-- 'triviumlaw05.GcdMany': WHATEVER THE INPUT: true; the input reads as it did. -/
def gcdManySpec : ChangeSpec := { name := "gcdMany", fn := fun _ => fun
  | [d] => { results := [.lit (.bool true)], args := [d] }
  | _ => none }
def gcdManyRow : OpenClaim := { program := "ytiakcfkcmfmdiaa", sum := "e6653df449cbcdaabbeffc16c2617ba69e8cee657942d32417a83d20ac005e88", func := "trivium/triviumlaw05.GcdMany", spec := "gcdMany", apart := false }
def GcdManySaid : Prop := gcdManyRow.holds Try.pinned (OpenSpec.ofChange gcdManySpec)

/-- ITS FALSE NEIGHBOUR: 'it returns false'. Refute it at one input. -/
def gcdManyWrong : ChangeSpec := { name := "gcdMany", fn := fun _ => fun
  | [d] => { results := [.lit (.bool false)], args := [d] }
  | _ => none }
def GcdManyWrongFalsely : Prop := gcdManyRow.holds Try.pinned (OpenSpec.ofChange gcdManyWrong)

/-- 'triviumlaw04.DivideWhole': WHATEVER THE INPUT: true; the input reads as it did. -/
def divideWholeSpec : ChangeSpec := { name := "divideWhole", fn := fun _ => fun
  | [d1, d2] => { results := [.lit (.bool true)], args := [d1, d2] }
  | _ => none }
def divideWholeRow : OpenClaim := { program := "ytiakcfkcmfmdiaa", sum := "e6653df449cbcdaabbeffc16c2617ba69e8cee657942d32417a83d20ac005e88", func := "trivium/triviumlaw04.DivideWhole", spec := "divideWhole", recurses := true, apart := false }
def DivideWholeSaid : Prop := divideWholeRow.holds Try.pinned (OpenSpec.ofChange divideWholeSpec)

/-- ITS FALSE NEIGHBOUR: 'it returns false'. Refute it at one input. -/
def divideWholeWrong : ChangeSpec := { name := "divideWhole", fn := fun _ => fun
  | [d1, d2] => { results := [.lit (.bool false)], args := [d1, d2] }
  | _ => none }
def DivideWholeWrongFalsely : Prop := divideWholeRow.holds Try.pinned (OpenSpec.ofChange divideWholeWrong)

/-- 'triviumlaw04.DivideExacts': WHATEVER THE INPUT: true; the input reads as it did. -/
def divideExactsSpec : ChangeSpec := { name := "divideExacts", fn := fun _ => fun
  | [d1, d2] => { results := [.lit (.bool true)], args := [d1, d2] }
  | _ => none }
def divideExactsRow : OpenClaim := { program := "ytiakcfkcmfmdiaa", sum := "e6653df449cbcdaabbeffc16c2617ba69e8cee657942d32417a83d20ac005e88", func := "trivium/triviumlaw04.DivideExacts", spec := "divideExacts", recurses := true, apart := false }
def DivideExactsSaid : Prop := divideExactsRow.holds Try.pinned (OpenSpec.ofChange divideExactsSpec)

/-- ITS FALSE NEIGHBOUR: 'it returns false'. Refute it at one input. -/
def divideExactsWrong : ChangeSpec := { name := "divideExacts", fn := fun _ => fun
  | [d1, d2] => { results := [.lit (.bool false)], args := [d1, d2] }
  | _ => none }
def DivideExactsWrongFalsely : Prop := divideExactsRow.holds Try.pinned (OpenSpec.ofChange divideExactsWrong)

/-- 'triviumlaw04.DivideDivs': WHATEVER THE INPUT: true; the input reads as it did. -/
def divideDivsSpec : ChangeSpec := { name := "divideDivs", fn := fun _ => fun
  | [d1, d2] => { results := [.lit (.bool true)], args := [d1, d2] }
  | _ => none }
def divideDivsRow : OpenClaim := { program := "ytiakcfkcmfmdiaa", sum := "e6653df449cbcdaabbeffc16c2617ba69e8cee657942d32417a83d20ac005e88", func := "trivium/triviumlaw04.DivideDivs", spec := "divideDivs", recurses := true, apart := false }
def DivideDivsSaid : Prop := divideDivsRow.holds Try.pinned (OpenSpec.ofChange divideDivsSpec)

/-- ITS FALSE NEIGHBOUR: 'it returns false'. Refute it at one input. -/
def divideDivsWrong : ChangeSpec := { name := "divideDivs", fn := fun _ => fun
  | [d1, d2] => { results := [.lit (.bool false)], args := [d1, d2] }
  | _ => none }
def DivideDivsWrongFalsely : Prop := divideDivsRow.holds Try.pinned (OpenSpec.ofChange divideDivsWrong)

/-- 'triviumlaw41.CrtRoots': WHATEVER THE INPUT: true; the input reads as it did. -/
def crtRootsSpec : ChangeSpec := { name := "crtRoots", fn := fun _ => fun
  | [d] => { results := [.lit (.bool true)], args := [d] }
  | _ => none }
def crtRootsRow : OpenClaim := { program := "ytiakcfkcmfmdiaa", sum := "e6653df449cbcdaabbeffc16c2617ba69e8cee657942d32417a83d20ac005e88", func := "trivium/triviumlaw41.CrtRoots", spec := "crtRoots", recurses := true, apart := false }
def CrtRootsSaid : Prop := crtRootsRow.holds Try.pinned (OpenSpec.ofChange crtRootsSpec)

/-- ITS FALSE NEIGHBOUR: 'it returns false'. Refute it at one input. -/
def crtRootsWrong : ChangeSpec := { name := "crtRoots", fn := fun _ => fun
  | [d] => { results := [.lit (.bool false)], args := [d] }
  | _ => none }
def CrtRootsWrongFalsely : Prop := crtRootsRow.holds Try.pinned (OpenSpec.ofChange crtRootsWrong)

/-- 'triviumlaw41.CrtBack': WHATEVER THE INPUT: true; the input reads as it did. -/
def crtBackSpec : ChangeSpec := { name := "crtBack", fn := fun _ => fun
  | [d1, d2, d3] => { results := [.lit (.bool true)], args := [d1, d2, d3] }
  | _ => none }
def crtBackRow : OpenClaim := { program := "ytiakcfkcmfmdiaa", sum := "e6653df449cbcdaabbeffc16c2617ba69e8cee657942d32417a83d20ac005e88", func := "trivium/triviumlaw41.CrtBack", spec := "crtBack", recurses := true, apart := false }
def CrtBackSaid : Prop := crtBackRow.holds Try.pinned (OpenSpec.ofChange crtBackSpec)

/-- ITS FALSE NEIGHBOUR: 'it returns false'. Refute it at one input. -/
def crtBackWrong : ChangeSpec := { name := "crtBack", fn := fun _ => fun
  | [d1, d2, d3] => { results := [.lit (.bool false)], args := [d1, d2, d3] }
  | _ => none }
def CrtBackWrongFalsely : Prop := crtBackRow.holds Try.pinned (OpenSpec.ofChange crtBackWrong)

/-- 'triviumlaw41.CrtRests': WHATEVER THE INPUT: true; the input reads as it did. -/
def crtRestsSpec : ChangeSpec := { name := "crtRests", fn := fun _ => fun
  | [d1, d2, d3, d4] => { results := [.lit (.bool true)], args := [d1, d2, d3, d4] }
  | _ => none }
def crtRestsRow : OpenClaim := { program := "ytiakcfkcmfmdiaa", sum := "e6653df449cbcdaabbeffc16c2617ba69e8cee657942d32417a83d20ac005e88", func := "trivium/triviumlaw41.CrtRests", spec := "crtRests", recurses := true, apart := false }
def CrtRestsSaid : Prop := crtRestsRow.holds Try.pinned (OpenSpec.ofChange crtRestsSpec)

/-- ITS FALSE NEIGHBOUR: 'it returns false'. Refute it at one input. -/
def crtRestsWrong : ChangeSpec := { name := "crtRests", fn := fun _ => fun
  | [d1, d2, d3, d4] => { results := [.lit (.bool false)], args := [d1, d2, d3, d4] }
  | _ => none }
def CrtRestsWrongFalsely : Prop := crtRestsRow.holds Try.pinned (OpenSpec.ofChange crtRestsWrong)

/- THE SECOND FORM. 'bulk': how many values and letters a reading holds, each counted each time it is reached (what is shared counts as often as it is met; a slice's spare places count too). A statement '..UptoSaid' is the law's where the arguments, and the package variables that the reading takes, are together of bulk at most 1048576: NARROWER than '..Said'. Prove '..Said' where nothing that the law and all that it calls make is longer than what came in: it says more and counts as full. Else prove '..UptoSaid'. A law counts once. -/
mutual
def uptoBulk {H : Type} : DataW H → Nat
  | .lit (.string bytes) => bytes.length + 1
  | .lit _ => 1
  | .nil => 1
  | .ptr d => uptoBulk d + 1
  | .slice elems spare => uptoBulkAll elems + uptoBulkAll spare + 1
  | .agg parts => uptoBulkAll parts + 1
  | .iface _ d => uptoBulk d + 1
  | .map entries => uptoBulkEntries entries + 1
  | .held _ => 1
def uptoBulkAll {H : Type} : List (DataW H) → Nat
  | [] => 0
  | d :: r => uptoBulk d + uptoBulkAll r
def uptoBulkEntries {H : Type} : List (Lit × DataW H) → Nat
  | [] => 0
  | x :: r => uptoBulkEntry x + uptoBulkEntries r
def uptoBulkEntry {H : Type} : Lit × DataW H → Nat
  | (.string bytes, d) => bytes.length + uptoBulk d + 1
  | (_, d) => uptoBulk d + 1
 end
def uptoSmall : (H : Type) → List (DataW H) → Bool := fun _ ds => decide (uptoBulkAll ds ≤ 1048576)
def OpenSpec.upto (s : _root_.Go.ChangeSpec) : _root_.Go.OpenSpec := { _root_.Go.OpenSpec.ofChange s with cond := some uptoSmall }

/-- 'triviumlaw42.ModmatDets', WHERE WHAT IT READS IS OF BULK AT MOST 1048576: true; the input reads as it did. -/
def modmatDetsUptoRow : OpenClaim := { program := "ytiakcfkcmfmdiaa", sum := "e6653df449cbcdaabbeffc16c2617ba69e8cee657942d32417a83d20ac005e88", func := "trivium/triviumlaw42.ModmatDets", spec := "modmatDets", unfollowed := true, recurses := true, apart := false, narrowed := true }
def ModmatDetsUptoSaid : Prop := modmatDetsUptoRow.holds Try.pinned (OpenSpec.upto modmatDetsSpec)

/-- 'triviumlaw42.ModmatSolves', WHERE WHAT IT READS IS OF BULK AT MOST 1048576: true; the input reads as it did. -/
def modmatSolvesUptoRow : OpenClaim := { program := "ytiakcfkcmfmdiaa", sum := "e6653df449cbcdaabbeffc16c2617ba69e8cee657942d32417a83d20ac005e88", func := "trivium/triviumlaw42.ModmatSolves", spec := "modmatSolves", unfollowed := true, recurses := true, apart := false, narrowed := true }
def ModmatSolvesUptoSaid : Prop := modmatSolvesUptoRow.holds Try.pinned (OpenSpec.upto modmatSolvesSpec)

/-- 'triviumlaw42.ModmatSolved', WHERE WHAT IT READS IS OF BULK AT MOST 1048576: true; the input reads as it did. -/
def modmatSolvedUptoRow : OpenClaim := { program := "ytiakcfkcmfmdiaa", sum := "e6653df449cbcdaabbeffc16c2617ba69e8cee657942d32417a83d20ac005e88", func := "trivium/triviumlaw42.ModmatSolved", spec := "modmatSolved", unfollowed := true, recurses := true, apart := false, narrowed := true }
def ModmatSolvedUptoSaid : Prop := modmatSolvedUptoRow.holds Try.pinned (OpenSpec.upto modmatSolvedSpec)

/-- 'triviumlaw04.DivideSmalls', WHERE WHAT IT READS IS OF BULK AT MOST 1048576: true; the input reads as it did. -/
def divideSmallsUptoRow : OpenClaim := { program := "ytiakcfkcmfmdiaa", sum := "e6653df449cbcdaabbeffc16c2617ba69e8cee657942d32417a83d20ac005e88", func := "trivium/triviumlaw04.DivideSmalls", spec := "divideSmalls", recurses := true, apart := false, narrowed := true }
def DivideSmallsUptoSaid : Prop := divideSmallsUptoRow.holds Try.pinned (OpenSpec.upto divideSmallsSpec)

/-- 'triviumlaw05.GcdMany', WHERE WHAT IT READS IS OF BULK AT MOST 1048576: true; the input reads as it did. -/
def gcdManyUptoRow : OpenClaim := { program := "ytiakcfkcmfmdiaa", sum := "e6653df449cbcdaabbeffc16c2617ba69e8cee657942d32417a83d20ac005e88", func := "trivium/triviumlaw05.GcdMany", spec := "gcdMany", apart := false, narrowed := true }
def GcdManyUptoSaid : Prop := gcdManyUptoRow.holds Try.pinned (OpenSpec.upto gcdManySpec)

/-- 'triviumlaw04.DivideWhole', WHERE WHAT IT READS IS OF BULK AT MOST 1048576: true; the input reads as it did. -/
def divideWholeUptoRow : OpenClaim := { program := "ytiakcfkcmfmdiaa", sum := "e6653df449cbcdaabbeffc16c2617ba69e8cee657942d32417a83d20ac005e88", func := "trivium/triviumlaw04.DivideWhole", spec := "divideWhole", recurses := true, apart := false, narrowed := true }
def DivideWholeUptoSaid : Prop := divideWholeUptoRow.holds Try.pinned (OpenSpec.upto divideWholeSpec)

/-- 'triviumlaw04.DivideExacts', WHERE WHAT IT READS IS OF BULK AT MOST 1048576: true; the input reads as it did. -/
def divideExactsUptoRow : OpenClaim := { program := "ytiakcfkcmfmdiaa", sum := "e6653df449cbcdaabbeffc16c2617ba69e8cee657942d32417a83d20ac005e88", func := "trivium/triviumlaw04.DivideExacts", spec := "divideExacts", recurses := true, apart := false, narrowed := true }
def DivideExactsUptoSaid : Prop := divideExactsUptoRow.holds Try.pinned (OpenSpec.upto divideExactsSpec)

/-- 'triviumlaw04.DivideDivs', WHERE WHAT IT READS IS OF BULK AT MOST 1048576: true; the input reads as it did. -/
def divideDivsUptoRow : OpenClaim := { program := "ytiakcfkcmfmdiaa", sum := "e6653df449cbcdaabbeffc16c2617ba69e8cee657942d32417a83d20ac005e88", func := "trivium/triviumlaw04.DivideDivs", spec := "divideDivs", recurses := true, apart := false, narrowed := true }
def DivideDivsUptoSaid : Prop := divideDivsUptoRow.holds Try.pinned (OpenSpec.upto divideDivsSpec)

/-- 'triviumlaw41.CrtRoots', WHERE WHAT IT READS IS OF BULK AT MOST 1048576: true; the input reads as it did. -/
def crtRootsUptoRow : OpenClaim := { program := "ytiakcfkcmfmdiaa", sum := "e6653df449cbcdaabbeffc16c2617ba69e8cee657942d32417a83d20ac005e88", func := "trivium/triviumlaw41.CrtRoots", spec := "crtRoots", recurses := true, apart := false, narrowed := true }
def CrtRootsUptoSaid : Prop := crtRootsUptoRow.holds Try.pinned (OpenSpec.upto crtRootsSpec)

/-- 'triviumlaw41.CrtBack', WHERE WHAT IT READS IS OF BULK AT MOST 1048576: true; the input reads as it did. -/
def crtBackUptoRow : OpenClaim := { program := "ytiakcfkcmfmdiaa", sum := "e6653df449cbcdaabbeffc16c2617ba69e8cee657942d32417a83d20ac005e88", func := "trivium/triviumlaw41.CrtBack", spec := "crtBack", recurses := true, apart := false, narrowed := true }
def CrtBackUptoSaid : Prop := crtBackUptoRow.holds Try.pinned (OpenSpec.upto crtBackSpec)

/-- 'triviumlaw41.CrtRests', WHERE WHAT IT READS IS OF BULK AT MOST 1048576: true; the input reads as it did. -/
def crtRestsUptoRow : OpenClaim := { program := "ytiakcfkcmfmdiaa", sum := "e6653df449cbcdaabbeffc16c2617ba69e8cee657942d32417a83d20ac005e88", func := "trivium/triviumlaw41.CrtRests", spec := "crtRests", recurses := true, apart := false, narrowed := true }
def CrtRestsUptoSaid : Prop := crtRestsUptoRow.holds Try.pinned (OpenSpec.upto crtRestsSpec)

end Rows
end Go.Proofs.Ytiakcfkcmfmdiaa
