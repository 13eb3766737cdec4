/-
  No cell of these rows narrows 'for every input' (looked for: loops, veiled, ifaces, maps, wideKeys, modest, calm, conditions, laid).
  DERIVED. THE GIVEN ROWS OF THIS SEAT. 12 by the template 'for every input the law returns true; each argument reads behind the call as it read before'; 0 by the template 'total and deterministic' (their statements: YtpjephicbiiamaaTotals.lean).
  GIVEN WITH THE SEED: the statements are not yours to turn. If you find one false, say at which input.
  Laid BY PROGRAM, IN A SANDBOX (cutbox-rows.mjs): the forced cells as the released guide's own fill.sh prints them over the translation d10ad58191355f4a… (all of the seat's roots in one cut). By AI agents, Wed Nov 11 2026. No macro, syntax, notation, axiom, sorry.
-/
import Derived.Test.YtpjephicbiiamaaChecked
import GoSem.Claim
import GoSem.ClaimJoined
import GoSem.ClaimMapViews
import Derived.JoinedTies
import Derived.KernelRfl
namespace Go.Proofs.Ytpjephicbiiamaa
/- THE CELL 'sum', in the pinned program and in every row, IS THE sha256 OF THE DUMP (.gsa) THAT YtpjephicbiiamaaProg.lean LOADS. Nothing in Lean hashes anything: it is a label: what it is worth is what the hold of that sum in a sandbox is worth. -/
noncomputable def Try.pinned : Pinned := { name := "ytpjephicbiiamaa", sum := "d10ad58191355f4a97d28728c271290d65f7b773beaf721f9ed9564e28ce0800", checked := Try.checked }
namespace Rows
def none {H : Type} : Left H := { results := [], args := [] }

/-- 'triviumlaw02.NatSubs': WHATEVER THE INPUT: true; the input reads as it did. -/
def natSubsSpec : ChangeSpec := { name := "natSubs", fn := fun _ => fun
  | [d1, d2] => { results := [.lit (.bool true)], args := [d1, d2] }
  | _ => none }
def natSubsRow : OpenClaim := { program := "ytpjephicbiiamaa", sum := "d10ad58191355f4a97d28728c271290d65f7b773beaf721f9ed9564e28ce0800", func := "trivium/triviumlaw02.NatSubs", spec := "natSubs", apart := false }
def NatSubsSaid : Prop := natSubsRow.holds Try.pinned (OpenSpec.ofChange natSubsSpec)

/-- ITS FALSE NEIGHBOUR: 'it returns false'. Refute it at one input. -/
def natSubsWrong : ChangeSpec := { name := "natSubs", fn := fun _ => fun
  | [d1, d2] => { results := [.lit (.bool false)], args := [d1, d2] }
  | _ => none }
def NatSubsWrongFalsely : Prop := natSubsRow.holds Try.pinned (OpenSpec.ofChange natSubsWrong)

/-- 'triviumlaw02.NatOrder': WHATEVER THE INPUT: true; the input reads as it did. -/
def natOrderSpec : ChangeSpec := { name := "natOrder", fn := fun _ => fun
  | [d1, d2, d3] => { results := [.lit (.bool true)], args := [d1, d2, d3] }
  | _ => none }
def natOrderRow : OpenClaim := { program := "ytpjephicbiiamaa", sum := "d10ad58191355f4a97d28728c271290d65f7b773beaf721f9ed9564e28ce0800", func := "trivium/triviumlaw02.NatOrder", spec := "natOrder", apart := false }
def NatOrderSaid : Prop := natOrderRow.holds Try.pinned (OpenSpec.ofChange natOrderSpec)

/-- ITS FALSE NEIGHBOUR: 'it returns false'. Refute it at one input. -/
def natOrderWrong : ChangeSpec := { name := "natOrder", fn := fun _ => fun
  | [d1, d2, d3] => { results := [.lit (.bool false)], args := [d1, d2, d3] }
  | _ => none }
def NatOrderWrongFalsely : Prop := natOrderRow.holds Try.pinned (OpenSpec.ofChange natOrderWrong)

/-- 'triviumlaw02.NatAdds': WHATEVER THE INPUT: true; the input reads as it did. -/
def natAddsSpec : ChangeSpec := { name := "natAdds", fn := fun _ => fun
  | [d1, d2, d3] => { results := [.lit (.bool true)], args := [d1, d2, d3] }
  | _ => none }
def natAddsRow : OpenClaim := { program := "ytpjephicbiiamaa", sum := "d10ad58191355f4a97d28728c271290d65f7b773beaf721f9ed9564e28ce0800", func := "trivium/triviumlaw02.NatAdds", spec := "natAdds", apart := false }
def NatAddsSaid : Prop := natAddsRow.holds Try.pinned (OpenSpec.ofChange natAddsSpec)

/-- ITS FALSE NEIGHBOUR: 'it returns false'. Refute it at one input. -/
def natAddsWrong : ChangeSpec := { name := "natAdds", fn := fun _ => fun
  | [d1, d2, d3] => { results := [.lit (.bool false)], args := [d1, d2, d3] }
  | _ => none }
def NatAddsWrongFalsely : Prop := natAddsRow.holds Try.pinned (OpenSpec.ofChange natAddsWrong)

/-- 'triviumlaw26.TrieFinds': WHATEVER THE INPUT: true; the input reads as it did. -/
def trieFindsSpec : ChangeSpec := { name := "trieFinds", fn := fun _ => fun
  | [d1, d2] => { results := [.lit (.bool true)], args := [d1, d2] }
  | _ => none }
def trieFindsRow : OpenClaim := { program := "ytpjephicbiiamaa", sum := "d10ad58191355f4a97d28728c271290d65f7b773beaf721f9ed9564e28ce0800", func := "trivium/triviumlaw26.TrieFinds", spec := "trieFinds", unfollowed := true, recurses := true, apart := false }
def TrieFindsSaid : Prop := trieFindsRow.holds Try.pinned (OpenSpec.ofChange trieFindsSpec)

/-- ITS FALSE NEIGHBOUR: 'it returns false'. Refute it at one input. -/
def trieFindsWrong : ChangeSpec := { name := "trieFinds", fn := fun _ => fun
  | [d1, d2] => { results := [.lit (.bool false)], args := [d1, d2] }
  | _ => none }
def TrieFindsWrongFalsely : Prop := trieFindsRow.holds Try.pinned (OpenSpec.ofChange trieFindsWrong)

/-- 'triviumlaw40.ModpPrimes': WHATEVER THE INPUT: true; the input reads as it did. -/
def modpPrimesSpec : ChangeSpec := { name := "modpPrimes", fn := fun _ => fun
  | [d] => { results := [.lit (.bool true)], args := [d] }
  | _ => none }
def modpPrimesRow : OpenClaim := { program := "ytpjephicbiiamaa", sum := "d10ad58191355f4a97d28728c271290d65f7b773beaf721f9ed9564e28ce0800", func := "trivium/triviumlaw40.ModpPrimes", spec := "modpPrimes", apart := false }
def ModpPrimesSaid : Prop := modpPrimesRow.holds Try.pinned (OpenSpec.ofChange modpPrimesSpec)

/-- ITS FALSE NEIGHBOUR: 'it returns false'. Refute it at one input. -/
def modpPrimesWrong : ChangeSpec := { name := "modpPrimes", fn := fun _ => fun
  | [d] => { results := [.lit (.bool false)], args := [d] }
  | _ => none }
def ModpPrimesWrongFalsely : Prop := modpPrimesRow.holds Try.pinned (OpenSpec.ofChange modpPrimesWrong)

/-- 'triviumlaw40.ModpBelow': WHATEVER THE INPUT: true; the input reads as it did. -/
def modpBelowSpec : ChangeSpec := { name := "modpBelow", fn := fun _ => fun
  | [d] => { results := [.lit (.bool true)], args := [d] }
  | _ => none }
def modpBelowRow : OpenClaim := { program := "ytpjephicbiiamaa", sum := "d10ad58191355f4a97d28728c271290d65f7b773beaf721f9ed9564e28ce0800", func := "trivium/triviumlaw40.ModpBelow", spec := "modpBelow", apart := false }
def ModpBelowSaid : Prop := modpBelowRow.holds Try.pinned (OpenSpec.ofChange modpBelowSpec)

/-- ITS FALSE NEIGHBOUR: 'it returns false'. Refute it at one input. -/
def modpBelowWrong : ChangeSpec := { name := "modpBelow", fn := fun _ => fun
  | [d] => { results := [.lit (.bool false)], args := [d] }
  | _ => none }
def ModpBelowWrongFalsely : Prop := modpBelowRow.holds Try.pinned (OpenSpec.ofChange modpBelowWrong)

/-- 'triviumlaw40.ModpInverses': WHATEVER THE INPUT: true; the input reads as it did. -/
def modpInversesSpec : ChangeSpec := { name := "modpInverses", fn := fun _ => fun
  | [d1, d2] => { results := [.lit (.bool true)], args := [d1, d2] }
  | _ => none }
def modpInversesRow : OpenClaim := { program := "ytpjephicbiiamaa", sum := "d10ad58191355f4a97d28728c271290d65f7b773beaf721f9ed9564e28ce0800", func := "trivium/triviumlaw40.ModpInverses", spec := "modpInverses", apart := false }
def ModpInversesSaid : Prop := modpInversesRow.holds Try.pinned (OpenSpec.ofChange modpInversesSpec)

/-- ITS FALSE NEIGHBOUR: 'it returns false'. Refute it at one input. -/
def modpInversesWrong : ChangeSpec := { name := "modpInverses", fn := fun _ => fun
  | [d1, d2] => { results := [.lit (.bool false)], args := [d1, d2] }
  | _ => none }
def ModpInversesWrongFalsely : Prop := modpInversesRow.holds Try.pinned (OpenSpec.ofChange modpInversesWrong)

/-- 'triviumlaw40.ModpFermat': WHATEVER THE INPUT: true; the input reads as it did. -/
def modpFermatSpec : ChangeSpec := { name := "modpFermat", fn := fun _ => fun
  | [d1, d2] => { results := [.lit (.bool true)], args := [d1, d2] }
  | _ => none }
def modpFermatRow : OpenClaim := { program := "ytpjephicbiiamaa", sum := "d10ad58191355f4a97d28728c271290d65f7b773beaf721f9ed9564e28ce0800", func := "trivium/triviumlaw40.ModpFermat", spec := "modpFermat", apart := false }
def ModpFermatSaid : Prop := modpFermatRow.holds Try.pinned (OpenSpec.ofChange modpFermatSpec)

/-- ITS FALSE NEIGHBOUR: 'it returns false'. Refute it at one input. -/
def modpFermatWrong : ChangeSpec := { name := "modpFermat", fn := fun _ => fun
  | [d1, d2] => { results := [.lit (.bool false)], args := [d1, d2] }
  | _ => none }
def ModpFermatWrongFalsely : Prop := modpFermatRow.holds Try.pinned (OpenSpec.ofChange modpFermatWrong)

/-- 'triviumlaw02.NatMakes': WHATEVER THE INPUT: true; the input reads as it did. -/
def natMakesSpec : ChangeSpec := { name := "natMakes", fn := fun _ => fun
  | [d1, d2] => { results := [.lit (.bool true)], args := [d1, d2] }
  | _ => none }
def natMakesRow : OpenClaim := { program := "ytpjephicbiiamaa", sum := "d10ad58191355f4a97d28728c271290d65f7b773beaf721f9ed9564e28ce0800", func := "trivium/triviumlaw02.NatMakes", spec := "natMakes", apart := false }
def NatMakesSaid : Prop := natMakesRow.holds Try.pinned (OpenSpec.ofChange natMakesSpec)

/-- ITS FALSE NEIGHBOUR: 'it returns false'. Refute it at one input. -/
def natMakesWrong : ChangeSpec := { name := "natMakes", fn := fun _ => fun
  | [d1, d2] => { results := [.lit (.bool false)], args := [d1, d2] }
  | _ => none }
def NatMakesWrongFalsely : Prop := natMakesRow.holds Try.pinned (OpenSpec.ofChange natMakesWrong)

/-- 'triviumlaw40.ModpSums': WHATEVER THE INPUT: true; the input reads as it did. -/
def modpSumsSpec : ChangeSpec := { name := "modpSums", fn := fun _ => fun
  | [d1, d2, d3, d4] => { results := [.lit (.bool true)], args := [d1, d2, d3, d4] }
  | _ => none }
def modpSumsRow : OpenClaim := { program := "ytpjephicbiiamaa", sum := "d10ad58191355f4a97d28728c271290d65f7b773beaf721f9ed9564e28ce0800", func := "trivium/triviumlaw40.ModpSums", spec := "modpSums", recurses := true, apart := false }
def ModpSumsSaid : Prop := modpSumsRow.holds Try.pinned (OpenSpec.ofChange modpSumsSpec)

/-- ITS FALSE NEIGHBOUR: 'it returns false'. Refute it at one input. -/
def modpSumsWrong : ChangeSpec := { name := "modpSums", fn := fun _ => fun
  | [d1, d2, d3, d4] => { results := [.lit (.bool false)], args := [d1, d2, d3, d4] }
  | _ => none }
def ModpSumsWrongFalsely : Prop := modpSumsRow.holds Try.pinned (OpenSpec.ofChange modpSumsWrong)

/-- 'triviumlaw02.NatShifts': WHATEVER THE INPUT: true; the input reads as it did. -/
def natShiftsSpec : ChangeSpec := { name := "natShifts", fn := fun _ => fun
  | [d1, d2] => { results := [.lit (.bool true)], args := [d1, d2] }
  | _ => none }
def natShiftsRow : OpenClaim := { program := "ytpjephicbiiamaa", sum := "d10ad58191355f4a97d28728c271290d65f7b773beaf721f9ed9564e28ce0800", func := "trivium/triviumlaw02.NatShifts", spec := "natShifts", apart := false }
def NatShiftsSaid : Prop := natShiftsRow.holds Try.pinned (OpenSpec.ofChange natShiftsSpec)

/-- ITS FALSE NEIGHBOUR: 'it returns false'. Refute it at one input. -/
def natShiftsWrong : ChangeSpec := { name := "natShifts", fn := fun _ => fun
  | [d1, d2] => { results := [.lit (.bool false)], args := [d1, d2] }
  | _ => none }
def NatShiftsWrongFalsely : Prop := natShiftsRow.holds Try.pinned (OpenSpec.ofChange natShiftsWrong)

/-- 'triviumlaw02.NatBack': WHATEVER THE INPUT: true; the input reads as it did. -/
def natBackSpec : ChangeSpec := { name := "natBack", fn := fun _ => fun
  | [d1, d2, d3] => { results := [.lit (.bool true)], args := [d1, d2, d3] }
  | _ => none }
def natBackRow : OpenClaim := { program := "ytpjephicbiiamaa", sum := "d10ad58191355f4a97d28728c271290d65f7b773beaf721f9ed9564e28ce0800", func := "trivium/triviumlaw02.NatBack", spec := "natBack", apart := false }
def NatBackSaid : Prop := natBackRow.holds Try.pinned (OpenSpec.ofChange natBackSpec)

/-- ITS FALSE NEIGHBOUR: 'it returns false'. Refute it at one input. -/
def natBackWrong : ChangeSpec := { name := "natBack", fn := fun _ => fun
  | [d1, d2, d3] => { results := [.lit (.bool false)], args := [d1, d2, d3] }
  | _ => none }
def NatBackWrongFalsely : Prop := natBackRow.holds Try.pinned (OpenSpec.ofChange natBackWrong)

/- THE SECOND FORM. 'bulk': how many values and letters a reading holds, each counted each time it is reached (what is shared counts as often as it is met; a slice's spare places count too). A statement '..UptoSaid' is the law's where the arguments, and the package variables that the reading takes, are together of bulk at most 1048576: NARROWER than '..Said'. Prove '..Said' where nothing that the law and all that it calls make is longer than what came in: it says more and counts as full. Else prove '..UptoSaid'. A law counts once. -/
mutual
def uptoBulk {H : Type} : DataW H → Nat
  | .lit (.string bytes) => bytes.length + 1
  | .lit _ => 1
  | .nil => 1
  | .ptr d => uptoBulk d + 1
  | .slice elems spare => uptoBulkAll elems + uptoBulkAll spare + 1
  | .agg parts => uptoBulkAll parts + 1
  | .iface _ d => uptoBulk d + 1
  | .map entries => uptoBulkEntries entries + 1
  | .held _ => 1
def uptoBulkAll {H : Type} : List (DataW H) → Nat
  | [] => 0
  | d :: r => uptoBulk d + uptoBulkAll r
def uptoBulkEntries {H : Type} : List (Lit × DataW H) → Nat
  | [] => 0
  | x :: r => uptoBulkEntry x + uptoBulkEntries r
def uptoBulkEntry {H : Type} : Lit × DataW H → Nat
  | (.string bytes, d) => bytes.length + uptoBulk d + 1
  | (_, d) => uptoBulk d + 1
 end
def uptoSmall : (H : Type) → List (DataW H) → Bool := fun _ ds => decide (uptoBulkAll ds ≤ 1048576)
def OpenSpec.upto (s : _root_.Go.ChangeSpec) : _root_.Go.OpenSpec := { _root_.Go.OpenSpec.ofChange s with cond := some uptoSmall }

/-- 'triviumlaw02.NatSubs', WHERE WHAT IT READS IS OF BULK AT MOST 1048576: true; the input reads as it did. -/
def natSubsUptoRow : OpenClaim := { program := "ytpjephicbiiamaa", sum := "d10ad58191355f4a97d28728c271290d65f7b773beaf721f9ed9564e28ce0800", func := "trivium/triviumlaw02.NatSubs", spec := "natSubs", apart := false, narrowed := true }
def NatSubsUptoSaid : Prop := natSubsUptoRow.holds Try.pinned (OpenSpec.upto natSubsSpec)

/-- 'triviumlaw02.NatOrder', WHERE WHAT IT READS IS OF BULK AT MOST 1048576: true; the input reads as it did. -/
def natOrderUptoRow : OpenClaim := { program := "ytpjephicbiiamaa", sum := "d10ad58191355f4a97d28728c271290d65f7b773beaf721f9ed9564e28ce0800", func := "trivium/triviumlaw02.NatOrder", spec := "natOrder", apart := false, narrowed := true }
def NatOrderUptoSaid : Prop := natOrderUptoRow.holds Try.pinned (OpenSpec.upto natOrderSpec)

/-- 'triviumlaw02.NatAdds', WHERE WHAT IT READS IS OF BULK AT MOST 1048576: true; the input reads as it did. -/
def natAddsUptoRow : OpenClaim := { program := "ytpjephicbiiamaa", sum := "d10ad58191355f4a97d28728c271290d65f7b773beaf721f9ed9564e28ce0800", func := "trivium/triviumlaw02.NatAdds", spec := "natAdds", apart := false, narrowed := true }
def NatAddsUptoSaid : Prop := natAddsUptoRow.holds Try.pinned (OpenSpec.upto natAddsSpec)

/-- 'triviumlaw26.TrieFinds', WHERE WHAT IT READS IS OF BULK AT MOST 1048576: true; the input reads as it did. -/
def trieFindsUptoRow : OpenClaim := { program := "ytpjephicbiiamaa", sum := "d10ad58191355f4a97d28728c271290d65f7b773beaf721f9ed9564e28ce0800", func := "trivium/triviumlaw26.TrieFinds", spec := "trieFinds", unfollowed := true, recurses := true, apart := false, narrowed := true }
def TrieFindsUptoSaid : Prop := trieFindsUptoRow.holds Try.pinned (OpenSpec.upto trieFindsSpec)

/-- 'triviumlaw40.ModpPrimes', WHERE WHAT IT READS IS OF BULK AT MOST 1048576: true; the input reads as it did. -/
def modpPrimesUptoRow : OpenClaim := { program := "ytpjephicbiiamaa", sum := "d10ad58191355f4a97d28728c271290d65f7b773beaf721f9ed9564e28ce0800", func := "trivium/triviumlaw40.ModpPrimes", spec := "modpPrimes", apart := false, narrowed := true }
def ModpPrimesUptoSaid : Prop := modpPrimesUptoRow.holds Try.pinned (OpenSpec.upto modpPrimesSpec)

/-- 'triviumlaw40.ModpBelow', WHERE WHAT IT READS IS OF BULK AT MOST 1048576: true; the input reads as it did. -/
def modpBelowUptoRow : OpenClaim := { program := "ytpjephicbiiamaa", sum := "d10ad58191355f4a97d28728c271290d65f7b773beaf721f9ed9564e28ce0800", func := "trivium/triviumlaw40.ModpBelow", spec := "modpBelow", apart := false, narrowed := true }
def ModpBelowUptoSaid : Prop := modpBelowUptoRow.holds Try.pinned (OpenSpec.upto modpBelowSpec)

/-- 'triviumlaw40.ModpInverses', WHERE WHAT IT READS IS OF BULK AT MOST 1048576: true; the input reads as it did. -/
def modpInversesUptoRow : OpenClaim := { program := "ytpjephicbiiamaa", sum := "d10ad58191355f4a97d28728c271290d65f7b773beaf721f9ed9564e28ce0800", func := "trivium/triviumlaw40.ModpInverses", spec := "modpInverses", apart := false, narrowed := true }
def ModpInversesUptoSaid : Prop := modpInversesUptoRow.holds Try.pinned (OpenSpec.upto modpInversesSpec)

/-- 'triviumlaw40.ModpFermat', WHERE WHAT IT READS IS OF BULK AT MOST 1048576: true; the input reads as it did. -/
def modpFermatUptoRow : OpenClaim := { program := "ytpjephicbiiamaa", sum := "d10ad58191355f4a97d28728c271290d65f7b773beaf721f9ed9564e28ce0800", func := "trivium/triviumlaw40.ModpFermat", spec := "modpFermat", apart := false, narrowed := true }
def ModpFermatUptoSaid : Prop := modpFermatUptoRow.holds Try.pinned (OpenSpec.upto modpFermatSpec)

/-- 'triviumlaw02.NatMakes', WHERE WHAT IT READS IS OF BULK AT MOST 1048576: true; the input reads as it did. -/
def natMakesUptoRow : OpenClaim := { program := "ytpjephicbiiamaa", sum := "d10ad58191355f4a97d28728c271290d65f7b773beaf721f9ed9564e28ce0800", func := "trivium/triviumlaw02.NatMakes", spec := "natMakes", apart := false, narrowed := true }
def NatMakesUptoSaid : Prop := natMakesUptoRow.holds Try.pinned (OpenSpec.upto natMakesSpec)

/-- 'triviumlaw40.ModpSums', WHERE WHAT IT READS IS OF BULK AT MOST 1048576: true; the input reads as it did. -/
def modpSumsUptoRow : OpenClaim := { program := "ytpjephicbiiamaa", sum := "d10ad58191355f4a97d28728c271290d65f7b773beaf721f9ed9564e28ce0800", func := "trivium/triviumlaw40.ModpSums", spec := "modpSums", recurses := true, apart := false, narrowed := true }
def ModpSumsUptoSaid : Prop := modpSumsUptoRow.holds Try.pinned (OpenSpec.upto modpSumsSpec)

/-- 'triviumlaw02.NatShifts', WHERE WHAT IT READS IS OF BULK AT MOST 1048576: true; the input reads as it did. -/
def natShiftsUptoRow : OpenClaim := { program := "ytpjephicbiiamaa", sum := "d10ad58191355f4a97d28728c271290d65f7b773beaf721f9ed9564e28ce0800", func := "trivium/triviumlaw02.NatShifts", spec := "natShifts", apart := false, narrowed := true }
def NatShiftsUptoSaid : Prop := natShiftsUptoRow.holds Try.pinned (OpenSpec.upto natShiftsSpec)

/-- 'triviumlaw02.NatBack', WHERE WHAT IT READS IS OF BULK AT MOST 1048576: true; the input reads as it did. -/
def natBackUptoRow : OpenClaim := { program := "ytpjephicbiiamaa", sum := "d10ad58191355f4a97d28728c271290d65f7b773beaf721f9ed9564e28ce0800", func := "trivium/triviumlaw02.NatBack", spec := "natBack", apart := false, narrowed := true }
def NatBackUptoSaid : Prop := natBackUptoRow.holds Try.pinned (OpenSpec.upto natBackSpec)

end Rows
end Go.Proofs.Ytpjephicbiiamaa
