/- A part of the proof of the law ModpBelow: words, what the Go code does function by function, lemmas (assembled by wip/assemble.py). -/
import Derived.Test.YtpjephicbiiamaaCModpBelow5
set_option linter.unusedVariables false
set_option linter.unusedSimpArgs false
set_option linter.unusedSectionVars false
section
namespace Go.Proofs.Ytpjephicbiiamaa.Y
set_option maxRecDepth 1000000
theorem grun0 : gl RR 4294967296 4234967296 10000000 4294966896 (msk 4294966896) = true := by decide +kernel
theorem grun1 : gl RR 4294967296 4174967296 10000000 4234966896 (msk 4234966896) = true := by decide +kernel
theorem grun2 : gl RR 4294967296 4114967296 10000000 4174966896 (msk 4174966896) = true := by decide +kernel
theorem grun3 : gl RR 4294967296 4054967296 10000000 4114966896 (msk 4114966896) = true := by decide +kernel
theorem grun4 : gl RR 4294967296 3994967296 10000000 4054966896 (msk 4054966896) = true := by decide +kernel
theorem grun5 : gl RR 4294967296 3934967296 10000000 3994966896 (msk 3994966896) = true := by decide +kernel
theorem grun6 : gl RR 4294967296 3874967296 10000000 3934966896 (msk 3934966896) = true := by decide +kernel
theorem grun7 : gl RR 4294967296 3814967296 10000000 3874966896 (msk 3874966896) = true := by decide +kernel
theorem grun8 : gl RR 4294967296 3754967296 10000000 3814966896 (msk 3814966896) = true := by decide +kernel
theorem grun9 : gl RR 4294967296 3694967296 10000000 3754966896 (msk 3754966896) = true := by decide +kernel
theorem grun10 : gl RR 4294967296 3634967296 10000000 3694966896 (msk 3694966896) = true := by decide +kernel
theorem grun11 : gl RR 4294967296 3574967296 10000000 3634966896 (msk 3634966896) = true := by decide +kernel
end Go.Proofs.Ytpjephicbiiamaa.Y

end
