/- A part of the proof of the law ModpBelow: words, what the Go code does function by function, lemmas (assembled by wip/assemble.py). -/
import Derived.Test.YtpjephicbiiamaaCModpBelow5
set_option linter.unusedVariables false
set_option linter.unusedSimpArgs false
set_option linter.unusedSectionVars false
section
namespace Go.Proofs.Ytpjephicbiiamaa.Y
set_option maxRecDepth 1000000
theorem grun48 : gl RR 4294967296 1354967296 10000000 1414966896 (msk 1414966896) = true := by decide +kernel
theorem grun49 : gl RR 4294967296 1294967296 10000000 1354966896 (msk 1354966896) = true := by decide +kernel
theorem grun50 : gl RR 4294967296 1234967296 10000000 1294966896 (msk 1294966896) = true := by decide +kernel
theorem grun51 : gl RR 4294967296 1174967296 10000000 1234966896 (msk 1234966896) = true := by decide +kernel
theorem grun52 : gl RR 4294967296 1114967296 10000000 1174966896 (msk 1174966896) = true := by decide +kernel
theorem grun53 : gl RR 4294967296 1054967296 10000000 1114966896 (msk 1114966896) = true := by decide +kernel
theorem grun54 : gl RR 4294967296 994967296 10000000 1054966896 (msk 1054966896) = true := by decide +kernel
theorem grun55 : gl RR 4294967296 934967296 10000000 994966896 (msk 994966896) = true := by decide +kernel
theorem grun56 : gl RR 4294967296 874967296 10000000 934966896 (msk 934966896) = true := by decide +kernel
theorem grun57 : gl RR 4294967296 814967296 10000000 874966896 (msk 874966896) = true := by decide +kernel
theorem grun58 : gl RR 4294967296 754967296 10000000 814966896 (msk 814966896) = true := by decide +kernel
theorem grun59 : gl RR 4294967296 694967296 10000000 754966896 (msk 754966896) = true := by decide +kernel
end Go.Proofs.Ytpjephicbiiamaa.Y

end
