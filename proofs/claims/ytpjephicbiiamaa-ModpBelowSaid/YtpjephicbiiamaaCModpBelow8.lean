/- A part of the proof of the law ModpBelow: words, what the Go code does function by function, lemmas (assembled by wip/assemble.py). -/
import Derived.Test.YtpjephicbiiamaaCModpBelow5
set_option linter.unusedVariables false
set_option linter.unusedSimpArgs false
set_option linter.unusedSectionVars false
section
namespace Go.Proofs.Ytpjephicbiiamaa.Y
set_option maxRecDepth 1000000
theorem grun24 : gl RR 4294967296 2794967296 10000000 2854966896 (msk 2854966896) = true := by decide +kernel
theorem grun25 : gl RR 4294967296 2734967296 10000000 2794966896 (msk 2794966896) = true := by decide +kernel
theorem grun26 : gl RR 4294967296 2674967296 10000000 2734966896 (msk 2734966896) = true := by decide +kernel
theorem grun27 : gl RR 4294967296 2614967296 10000000 2674966896 (msk 2674966896) = true := by decide +kernel
theorem grun28 : gl RR 4294967296 2554967296 10000000 2614966896 (msk 2614966896) = true := by decide +kernel
theorem grun29 : gl RR 4294967296 2494967296 10000000 2554966896 (msk 2554966896) = true := by decide +kernel
theorem grun30 : gl RR 4294967296 2434967296 10000000 2494966896 (msk 2494966896) = true := by decide +kernel
theorem grun31 : gl RR 4294967296 2374967296 10000000 2434966896 (msk 2434966896) = true := by decide +kernel
theorem grun32 : gl RR 4294967296 2314967296 10000000 2374966896 (msk 2374966896) = true := by decide +kernel
theorem grun33 : gl RR 4294967296 2254967296 10000000 2314966896 (msk 2314966896) = true := by decide +kernel
theorem grun34 : gl RR 4294967296 2194967296 10000000 2254966896 (msk 2254966896) = true := by decide +kernel
theorem grun35 : gl RR 4294967296 2134967296 10000000 2194966896 (msk 2194966896) = true := by decide +kernel
end Go.Proofs.Ytpjephicbiiamaa.Y

end
