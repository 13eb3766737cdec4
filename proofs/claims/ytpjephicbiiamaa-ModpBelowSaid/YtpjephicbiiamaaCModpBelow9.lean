/- A part of the proof of the law ModpBelow: words, what the Go code does function by function, lemmas (assembled by wip/assemble.py). -/
import Derived.Test.YtpjephicbiiamaaCModpBelow5
set_option linter.unusedVariables false
set_option linter.unusedSimpArgs false
set_option linter.unusedSectionVars false
section
namespace Go.Proofs.Ytpjephicbiiamaa.Y
set_option maxRecDepth 1000000
theorem grun36 : gl RR 4294967296 2074967296 10000000 2134966896 (msk 2134966896) = true := by decide +kernel
theorem grun37 : gl RR 4294967296 2014967296 10000000 2074966896 (msk 2074966896) = true := by decide +kernel
theorem grun38 : gl RR 4294967296 1954967296 10000000 2014966896 (msk 2014966896) = true := by decide +kernel
theorem grun39 : gl RR 4294967296 1894967296 10000000 1954966896 (msk 1954966896) = true := by decide +kernel
theorem grun40 : gl RR 4294967296 1834967296 10000000 1894966896 (msk 1894966896) = true := by decide +kernel
theorem grun41 : gl RR 4294967296 1774967296 10000000 1834966896 (msk 1834966896) = true := by decide +kernel
theorem grun42 : gl RR 4294967296 1714967296 10000000 1774966896 (msk 1774966896) = true := by decide +kernel
theorem grun43 : gl RR 4294967296 1654967296 10000000 1714966896 (msk 1714966896) = true := by decide +kernel
theorem grun44 : gl RR 4294967296 1594967296 10000000 1654966896 (msk 1654966896) = true := by decide +kernel
theorem grun45 : gl RR 4294967296 1534967296 10000000 1594966896 (msk 1594966896) = true := by decide +kernel
theorem grun46 : gl RR 4294967296 1474967296 10000000 1534966896 (msk 1534966896) = true := by decide +kernel
theorem grun47 : gl RR 4294967296 1414967296 10000000 1474966896 (msk 1474966896) = true := by decide +kernel
end Go.Proofs.Ytpjephicbiiamaa.Y

end
