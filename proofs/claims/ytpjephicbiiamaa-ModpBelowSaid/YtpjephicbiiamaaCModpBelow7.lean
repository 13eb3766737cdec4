/- A part of the proof of the law ModpBelow: words, what the Go code does function by function, lemmas (assembled by wip/assemble.py). -/
import Derived.Test.YtpjephicbiiamaaCModpBelow5
set_option linter.unusedVariables false
set_option linter.unusedSimpArgs false
set_option linter.unusedSectionVars false
section
namespace Go.Proofs.Ytpjephicbiiamaa.Y
set_option maxRecDepth 1000000
theorem grun12 : gl RR 4294967296 3514967296 10000000 3574966896 (msk 3574966896) = true := by decide +kernel
theorem grun13 : gl RR 4294967296 3454967296 10000000 3514966896 (msk 3514966896) = true := by decide +kernel
theorem grun14 : gl RR 4294967296 3394967296 10000000 3454966896 (msk 3454966896) = true := by decide +kernel
theorem grun15 : gl RR 4294967296 3334967296 10000000 3394966896 (msk 3394966896) = true := by decide +kernel
theorem grun16 : gl RR 4294967296 3274967296 10000000 3334966896 (msk 3334966896) = true := by decide +kernel
theorem grun17 : gl RR 4294967296 3214967296 10000000 3274966896 (msk 3274966896) = true := by decide +kernel
theorem grun18 : gl RR 4294967296 3154967296 10000000 3214966896 (msk 3214966896) = true := by decide +kernel
theorem grun19 : gl RR 4294967296 3094967296 10000000 3154966896 (msk 3154966896) = true := by decide +kernel
theorem grun20 : gl RR 4294967296 3034967296 10000000 3094966896 (msk 3094966896) = true := by decide +kernel
theorem grun21 : gl RR 4294967296 2974967296 10000000 3034966896 (msk 3034966896) = true := by decide +kernel
theorem grun22 : gl RR 4294967296 2914967296 10000000 2974966896 (msk 2974966896) = true := by decide +kernel
theorem grun23 : gl RR 4294967296 2854967296 10000000 2914966896 (msk 2914966896) = true := by decide +kernel
end Go.Proofs.Ytpjephicbiiamaa.Y

end
