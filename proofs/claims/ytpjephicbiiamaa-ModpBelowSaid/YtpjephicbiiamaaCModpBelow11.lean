/- A part of the proof of the law ModpBelow: words, what the Go code does function by function, lemmas (assembled by wip/assemble.py). -/
import Derived.Test.YtpjephicbiiamaaCModpBelow5
set_option linter.unusedVariables false
set_option linter.unusedSimpArgs false
set_option linter.unusedSectionVars false
section
namespace Go.Proofs.Ytpjephicbiiamaa.Y
set_option maxRecDepth 1000000
theorem grun60 : gl RR 4294967296 634967296 10000000 694966896 (msk 694966896) = true := by decide +kernel
theorem grun61 : gl RR 4294967296 574967296 10000000 634966896 (msk 634966896) = true := by decide +kernel
theorem grun62 : gl RR 4294967296 514967296 10000000 574966896 (msk 574966896) = true := by decide +kernel
theorem grun63 : gl RR 4294967296 454967296 10000000 514966896 (msk 514966896) = true := by decide +kernel
theorem grun64 : gl RR 4294967296 394967296 10000000 454966896 (msk 454966896) = true := by decide +kernel
theorem grun65 : gl RR 4294967296 334967296 10000000 394966896 (msk 394966896) = true := by decide +kernel
theorem grun66 : gl RR 4294967296 274967296 10000000 334966896 (msk 334966896) = true := by decide +kernel
theorem grun67 : gl RR 4294967296 214967296 10000000 274966896 (msk 274966896) = true := by decide +kernel
theorem grun68 : gl RR 4294967296 154967296 10000000 214966896 (msk 214966896) = true := by decide +kernel
theorem grun69 : gl RR 4294967296 94967296 10000000 154966896 (msk 154966896) = true := by decide +kernel
theorem grun70 : gl RR 4294967296 34967296 10000000 94966896 (msk 94966896) = true := by decide +kernel
theorem grun71 : gl RR 4294967296 65900 10000000 34966896 (msk 34966896) = true := by decide +kernel
end Go.Proofs.Ytpjephicbiiamaa.Y

end
