/- A part of the proof of the law ModpBelow: words, what the Go code does function by function, lemmas (assembled by wip/assemble.py). -/
import Derived.Test.YtpjephicbiiamaaCModpBelow2
set_option linter.unusedVariables false
set_option linter.unusedSimpArgs false
set_option linter.unusedSectionVars false
section
namespace Go.Proofs.Ytpjephicbiiamaa.Y
theorem run0 : scanR 46 1001 = true := by decide +kernel
theorem run1 : scanR 61 1093 = true := by decide +kernel
theorem run2 : scanR 57 1215 = true := by decide +kernel
theorem run3 : scanR 92 1329 = true := by decide +kernel
theorem run4 : scanR 105 1513 = true := by decide +kernel
theorem run5 : scanR 141 1723 = true := by decide +kernel
theorem run6 : scanR 190 2005 = true := by decide +kernel
theorem run7 : scanR 230 2385 = true := by decide +kernel
theorem run8 : scanR 310 2845 = true := by decide +kernel
theorem run9 : scanR 389 3465 = true := by decide +kernel
theorem run10 : scanR 510 4243 = true := by decide +kernel
theorem run11 : scanR 550 5263 = true := by decide +kernel
theorem run12 : scanR 681 6363 = true := by decide +kernel
theorem run13 : scanR 738 7725 = true := by decide +kernel
theorem run14 : scanR 777 9201 = true := by decide +kernel
theorem run15 : scanR 867 10755 = true := by decide +kernel
theorem run16 : scanR 878 12489 = true := by decide +kernel
theorem run17 : scanR 864 14245 = true := by decide +kernel
theorem run18 : scanR 955 15973 = true := by decide +kernel
theorem run19 : scanR 960 17883 = true := by decide +kernel
theorem run20 : scanR 941 19803 = true := by decide +kernel
end Go.Proofs.Ytpjephicbiiamaa.Y

end
