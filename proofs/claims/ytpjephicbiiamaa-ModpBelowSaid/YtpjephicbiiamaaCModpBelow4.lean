/- A part of the proof of the law ModpBelow: words, what the Go code does function by function, lemmas (assembled by wip/assemble.py). -/
import Derived.Test.YtpjephicbiiamaaCModpBelow2
set_option linter.unusedVariables false
set_option linter.unusedSimpArgs false
set_option linter.unusedSectionVars false
section
namespace Go.Proofs.Ytpjephicbiiamaa.Y
theorem run21 : scanR 970 21685 = true := by decide +kernel
theorem run22 : scanR 1005 23625 = true := by decide +kernel
theorem run23 : scanR 1028 25635 = true := by decide +kernel
theorem run24 : scanR 970 27691 = true := by decide +kernel
theorem run25 : scanR 1049 29631 = true := by decide +kernel
theorem run26 : scanR 993 31729 = true := by decide +kernel
theorem run27 : scanR 1063 33715 = true := by decide +kernel
theorem run28 : scanR 1020 35841 = true := by decide +kernel
theorem run29 : scanR 1067 37881 = true := by decide +kernel
theorem run30 : scanR 1059 40015 = true := by decide +kernel
theorem run31 : scanR 1045 42133 = true := by decide +kernel
theorem run32 : scanR 1118 44223 = true := by decide +kernel
theorem run33 : scanR 1083 46459 = true := by decide +kernel
theorem run34 : scanR 1075 48625 = true := by decide +kernel
theorem run35 : scanR 1089 50775 = true := by decide +kernel
theorem run36 : scanR 1083 52953 = true := by decide +kernel
theorem run37 : scanR 1043 55119 = true := by decide +kernel
theorem run38 : scanR 1087 57205 = true := by decide +kernel
theorem run39 : scanR 1133 59379 = true := by decide +kernel
theorem run40 : scanR 1098 61645 = true := by decide +kernel
theorem run41 : scanR 848 63841 = true := by decide +kernel
end Go.Proofs.Ytpjephicbiiamaa.Y

end
