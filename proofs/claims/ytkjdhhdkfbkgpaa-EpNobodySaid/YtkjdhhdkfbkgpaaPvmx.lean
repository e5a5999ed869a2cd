/- Written by this claim's own program (hyb.py) out of the kit's print: Go functions as plain Lean functions, and that the machine's calls come to them. -/
import Derived.Test.YtkjdhhdkfbkgpaaPvmx0
import Derived.Test.YtkjdhhdkfbkgpaaPvmx1
import Derived.Test.YtkjdhhdkfbkgpaaPvmx2
import Derived.Test.YtkjdhhdkfbkgpaaPvmx3
namespace Go.Proofs.Ytkjdhhdkfbkgpaa.Pvm
open Go.RowKit Go.Proofs.YtkjdhhdkfbkgpaaW.PrintWords Go.Proofs.YtkjdhhdkfbkgpaaW.PrintLast Go.Proofs.YtkjdhhdkfbkgpaaW.PrintMore
attribute [local go_sem] max2_int min2_int max_two min_two max_three min_three max_four min_four   -- for this text's walks alone
set_option linter.unusedVariables false
set_option linter.unusedSimpArgs false

end Go.Proofs.Ytkjdhhdkfbkgpaa.Pvm
