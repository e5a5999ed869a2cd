/- Written by this claim's own program (hyb.py) out of the kit's print: Go functions as plain Lean functions, and that the machine's calls come to them. -/
import Derived.Test.YtbdamgopggeikaaPvmx0
import Derived.Test.YtbdamgopggeikaaPvmx1
import Derived.Test.YtbdamgopggeikaaPvmx2
import Derived.Test.YtbdamgopggeikaaPvmx3
import Derived.Test.YtbdamgopggeikaaPvmx4
namespace Go.Proofs.Ytbdamgopggeikaa.Pvm
open Go.RowKit Go.Proofs.YtbdamgopggeikaaW.PrintWords Go.Proofs.YtbdamgopggeikaaW.PrintLast Go.Proofs.YtbdamgopggeikaaW.PrintMore
attribute [local go_sem] max2_int min2_int max_two min_two max_three min_three max_four min_four   -- for this text's walks alone
set_option linter.unusedVariables false
set_option linter.unusedSimpArgs false

end Go.Proofs.Ytbdamgopggeikaa.Pvm
