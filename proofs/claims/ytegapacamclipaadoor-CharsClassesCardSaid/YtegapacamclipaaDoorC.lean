/- What the Go functions of this seat give, as Lean functions, and that each call comes to it. Written by the session's own program (wip/tools/mprint.py). -/
import Derived.Test.YtegapacamclipaaDoorC0
import Derived.Test.YtegapacamclipaaDoorC1
import Derived.Test.YtegapacamclipaaDoorC2
import Derived.Test.YtegapacamclipaaDoorC3
namespace Go.Proofs.YtegapacamclipaaDoor.C
open Go.RowKit Go.Proofs.YtegapacamclipaaDoorW.PrintWords Go.Proofs.YtegapacamclipaaDoorW.PrintLast Go.Proofs.YtegapacamclipaaDoorW.PrintMore
attribute [local go_sem] max2_int min2_int max_two min_two max_three min_three max_four min_four   -- for this text's walks alone
set_option linter.unusedVariables false
set_option linter.unusedSimpArgs false

end Go.Proofs.YtegapacamclipaaDoor.C
