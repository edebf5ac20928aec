/- Of this claim's texts (RdW): the declarations that the claim reaches (slimclaim.py). -/
import Derived.Test.YtallfkecjibpmaaDoorVRdP
set_option linter.unusedVariables false
set_option linter.unusedSimpArgs false
namespace Go.Proofs.YtallfkecjibpmaaDoor.Rd
open Go.Proofs.YtallfkecjibpmaaDoor.Nm
def vT (t : Tst) : Prop := okName t.name = true ∧ okText t.reason = true ∧ (t.dir = 0 ∧ t.reason = [] ∨ t.dir = 1 ∨ t.dir = 2)
end Go.Proofs.YtallfkecjibpmaaDoor.Rd
