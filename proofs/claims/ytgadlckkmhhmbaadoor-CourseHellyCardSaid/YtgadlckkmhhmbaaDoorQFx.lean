/- The table of a global variable on which the proofs lean. -/
import Derived.Test.YtgadlckkmhhmbaaDoorA6
import Derived.Test.YtgadlckkmhhmbaaDoorA7
set_option linter.unusedVariables false
set_option linter.unusedSimpArgs false
set_option linter.unusedSectionVars false
namespace Go.Awp
instance fxCrs : Fx := ⟨[(0, ((List.range 20).map fun i => Value.int .u64 ((10 ^ i : Nat) : Int)).toArray)]⟩
end Go.Awp
