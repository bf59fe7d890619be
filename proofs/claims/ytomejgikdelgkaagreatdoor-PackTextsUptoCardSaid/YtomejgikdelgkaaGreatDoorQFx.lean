/- The global variables on which the proofs lean: a table, a number, two errors. -/
import Derived.Test.YtomejgikdelgkaaGreatDoorA6
import Derived.Test.YtomejgikdelgkaaGreatDoorA7
set_option linter.unusedVariables false
set_option linter.unusedSimpArgs false
set_option linter.unusedSectionVars false
namespace Go.Awp
def powTab : Array Value := ((List.range 20).map fun i => Value.int .u64 ((10 ^ i : Nat) : Int)).toArray
instance fxCrs : Fx := ⟨[(0, fun cs => cs = powTab), (1, fun cs => ∃ m, cs[0]? = some (.int .i64 m)), (4, fun cs => ∃ te pe, cs[0]? = some (.iface te pe)), (5, fun cs => ∃ te pe, cs[0]? = some (.iface te pe))]⟩
end Go.Awp
