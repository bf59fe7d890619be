/- The texts of functions as the walk reads them, printed by a program of ours (mkir.py); each is a closed fact of the loaded program. -/
import Derived.Test.YtepnijjgdhldeaaProg
import Derived.Test.YtepnijjgdhldeaaA4
import Derived.Test.YtepnijjgdhldeaaA1
import Derived.KernelRfl
namespace Go.Proofs.Ytepnijjgdhldeaa
open Go.Awp
set_option maxRecDepth 100000
/-- snowline/snowlinelaw04.small -/
def ir23 : IR := (.seq (.seq (.ops [⟨(some 1), (.box 24 2 (.tmp 0)), none, [], false⟩, ⟨(some 2), (.mv (.const (.bool false))), none, [], false⟩]) (.trim [1])) (.seq (.seq (.ops [⟨(some 3), (.faddr 0 (.tmp 1)), none, [], false⟩, ⟨(some 4), (.load 1 false (.tmp 3)), none, [], false⟩, ⟨(some 5), (.bin .leq (.tmp 4) (.const (.int .i64 16))), none, [], false⟩, ⟨(some 6), (.mv (.tmp 5)), none, [], false⟩, ⟨(some 7), (.faddr 1 (.tmp 1)), (some (6, true)), [], false⟩, ⟨(some 8), (.load 1 false (.tmp 7)), (some (6, true)), [], false⟩, ⟨(some 9), (.len (.tmp 8)), (some (6, true)), [], false⟩, ⟨(some 10), (.bin .leq (.tmp 9) (.const (.int .i64 60))), (some (6, true)), [], false⟩, ⟨(some 11), (.pick (.tmp 6) (.tmp 10) (.const (.bool false))), none, [], false⟩, ⟨(some 2), (.mv (.tmp 11)), none, [], false⟩]) (.trim [2])) .ret))
theorem text23 : Text Try.prog 23 12 ir23 [(.tmp 2)] := ⟨⟨Try.f23, [], [(0, [1]), (1, [2])], Try.func23, Try.ntmps23, by kernel_rfl, by kernel_rfl, by kernel_rfl⟩, by kernel_rfl⟩
end Go.Proofs.Ytepnijjgdhldeaa
