/- The texts of functions as the walk reads them, printed by a program of ours (mkir.py); each is a closed fact of the loaded program. -/
import Derived.Test.YtepnijjgdhldeaaProg
import Derived.Test.YtepnijjgdhldeaaA4
import Derived.KernelRfl
namespace Go.Proofs.Ytepnijjgdhldeaa
open Go.Awp
set_option maxRecDepth 100000
/-- snowline/snowlinelaw04.DiffsHidden$1 -/
def ir53 : IR := (.seq (.seq (.ops [⟨(some 2), (.mv (.const (.bool false))), none, [], false⟩]) (.trim [0])) (.seq (.seq (.ops [⟨(some 3), (.mv (.tmp 0)), none, [], false⟩, ⟨(some 4), (.bin .lss (.tmp 3) (.const (.int .i64 (-1048576)))), none, [], false⟩, ⟨(some 5), (.mv (.tmp 4)), none, [], false⟩, ⟨(some 6), (.mv (.tmp 0)), (some (5, false)), [], false⟩, ⟨(some 7), (.bin .gtr (.tmp 6) (.const (.int .i64 1048576))), (some (5, false)), [], false⟩, ⟨(some 8), (.pick (.tmp 5) (.const (.bool true)) (.tmp 7)), none, [], false⟩, ⟨(some 2), (.mv (.tmp 8)), none, [], false⟩]) (.trim [2])) .ret))
theorem text53 : Text Try.prog 53 9 ir53 [(.tmp 2)] := ⟨⟨Try.f53, [], [(0, [0]), (1, [2])], Try.func53, Try.ntmps53, by kernel_rfl, by kernel_rfl, by kernel_rfl⟩, by kernel_rfl⟩
end Go.Proofs.Ytepnijjgdhldeaa
