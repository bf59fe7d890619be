/- Contracts: Standing of the specification. -/
import Derived.Test.YtgadlckkmhhmbaaDoorQC20
set_option linter.unusedVariables false
set_option linter.unusedSimpArgs false
set_option linter.unusedSectionVars false
namespace Go.Proofs.YtgadlckkmhhmbaaDoor
open Go.Awp Go.Grams
set_option linter.unusedSimpArgs false
set_option linter.unusedVariables false
set_option linter.unusedSectionVars false
set_option maxRecDepth 10000
def zeroS : Sht := ⟨0, 0, 0, 0, 0, 0, 0, 0, []⟩
def shAt (l : List Sht) (k : Nat) : Sht := (l[k]?).getD zeroS
/-- Whether the first sheet is replaced by the second one. -/
def repl (l : List Sht) (known : Int) (i j : Nat) : Bool := (shAt l i).no == (shAt l j).no && decide ((shAt l j).known ≤ known) && (decide ((shAt l j).known > (shAt l i).known) || ((shAt l j).known == (shAt l i).known && decide ((j : Int) > (i : Int))))
def lasts (l : List Sht) (known : Int) (i m : Nat) : Bool := !((List.range m).any (repl l known i))
def stq (l : List Sht) (wd : List Int) (known : Int) (i : Nat) : Bool := !wd.contains (shAt l i).no && decide ((shAt l i).known ≤ known) && lasts l known i l.length
def stE (l : List Sht) (wd : List Int) (known : Int) : Int := if shsE l ≠ 0 then shsE l else if numsV wd = true ∧ okDay known = true then 0 else 1
def stL (l : List Sht) (wd : List Int) (known : Int) : List Int := if stE l wd known = 0 then idxs (stq l wd known) l.length else []
def stV (l : List Sht) (wd : List Int) (known : Int) : AV := .tuple [.ro true (ic (stL l wd known)), I (stE l wd known)]
end Go.Proofs.YtgadlckkmhhmbaaDoor
/- Sheets that stand: at most one of each number, and the last one; what is left out if it does not stand. -/
namespace Go.Proofs.YtgadlckkmhhmbaaDoor
open Go.Awp Go.Grams
set_option linter.unusedSimpArgs false
set_option linter.unusedVariables false
set_option linter.unusedSectionVars false
def lt (l : List Sht) (i j : Nat) : Prop := (shAt l j).known > (shAt l i).known ∨ ((shAt l j).known = (shAt l i).known ∧ j > i)
/-- The list without its element m: where its elements were. -/
def rk (m k : Nat) : Nat := if k < m then k else k + 1
/-- An index behind the one left out comes one earlier. -/
def back (m : Nat) (k : Int) : Int := if k > m then k - 1 else k
end Go.Proofs.YtgadlckkmhhmbaaDoor
