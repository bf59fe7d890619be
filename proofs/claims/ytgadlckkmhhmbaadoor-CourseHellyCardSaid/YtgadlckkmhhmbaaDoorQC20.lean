/- Contracts: Corrected. -/
import Derived.Test.YtgadlckkmhhmbaaDoorQC19
set_option linter.unusedVariables false
set_option linter.unusedSimpArgs false
set_option linter.unusedSectionVars false
namespace Go.Proofs.YtgadlckkmhhmbaaDoor
open Go.Awp Go.Grams
set_option linter.unusedSimpArgs false
set_option linter.unusedVariables false
set_option linter.unusedSectionVars false
set_option maxRecDepth 10000
/-- The indices below k that are picked. -/
def idxs (q : Nat → Bool) (k : Nat) : List Int := ((List.range k).filter q).map fun i : Nat => (i : Int)
def crq (no rate : Int) (ts : List Tst) (l : List Sht) (bf af : Int) (k : Nat) : Bool := match l[k]? with
  | some s => decide (s.scale = no) && (decide (couR no rate ts s bf ≠ couR no rate ts s af) || decide (lookE no rate ts s 0 bf ≠ lookE no rate ts s 0 af))
  | none => false
def crE (no rate : Int) (ts : List Tst) (l : List Sht) (bf af : Int) : Int := if chkS no rate ts ≠ 0 then chkS no rate ts else if shsE l ≠ 0 then shsE l else if okDay bf = true ∧ okDay af = true then 0 else 1
def crL (no rate : Int) (ts : List Tst) (l : List Sht) (bf af : Int) : List Int := if crE no rate ts l bf af = 0 then idxs (crq no rate ts l bf af) l.length else []
def crV (no rate : Int) (ts : List Tst) (l : List Sht) (bf af : Int) : AV := .tuple [.ro true (ic (crL no rate ts l bf af)), I (crE no rate ts l bf af)]
end Go.Proofs.YtgadlckkmhhmbaaDoor
