/- Contracts: Run. -/
import Derived.Test.YtomejgikdelgkaaGreatDoorQC11
set_option linter.unusedVariables false
set_option linter.unusedSimpArgs false
set_option linter.unusedSectionVars false
namespace Go.Proofs.YtomejgikdelgkaaGreatDoor
open Go.Awp Go.Snow
set_option linter.unusedSimpArgs false
set_option linter.unusedVariables false
set_option linter.unusedSectionVars false
set_option maxRecDepth 10000
def runGo : List Lay → List Int → List Lay → List Lay × List Int × Int
  | ls, os, [] => (ls, os, 0)
  | ls, os, s :: r => if (applyV ls s.1 s.2.1 s.2.2).2.2 = 0 then runGo (applyV ls s.1 s.2.1 s.2.2).1 (os ++ [(applyV ls s.1 s.2.1 s.2.2).2.1]) r else ([], [], (applyV ls s.1 s.2.1 s.2.2).2.2)
def runV (ls st : List Lay) : List Lay × List Int × Int := if okP ls then (if st.length ≤ 256 then runGo ls [] st else ([], [], 2)) else ([], [], 20)
/-- A value that reads as layers. -/
def PV (lo : Nat) (H : AHeap) (a : AV) (ls : List Lay) : Prop := Acc lo H a 47 3 (rows ls) ∨ a = .ro true (rows ls)
theorem PV.out {lo : Nat} {H : AHeap} {a : AV} {ls : List Lay} (h : PV lo H a ls) : Out H a (.ro true (rows ls)) := by
  rcases h with h | rfl
  · exact h.out (rows_simple _)
  · exact out_of (d := 2) (car_ro_true (rows_simple _))
theorem PV.frz {lo : Nat} {H : AHeap} {a : AV} {ls : List Lay} (h : PV lo H a ls) : Frz H a (.ro false (rows ls)) := by
  rcases h with h | rfl
  · exact h.carF (d := 0) (rows_simple _)
  · exact frz_car (d := 2) (car_ro_false (rows_simple _))
theorem PV.keep {lo : Nat} {H H' : AHeap} {a : AV} {ls : List Lay} (h : PV lo H a ls) (hk : ∀ i, lo ≤ i → i < H.length → AHeap.obj H' i = AHeap.obj H i) : PV lo H' a ls := by
  rcases h with h | rfl
  · exact .inl (h.keep hk)
  · exact .inr rfl
theorem PV.one {lo : Nat} {H : AHeap} {a : AV} {ls : List Lay} (h : PV lo H a ls) : a = .nilSlice ∨ (∃ q n, a = .own q n 0 n) ∨ ∃ b l, a = .ro b l := by
  rcases h with h | rfl
  · rcases h.form with h | h
    · exact .inl h
    · exact .inr (.inl h)
  · exact .inr (.inr ⟨_, _, rfl⟩)
theorem PV.two {lo : Nat} {H : AHeap} {a : AV} {ls : List Lay} (h : PV lo H a ls) : a.cells = [a] ∧ a.isTuple = false := by
  rcases h.one with rfl | ⟨q, n, rfl⟩ | ⟨b, l, rfl⟩ <;> exact ⟨rfl, rfl⟩
theorem frzL2 {H : AHeap} {x x' y y' : AV} (h1 : Frz H x x') (h2 : Frz H y y') : FrzL H [x, y] [x', y'] := .cons h1 (.cons h2 .nil)
end Go.Proofs.YtomejgikdelgkaaGreatDoor
