/- For every input the law CourseDrifts answers true and leaves its arguments as they were: no condition. Its card. -/
import Derived.Test.YtgadlckkmhhmbaaDoorQFc
import Derived.Test.YtgadlckkmhhmbaaDoorQE4
import Derived.Test.YtgadlckkmhhmbaaDoorQK4
set_option linter.unusedVariables false
set_option linter.unusedSimpArgs false
set_option linter.unusedSectionVars false
namespace Go.Proofs.YtgadlckkmhhmbaaDoor
open Go.ChangeShapes Go.WideShapes Go.ChangeAt Go.RowKit Go.Awp Go.Grams
set_option linter.unusedSimpArgs false
set_option linter.unusedVariables false
set_option maxRecDepth 100000
theorem laid_met4 (os : Os) : laidMet Tryd.prog Rows.courseDriftsRow.laid ((laidWorld os).forCall (fun _ _ => 0) ⟨#[], #[.agg #[.int .i64 0, .int .i64 0, .slice none 0 0], .agg #[.int .i64 0, .int .i64 0, .int .i64 0]], []⟩).memory :=
  laidMet_of_run' 8 (by kernel_rfl) (by kernel_rfl)
theorem reads4 (os : Os) {H : Type} (enc : TypeId × Value → H) : ∃ x, DataW.whole enc Tryd.prog ((laidWorld os).forCall (fun _ _ => 0) ⟨#[], #[.agg #[.int .i64 0, .int .i64 0, .slice none 0 0], .agg #[.int .i64 0, .int .i64 0, .int .i64 0]], []⟩).memory Tryd.f4.params.toList Rows.courseDriftsSpec.vars false (#[.agg #[.int .i64 0, .int .i64 0, .slice none 0 0], .agg #[.int .i64 0, .int .i64 0, .int .i64 0]] : Array Value).toList 8 = some x :=
  Option.isSome_iff_exists.1 (by kernel_rfl)
theorem lifted4 (os : Os) (started : os.Started) (H : Type) (enc : TypeId × Value → H) (F : Stop.Interp) :
    ReturnsInHanded {} Tryd.checked os 4 .any ((OpenSpec.ofChange Rows.courseDriftsSpec).preRow enc Tryd.prog Tryd.f4 Rows.courseDriftsRow.domain false Rows.courseDriftsRow.laid) (((OpenSpec.ofChange Rows.courseDriftsSpec).at F).post enc Tryd.prog Tryd.f4 false true false false) :=
  lifted_row (C := Tryd.checked) (ts := [24, 38]) (qs := [tScale, tDays]) (tb := 4) own started (by kernel_rfl) Tryd.func4
    (by
      obtain ⟨x, hx⟩ := reads4 os enc
      exact witness_row_at (enc := enc) (C := Tryd.checked) false (laidWorld os) #[.agg #[.int .i64 0, .int .i64 0, .slice none 0 0], .agg #[.int .i64 0, .int .i64 0, .int .i64 0]] rfl (by kernel_rfl) (by kernel_rfl) (by kernel_rfl)
        (OpenSpec.preRow_of_cond 8 hx (by rfl) (fun k hk => by cases hk) (by kernel_rfl) (laid_met4 os)))
    (by kernel_rfl) (by kernel_rfl) (by kernel_rfl) rfl
    (fun ds h => by
      match ds, h with
      | [a, b], _ => rfl)
    (by simp only [List.map_cons, List.map_nil]; rw [show Awp.shape Tryd.checked.prog 24 = some tScale from shapeScale, show Awp.shape Tryd.checked.prog 38 = some tDays from shapeDays])
    laidOut (by kernel_rfl)
    (fun xs h => by
      cases h with
      | cons h0 h =>
        cases h with
        | cons h1 h =>
          cases h
          obtain ⟨no0, rate0, ts0, rfl⟩ := get_scale h0
          obtain ⟨a1, b1, c1, rfl⟩ := get_days h1
          exact CourseDrifts_ok no0 rate0 ts0 a1 b1 c1) fxok
theorem said4 : Rows.CourseDriftsSaid :=
  OpenClaim.holds_of_cond 4 Tryd.f4 rfl rfl rfl rfl rfl rfl rfl ⟨rfl, rfl, rfl, rfl, rfl⟩ rfl rfl rfl rfl rfl (by kernel_rfl) Tryd.func4 closed4
    (of_decide_eq_true (by kernel_rfl)) (by unfold Func.isWrapper; first | (rw [if_pos (by decide +kernel)]; kernel_rfl) | (rw [if_neg (by decide +kernel)]; exact ⟨rfl, rfl⟩))
    (fun os started H enc _ F => by rw [OpenClaim.pre_eq_preRow]; exact lifted4 os started H enc F)
theorem plain4 (f : FuncId) (fn : Func) (hf : Tryd.pinned.checked.prog.funcNamed "snowline/snowlinelaw01.CourseDrifts" = some f) (hfn : Tryd.pinned.checked.prog.funcs[f]? = some fn) :
    false = Tryd.pinned.checked.prog.looks [] ∧ ∀ (j : Nat) t, fn.params[j]? = some t → Tryd.pinned.checked.prog.wantsStandIn t = false := by
  obtain rfl : f = 4 := Option.some.inj ((show Tryd.prog.funcNamed "snowline/snowlinelaw01.CourseDrifts" = some 4 by kernel_rfl).symm.trans hf) |>.symm
  obtain rfl : fn = Tryd.f4 := (Option.some.inj (Tryd.func4.symm.trans hfn)).symm
  refine ⟨by kernel_rfl, fun j t ht => ?_⟩
  have hm := Array.mem_of_getElem? ht
  rw [show Tryd.f4.params = #[24, 38] by kernel_rfl] at hm
  have hm2 : t = 24 ∨ t = 38 := by simpa using hm
  rcases hm2 with rfl | rfl
  · exact (show Tryd.prog.wantsStandIn 24 = false by kernel_rfl)
  · exact (show Tryd.prog.wantsStandIn 38 = false by kernel_rfl)
theorem courseDriftsCard : Rows.CourseDriftsCardSaid :=
  Claim7.holds_tied_plain_at .later [] _ _ _ _ said4 (fun _ h => by cases h) (by kernel_rfl) (fun _ h => by cases h) courseDrifts_row_tie rfl ⟨rfl, rfl⟩ (by kernel_rfl) rfl plain4 (by kernel_rfl)
#print axioms courseDriftsCard
end Go.Proofs.YtgadlckkmhhmbaaDoor
