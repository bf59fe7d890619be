/- For every input the law CourseStands answers true and leaves its arguments as they were: no condition. Its card. -/
import Derived.Test.YtgadlckkmhhmbaaDoorQFc
import Derived.Test.YtgadlckkmhhmbaaDoorQE10
import Derived.Test.YtgadlckkmhhmbaaDoorQK10
set_option linter.unusedVariables false
set_option linter.unusedSimpArgs false
set_option linter.unusedSectionVars false
namespace Go.Proofs.YtgadlckkmhhmbaaDoor
open Go.ChangeShapes Go.WideShapes Go.ChangeAt Go.RowKit Go.Awp Go.Grams
set_option linter.unusedSimpArgs false
set_option linter.unusedVariables false
set_option maxRecDepth 100000
theorem laid_met10 (os : Os) : laidMet Tryd.prog Rows.courseStandsRow.laid ((laidWorld os).forCall (fun _ _ => 0) ⟨#[], #[.agg #[.int .i64 0, .int .i64 0, .slice none 0 0], .slice none 0 0, .slice none 0 0, .agg #[.int .i64 0, .int .i64 0, .int .i64 0], .int .i64 0], []⟩).memory :=
  laidMet_of_run' 8 (by kernel_rfl) (by kernel_rfl)
theorem reads10 (os : Os) {H : Type} (enc : TypeId × Value → H) : ∃ x, DataW.whole enc Tryd.prog ((laidWorld os).forCall (fun _ _ => 0) ⟨#[], #[.agg #[.int .i64 0, .int .i64 0, .slice none 0 0], .slice none 0 0, .slice none 0 0, .agg #[.int .i64 0, .int .i64 0, .int .i64 0], .int .i64 0], []⟩).memory Tryd.f10.params.toList Rows.courseStandsSpec.vars false (#[.agg #[.int .i64 0, .int .i64 0, .slice none 0 0], .slice none 0 0, .slice none 0 0, .agg #[.int .i64 0, .int .i64 0, .int .i64 0], .int .i64 0] : Array Value).toList 8 = some x :=
  Option.isSome_iff_exists.1 (by kernel_rfl)
theorem lifted10 (os : Os) (started : os.Started) (H : Type) (enc : TypeId × Value → H) (F : Stop.Interp) :
    ReturnsInHanded {} Tryd.checked os 10 .any ((OpenSpec.ofChange Rows.courseStandsSpec).preRow enc Tryd.prog Tryd.f10 Rows.courseStandsRow.domain false Rows.courseStandsRow.laid) (((OpenSpec.ofChange Rows.courseStandsSpec).at F).post enc Tryd.prog Tryd.f10 false true false false) :=
  lifted_row (C := Tryd.checked) (ts := [24, 65, 51, 38, 3]) (qs := [tScale, tSheets, tInts, tDays, tInt]) (tb := 4) own started (by kernel_rfl) Tryd.func10
    (by
      obtain ⟨x, hx⟩ := reads10 os enc
      exact witness_row_at (enc := enc) (C := Tryd.checked) false (laidWorld os) #[.agg #[.int .i64 0, .int .i64 0, .slice none 0 0], .slice none 0 0, .slice none 0 0, .agg #[.int .i64 0, .int .i64 0, .int .i64 0], .int .i64 0] rfl (by kernel_rfl) (by kernel_rfl) (by kernel_rfl)
        (OpenSpec.preRow_of_cond 8 hx (by rfl) (fun k hk => by cases hk) (by kernel_rfl) (laid_met10 os)))
    (by kernel_rfl) (by kernel_rfl) (by kernel_rfl) rfl
    (fun ds h => by
      match ds, h with
      | [a, b, c, d, e], _ => rfl)
    (by simp only [List.map_cons, List.map_nil]; rw [show Awp.shape Tryd.checked.prog 24 = some tScale from shapeScale, show Awp.shape Tryd.checked.prog 65 = some tSheets from shapeSheets, show Awp.shape Tryd.checked.prog 51 = some tInts from shapeInts, show Awp.shape Tryd.checked.prog 38 = some tDays from shapeDays, show Awp.shape Tryd.checked.prog 3 = some tInt from shapeInt])
    laidOut (by kernel_rfl)
    (fun xs h => by
      cases h with
      | cons h0 h =>
        cases h with
        | cons h1 h =>
          cases h with
          | cons h2 h =>
            cases h with
            | cons h3 h =>
              cases h with
              | cons h4 h =>
                cases h
                obtain ⟨no0, rate0, ts0, rfl⟩ := get_scale h0
                obtain ⟨S1, rfl⟩ := get_sheets h1
                obtain ⟨l2, rfl, hl2⟩ := get_ints h2
                unfold reachBytes at hl2
                obtain ⟨a3, b3, c3, rfl⟩ := get_days h3
                obtain ⟨x4, rfl⟩ := get_int h4
                exact CourseStands_ok no0 rate0 ts0 S1 l2 a3 b3 c3 x4) fxok
theorem said10 : Rows.CourseStandsSaid :=
  OpenClaim.holds_of_cond 10 Tryd.f10 rfl rfl rfl rfl rfl rfl rfl ⟨rfl, rfl, rfl, rfl, rfl⟩ rfl rfl rfl rfl rfl (by kernel_rfl) Tryd.func10 closed10
    (of_decide_eq_true (by kernel_rfl)) (by unfold Func.isWrapper; first | (rw [if_pos (by decide +kernel)]; kernel_rfl) | (rw [if_neg (by decide +kernel)]; exact ⟨rfl, rfl⟩))
    (fun os started H enc _ F => by rw [OpenClaim.pre_eq_preRow]; exact lifted10 os started H enc F)
theorem plain10 (f : FuncId) (fn : Func) (hf : Tryd.pinned.checked.prog.funcNamed "snowline/snowlinelaw01.CourseStands" = some f) (hfn : Tryd.pinned.checked.prog.funcs[f]? = some fn) :
    false = Tryd.pinned.checked.prog.looks [] ∧ ∀ (j : Nat) t, fn.params[j]? = some t → Tryd.pinned.checked.prog.wantsStandIn t = false := by
  obtain rfl : f = 10 := Option.some.inj ((show Tryd.prog.funcNamed "snowline/snowlinelaw01.CourseStands" = some 10 by kernel_rfl).symm.trans hf) |>.symm
  obtain rfl : fn = Tryd.f10 := (Option.some.inj (Tryd.func10.symm.trans hfn)).symm
  refine ⟨by kernel_rfl, fun j t ht => ?_⟩
  have hm := Array.mem_of_getElem? ht
  rw [show Tryd.f10.params = #[24, 65, 51, 38, 3] by kernel_rfl] at hm
  have hm2 : t = 24 ∨ t = 65 ∨ t = 51 ∨ t = 38 ∨ t = 3 := by simpa using hm
  rcases hm2 with rfl | rfl | rfl | rfl | rfl
  · exact (show Tryd.prog.wantsStandIn 24 = false by kernel_rfl)
  · exact (show Tryd.prog.wantsStandIn 65 = false by kernel_rfl)
  · exact (show Tryd.prog.wantsStandIn 51 = false by kernel_rfl)
  · exact (show Tryd.prog.wantsStandIn 38 = false by kernel_rfl)
  · exact (show Tryd.prog.wantsStandIn 3 = false by kernel_rfl)
theorem courseStandsCard : Rows.CourseStandsCardSaid :=
  Claim7.holds_tied_plain_at .later [] _ _ _ _ said10 (fun _ h => by cases h) (by kernel_rfl) (fun _ h => by cases h) courseStands_row_tie rfl ⟨rfl, rfl⟩ (by kernel_rfl) rfl plain10 (by kernel_rfl)
#print axioms courseStandsCard
end Go.Proofs.YtgadlckkmhhmbaaDoor
