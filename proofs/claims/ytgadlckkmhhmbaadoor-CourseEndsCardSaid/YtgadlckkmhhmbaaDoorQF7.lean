/- For every input the law CourseEnds answers true and leaves its arguments as they were: no condition. Its card. -/
import Derived.Test.YtgadlckkmhhmbaaDoorQFc
import Derived.Test.YtgadlckkmhhmbaaDoorQE7
import Derived.Test.YtgadlckkmhhmbaaDoorQK7
set_option linter.unusedVariables false
set_option linter.unusedSimpArgs false
set_option linter.unusedSectionVars false
namespace Go.Proofs.YtgadlckkmhhmbaaDoor
open Go.ChangeShapes Go.WideShapes Go.ChangeAt Go.RowKit Go.Awp Go.Grams
set_option linter.unusedSimpArgs false
set_option linter.unusedVariables false
set_option maxRecDepth 100000
theorem laid_met7 (os : Os) : laidMet Tryd.prog Rows.courseEndsRow.laid ((laidWorld os).forCall (fun _ _ => 0) ⟨#[], #[.agg #[.int .i64 0, .int .i64 0, .slice none 0 0], .int .i64 0, .int .i64 0, .int .i64 0, .int .i64 0, .int .i64 0], []⟩).memory :=
  laidMet_of_run' 8 (by kernel_rfl) (by kernel_rfl)
theorem reads7 (os : Os) {H : Type} (enc : TypeId × Value → H) : ∃ x, DataW.whole enc Tryd.prog ((laidWorld os).forCall (fun _ _ => 0) ⟨#[], #[.agg #[.int .i64 0, .int .i64 0, .slice none 0 0], .int .i64 0, .int .i64 0, .int .i64 0, .int .i64 0, .int .i64 0], []⟩).memory Tryd.f7.params.toList Rows.courseEndsSpec.vars false (#[.agg #[.int .i64 0, .int .i64 0, .slice none 0 0], .int .i64 0, .int .i64 0, .int .i64 0, .int .i64 0, .int .i64 0] : Array Value).toList 8 = some x :=
  Option.isSome_iff_exists.1 (by kernel_rfl)
theorem lifted7 (os : Os) (started : os.Started) (H : Type) (enc : TypeId × Value → H) (F : Stop.Interp) :
    ReturnsInHanded {} Tryd.checked os 7 .any ((OpenSpec.ofChange Rows.courseEndsSpec).preRow enc Tryd.prog Tryd.f7 Rows.courseEndsRow.domain false Rows.courseEndsRow.laid) (((OpenSpec.ofChange Rows.courseEndsSpec).at F).post enc Tryd.prog Tryd.f7 false true false false) :=
  lifted_row (C := Tryd.checked) (ts := [24, 3, 3, 3, 3, 3]) (qs := [tScale, tInt, tInt, tInt, tInt, tInt]) (tb := 4) own started (by kernel_rfl) Tryd.func7
    (by
      obtain ⟨x, hx⟩ := reads7 os enc
      exact witness_row_at (enc := enc) (C := Tryd.checked) false (laidWorld os) #[.agg #[.int .i64 0, .int .i64 0, .slice none 0 0], .int .i64 0, .int .i64 0, .int .i64 0, .int .i64 0, .int .i64 0] rfl (by kernel_rfl) (by kernel_rfl) (by kernel_rfl)
        (OpenSpec.preRow_of_cond 8 hx (by rfl) (fun k hk => by cases hk) (by kernel_rfl) (laid_met7 os)))
    (by kernel_rfl) (by kernel_rfl) (by kernel_rfl) rfl
    (fun ds h => by
      match ds, h with
      | [a, b, c, d, e, f], _ => rfl)
    (by simp only [List.map_cons, List.map_nil]; rw [show Awp.shape Tryd.checked.prog 24 = some tScale from shapeScale, show Awp.shape Tryd.checked.prog 3 = some tInt from shapeInt])
    laidOut (by kernel_rfl)
    (fun xs h => by
      cases h with
      | cons h0 h =>
        cases h with
        | cons h1 h =>
          cases h with
          | cons h2 h =>
            cases h with
            | cons h3 h =>
              cases h with
              | cons h4 h =>
                cases h with
                | cons h5 h =>
                  cases h
                  obtain ⟨no0, rate0, ts0, rfl⟩ := get_scale h0
                  obtain ⟨x1, rfl⟩ := get_int h1
                  obtain ⟨x2, rfl⟩ := get_int h2
                  obtain ⟨x3, rfl⟩ := get_int h3
                  obtain ⟨x4, rfl⟩ := get_int h4
                  obtain ⟨x5, rfl⟩ := get_int h5
                  exact CourseEnds_ok no0 rate0 ts0 x1 x2 x3 x4 x5) fxok
theorem said7 : Rows.CourseEndsSaid :=
  OpenClaim.holds_of_cond 7 Tryd.f7 rfl rfl rfl rfl rfl rfl rfl ⟨rfl, rfl, rfl, rfl, rfl⟩ rfl rfl rfl rfl rfl (by kernel_rfl) Tryd.func7 closed7
    (of_decide_eq_true (by kernel_rfl)) (by unfold Func.isWrapper; first | (rw [if_pos (by decide +kernel)]; kernel_rfl) | (rw [if_neg (by decide +kernel)]; exact ⟨rfl, rfl⟩))
    (fun os started H enc _ F => by rw [OpenClaim.pre_eq_preRow]; exact lifted7 os started H enc F)
theorem plain7 (f : FuncId) (fn : Func) (hf : Tryd.pinned.checked.prog.funcNamed "snowline/snowlinelaw01.CourseEnds" = some f) (hfn : Tryd.pinned.checked.prog.funcs[f]? = some fn) :
    false = Tryd.pinned.checked.prog.looks [] ∧ ∀ (j : Nat) t, fn.params[j]? = some t → Tryd.pinned.checked.prog.wantsStandIn t = false := by
  obtain rfl : f = 7 := Option.some.inj ((show Tryd.prog.funcNamed "snowline/snowlinelaw01.CourseEnds" = some 7 by kernel_rfl).symm.trans hf) |>.symm
  obtain rfl : fn = Tryd.f7 := (Option.some.inj (Tryd.func7.symm.trans hfn)).symm
  refine ⟨by kernel_rfl, fun j t ht => ?_⟩
  have hm := Array.mem_of_getElem? ht
  rw [show Tryd.f7.params = #[24, 3, 3, 3, 3, 3] by kernel_rfl] at hm
  have hm2 : t = 24 ∨ t = 3 ∨ t = 3 ∨ t = 3 ∨ t = 3 ∨ t = 3 := by simpa using hm
  rcases hm2 with rfl | rfl | rfl | rfl | rfl | rfl
  · exact (show Tryd.prog.wantsStandIn 24 = false by kernel_rfl)
  · exact (show Tryd.prog.wantsStandIn 3 = false by kernel_rfl)
  · exact (show Tryd.prog.wantsStandIn 3 = false by kernel_rfl)
  · exact (show Tryd.prog.wantsStandIn 3 = false by kernel_rfl)
  · exact (show Tryd.prog.wantsStandIn 3 = false by kernel_rfl)
  · exact (show Tryd.prog.wantsStandIn 3 = false by kernel_rfl)
theorem courseEndsCard : Rows.CourseEndsCardSaid :=
  Claim7.holds_tied_plain_at .later [] _ _ _ _ said7 (fun _ h => by cases h) (by kernel_rfl) (fun _ h => by cases h) courseEnds_row_tie rfl ⟨rfl, rfl⟩ (by kernel_rfl) rfl plain7 (by kernel_rfl)
#print axioms courseEndsCard
end Go.Proofs.YtgadlckkmhhmbaaDoor
