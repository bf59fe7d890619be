/- For every input the law CourseHelly answers true and leaves its arguments as they were: no condition. Its card. -/
import Derived.Test.YtgadlckkmhhmbaaDoorQFc
import Derived.Test.YtgadlckkmhhmbaaDoorQE11
import Derived.Test.YtgadlckkmhhmbaaDoorQK11
set_option linter.unusedVariables false
set_option linter.unusedSimpArgs false
set_option linter.unusedSectionVars false
namespace Go.Proofs.YtgadlckkmhhmbaaDoor
open Go.ChangeShapes Go.WideShapes Go.ChangeAt Go.RowKit Go.Awp Go.Grams
set_option linter.unusedSimpArgs false
set_option linter.unusedVariables false
set_option maxRecDepth 100000
theorem laid_met11 (os : Os) : laidMet Tryd.prog Rows.courseHellyRow.laid ((laidWorld os).forCall (fun _ _ => 0) ⟨#[], #[.agg #[.int .i64 0, .int .i64 0, .slice none 0 0], .int .i64 0, .slice none 0 0, .slice none 0 0, .int .i64 0], []⟩).memory :=
  laidMet_of_run' 8 (by kernel_rfl) (by kernel_rfl)
theorem reads11 (os : Os) {H : Type} (enc : TypeId × Value → H) : ∃ x, DataW.whole enc Tryd.prog ((laidWorld os).forCall (fun _ _ => 0) ⟨#[], #[.agg #[.int .i64 0, .int .i64 0, .slice none 0 0], .int .i64 0, .slice none 0 0, .slice none 0 0, .int .i64 0], []⟩).memory Tryd.f11.params.toList Rows.courseHellySpec.vars false (#[.agg #[.int .i64 0, .int .i64 0, .slice none 0 0], .int .i64 0, .slice none 0 0, .slice none 0 0, .int .i64 0] : Array Value).toList 8 = some x :=
  Option.isSome_iff_exists.1 (by kernel_rfl)
theorem lifted11 (os : Os) (started : os.Started) (H : Type) (enc : TypeId × Value → H) (F : Stop.Interp) :
    ReturnsInHanded {} Tryd.checked os 11 .any ((OpenSpec.ofChange Rows.courseHellySpec).preRow enc Tryd.prog Tryd.f11 Rows.courseHellyRow.domain false Rows.courseHellyRow.laid) (((OpenSpec.ofChange Rows.courseHellySpec).at F).post enc Tryd.prog Tryd.f11 false true false false) :=
  lifted_row (C := Tryd.checked) (ts := [24, 3, 51, 51, 3]) (qs := [tScale, tInt, tInts, tInts, tInt]) (tb := 4) own started (by kernel_rfl) Tryd.func11
    (by
      obtain ⟨x, hx⟩ := reads11 os enc
      exact witness_row_at (enc := enc) (C := Tryd.checked) false (laidWorld os) #[.agg #[.int .i64 0, .int .i64 0, .slice none 0 0], .int .i64 0, .slice none 0 0, .slice none 0 0, .int .i64 0] rfl (by kernel_rfl) (by kernel_rfl) (by kernel_rfl)
        (OpenSpec.preRow_of_cond 8 hx (by rfl) (fun k hk => by cases hk) (by kernel_rfl) (laid_met11 os)))
    (by kernel_rfl) (by kernel_rfl) (by kernel_rfl) rfl
    (fun ds h => by
      match ds, h with
      | [a, b, c, d, e], _ => rfl)
    (by simp only [List.map_cons, List.map_nil]; rw [show Awp.shape Tryd.checked.prog 24 = some tScale from shapeScale, show Awp.shape Tryd.checked.prog 3 = some tInt from shapeInt, show Awp.shape Tryd.checked.prog 51 = some tInts from shapeInts])
    laidOut (by kernel_rfl)
    (fun xs h => by
      cases h with
      | cons h0 h =>
        cases h with
        | cons h1 h =>
          cases h with
          | cons h2 h =>
            cases h with
            | cons h3 h =>
              cases h with
              | cons h4 h =>
                cases h
                obtain ⟨no0, rate0, ts0, rfl⟩ := get_scale h0
                obtain ⟨x1, rfl⟩ := get_int h1
                obtain ⟨l2, rfl, hl2⟩ := get_ints h2
                unfold reachBytes at hl2
                obtain ⟨l3, rfl, hl3⟩ := get_ints h3
                unfold reachBytes at hl3
                obtain ⟨x4, rfl⟩ := get_int h4
                exact CourseHelly_ok no0 rate0 ts0 x1 l2 l3 x4) fxok
theorem said11 : Rows.CourseHellySaid :=
  OpenClaim.holds_of_cond 11 Tryd.f11 rfl rfl rfl rfl rfl rfl rfl ⟨rfl, rfl, rfl, rfl, rfl⟩ rfl rfl rfl rfl rfl (by kernel_rfl) Tryd.func11 closed11
    (of_decide_eq_true (by kernel_rfl)) (by unfold Func.isWrapper; first | (rw [if_pos (by decide +kernel)]; kernel_rfl) | (rw [if_neg (by decide +kernel)]; exact ⟨rfl, rfl⟩))
    (fun os started H enc _ F => by rw [OpenClaim.pre_eq_preRow]; exact lifted11 os started H enc F)
theorem plain11 (f : FuncId) (fn : Func) (hf : Tryd.pinned.checked.prog.funcNamed "snowline/snowlinelaw01.CourseHelly" = some f) (hfn : Tryd.pinned.checked.prog.funcs[f]? = some fn) :
    false = Tryd.pinned.checked.prog.looks [] ∧ ∀ (j : Nat) t, fn.params[j]? = some t → Tryd.pinned.checked.prog.wantsStandIn t = false := by
  obtain rfl : f = 11 := Option.some.inj ((show Tryd.prog.funcNamed "snowline/snowlinelaw01.CourseHelly" = some 11 by kernel_rfl).symm.trans hf) |>.symm
  obtain rfl : fn = Tryd.f11 := (Option.some.inj (Tryd.func11.symm.trans hfn)).symm
  refine ⟨by kernel_rfl, fun j t ht => ?_⟩
  have hm := Array.mem_of_getElem? ht
  rw [show Tryd.f11.params = #[24, 3, 51, 51, 3] by kernel_rfl] at hm
  have hm2 : t = 24 ∨ t = 3 ∨ t = 51 ∨ t = 51 ∨ t = 3 := by simpa using hm
  rcases hm2 with rfl | rfl | rfl | rfl | rfl
  · exact (show Tryd.prog.wantsStandIn 24 = false by kernel_rfl)
  · exact (show Tryd.prog.wantsStandIn 3 = false by kernel_rfl)
  · exact (show Tryd.prog.wantsStandIn 51 = false by kernel_rfl)
  · exact (show Tryd.prog.wantsStandIn 51 = false by kernel_rfl)
  · exact (show Tryd.prog.wantsStandIn 3 = false by kernel_rfl)
theorem courseHellyCard : Rows.CourseHellyCardSaid :=
  Claim7.holds_tied_plain_at .later [] _ _ _ _ said11 (fun _ h => by cases h) (by kernel_rfl) (fun _ h => by cases h) courseHelly_row_tie rfl ⟨rfl, rfl⟩ (by kernel_rfl) rfl plain11 (by kernel_rfl)
#print axioms courseHellyCard
end Go.Proofs.YtgadlckkmhhmbaaDoor
