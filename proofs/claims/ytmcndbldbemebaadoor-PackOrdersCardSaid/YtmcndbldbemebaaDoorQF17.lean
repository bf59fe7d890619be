/- For every input the law PackOrders answers true and leaves its arguments as they were: no condition. Its card. -/
import Derived.Test.YtmcndbldbemebaaDoorQFc
import Derived.Test.YtmcndbldbemebaaDoorQE17
import Derived.Test.YtmcndbldbemebaaDoorQK17
set_option linter.unusedVariables false
set_option linter.unusedSimpArgs false
set_option linter.unusedSectionVars false
namespace Go.Proofs.YtmcndbldbemebaaDoor
open Go.ChangeShapes Go.WideShapes Go.ChangeAt Go.RowKit Go.Awp
set_option linter.unusedSimpArgs false
set_option linter.unusedVariables false
set_option maxRecDepth 100000
theorem laid_met17 (os : Os) : laidMet Tryd.prog Rows.packOrdersRow.laid ((laidWorld os).forCall (fun _ _ => 0) ⟨#[], #[.agg #[.slice none 0 0], .agg #[.slice none 0 0], .int .i64 0, .int .i64 0], []⟩).memory :=
  laidMet_of_run' 8 (by kernel_rfl) (by kernel_rfl)
theorem reads17 (os : Os) {H : Type} (enc : TypeId × Value → H) : ∃ x, DataW.whole enc Tryd.prog ((laidWorld os).forCall (fun _ _ => 0) ⟨#[], #[.agg #[.slice none 0 0], .agg #[.slice none 0 0], .int .i64 0, .int .i64 0], []⟩).memory Tryd.f17.params.toList Rows.packOrdersSpec.vars false (#[.agg #[.slice none 0 0], .agg #[.slice none 0 0], .int .i64 0, .int .i64 0] : Array Value).toList 8 = some x :=
  Option.isSome_iff_exists.1 (by kernel_rfl)
theorem lifted17 (os : Os) (started : os.Started) (H : Type) (enc : TypeId × Value → H) (F : Stop.Interp) :
    ReturnsInHanded {} Tryd.checked os 17 .any ((OpenSpec.ofChange Rows.packOrdersSpec).preRow enc Tryd.prog Tryd.f17 Rows.packOrdersRow.domain false Rows.packOrdersRow.laid) (((OpenSpec.ofChange Rows.packOrdersSpec).at F).post enc Tryd.prog Tryd.f17 false true false false) :=
  lifted_row (C := Tryd.checked) (ts := [24, 24, 3, 3]) (qs := [tPack, tPack, tInt, tInt]) (tb := 4) own started (by kernel_rfl) Tryd.func17
    (by
      obtain ⟨x, hx⟩ := reads17 os enc
      exact witness_row_at (enc := enc) (C := Tryd.checked) false (laidWorld os) #[.agg #[.slice none 0 0], .agg #[.slice none 0 0], .int .i64 0, .int .i64 0] rfl (by kernel_rfl) (by kernel_rfl) (by kernel_rfl)
        (OpenSpec.preRow_of_cond 8 hx (by rfl) (fun k hk => by cases hk) (by kernel_rfl) (laid_met17 os)))
    (by kernel_rfl) (by kernel_rfl) (by kernel_rfl) rfl
    (fun ds h => by
      match ds, h with
      | [a, b, c, d], _ => rfl)
    (by simp only [List.map_cons, List.map_nil]; rw [show Awp.shape Tryd.checked.prog 24 = some tPack from shapePack, show Awp.shape Tryd.checked.prog 3 = some tInt from shapeInt])
    laidOut (by kernel_rfl)
    (fun xs h => by
      cases h with
      | cons h0 h =>
        cases h with
        | cons h1 h =>
          cases h with
          | cons h2 h =>
            cases h with
            | cons h3 h =>
              cases h
              obtain ⟨p0, rfl⟩ := get_pack h0
              obtain ⟨p1, rfl⟩ := get_pack h1
              obtain ⟨x2, rfl⟩ := get_int h2
              obtain ⟨x3, rfl⟩ := get_int h3
              exact PackOrders_ok p0 p1 x2 x3) fxok
theorem said17 : Rows.PackOrdersSaid :=
  OpenClaim.holds_of_cond 17 Tryd.f17 rfl rfl rfl rfl rfl rfl rfl ⟨rfl, rfl, rfl, rfl, rfl⟩ rfl rfl rfl rfl rfl (by kernel_rfl) Tryd.func17 closed17
    (of_decide_eq_true (by kernel_rfl)) (by unfold Func.isWrapper; first | (rw [if_pos (by decide +kernel)]; kernel_rfl) | (rw [if_neg (by decide +kernel)]; exact ⟨rfl, rfl⟩))
    (fun os started H enc _ F => by rw [OpenClaim.pre_eq_preRow]; exact lifted17 os started H enc F)
theorem plain17 (f : FuncId) (fn : Func) (hf : Tryd.pinned.checked.prog.funcNamed "snowline/snowlinelaw02.PackOrders" = some f) (hfn : Tryd.pinned.checked.prog.funcs[f]? = some fn) :
    false = Tryd.pinned.checked.prog.looks [] ∧ ∀ (j : Nat) t, fn.params[j]? = some t → Tryd.pinned.checked.prog.wantsStandIn t = false := by
  obtain rfl : f = 17 := Option.some.inj ((show Tryd.prog.funcNamed "snowline/snowlinelaw02.PackOrders" = some 17 by kernel_rfl).symm.trans hf) |>.symm
  obtain rfl : fn = Tryd.f17 := (Option.some.inj (Tryd.func17.symm.trans hfn)).symm
  refine ⟨by kernel_rfl, fun j t ht => ?_⟩
  have hm := Array.mem_of_getElem? ht
  rw [show Tryd.f17.params = #[24, 24, 3, 3] by kernel_rfl] at hm
  have hm2 : t = 24 ∨ t = 24 ∨ t = 3 ∨ t = 3 := by simpa using hm
  rcases hm2 with rfl | rfl | rfl | rfl
  · exact (show Tryd.prog.wantsStandIn 24 = false by kernel_rfl)
  · exact (show Tryd.prog.wantsStandIn 24 = false by kernel_rfl)
  · exact (show Tryd.prog.wantsStandIn 3 = false by kernel_rfl)
  · exact (show Tryd.prog.wantsStandIn 3 = false by kernel_rfl)
theorem packOrdersCard : Rows.PackOrdersCardSaid :=
  Claim7.holds_tied_plain_at .later [] _ _ _ _ said17 (fun _ h => by cases h) (by kernel_rfl) (fun _ h => by cases h) packOrders_row_tie rfl ⟨rfl, rfl⟩ (by kernel_rfl) rfl plain17 (by kernel_rfl)
#print axioms packOrdersCard
end Go.Proofs.YtmcndbldbemebaaDoor
