/- For every input of bulk at most 1048576 (the second form) the law PackTexts answers true and leaves its arguments as they were. Its card. -/
import Derived.Test.YtomejgikdelgkaaGreatDoorQFc
import Derived.Test.YtomejgikdelgkaaGreatDoorQE3
import Derived.Test.YtomejgikdelgkaaGreatDoorQK3
set_option linter.unusedVariables false
set_option linter.unusedSimpArgs false
set_option linter.unusedSectionVars false
namespace Go.Proofs.YtomejgikdelgkaaGreatDoor
open Go.ChangeShapes Go.WideShapes Go.ChangeAt Go.RowKit Go.Awp
set_option linter.unusedSimpArgs false
set_option linter.unusedVariables false
set_option maxRecDepth 100000
theorem bulk_in {H : Type} {d : DataW H} : ∀ {l : List (DataW H)}, d ∈ l → Rows.uptoBulk d ≤ Rows.uptoBulkAll l
  | x :: r, h => by
    simp only [Rows.uptoBulkAll]
    rcases List.mem_cons.1 h with rfl | h
    · omega
    · have := bulk_in h; omega
theorem small_str {H : Type} (ds : List (DataW H)) (l : List UInt8) (h : Rows.uptoSmall H ds = true) (hm : DataW.lit (.string l) ∈ ds) : l.length ≤ 1048576 := by
  have h1 : Rows.uptoBulkAll ds ≤ 1048576 := of_decide_eq_true h
  have h2 := bulk_in hm
  simp only [Rows.uptoBulk] at h2
  omega
theorem laid_met3 (os : Os) : laidMet Tryz.prog Rows.packTextsUptoRow.laid ((laidWorld os).forCall (fun _ _ => 0) ⟨#[], #[.agg #[.int .i64 0, .int .i64 0, .int .i64 0], .agg #[.slice none 0 0], .string ⟨#[]⟩], []⟩).memory :=
  laidMet_of_run' 8 (by kernel_rfl) (by kernel_rfl)
theorem any_some {α : Type} {o : Option α} {p : α → Bool} (h : o.any p = true) : ∃ x, o = some x ∧ p x = true := by
  cases o with
  | none => cases h
  | some x => exact ⟨x, rfl, h⟩
theorem reads3 (os : Os) {H : Type} (enc : TypeId × Value → H) : ∃ x, DataW.whole enc Tryz.prog ((laidWorld os).forCall (fun _ _ => 0) ⟨#[], #[.agg #[.int .i64 0, .int .i64 0, .int .i64 0], .agg #[.slice none 0 0], .string ⟨#[]⟩], []⟩).memory Tryz.f3.params.toList Rows.packTextsSpec.vars false (#[.agg #[.int .i64 0, .int .i64 0, .int .i64 0], .agg #[.slice none 0 0], .string ⟨#[]⟩] : Array Value).toList 8 = some x ∧ Rows.uptoSmall H (x.1 ++ x.2.1) = true :=
  any_some (by kernel_rfl)
theorem lifted3 (os : Os) (started : os.Started) (H : Type) (enc : TypeId × Value → H) (F : Stop.Interp) :
    ReturnsInHanded {} Tryz.checked os 3 .any ((Rows.OpenSpec.upto Rows.packTextsSpec).preRow enc Tryz.prog Tryz.f3 Rows.packTextsUptoRow.domain false Rows.packTextsUptoRow.laid) (((Rows.OpenSpec.upto Rows.packTextsSpec).at F).post enc Tryz.prog Tryz.f3 false true false false) :=
  lifted_upto (C := Tryz.checked) (small := Rows.uptoSmall) (j0 := 2) (t0 := 9) (N := 1048576) (ts := [23, 26, 9]) (qs := [tThree, tPack, tStr]) (tb := 4) own started (by kernel_rfl) Tryz.func3
    (by
      obtain ⟨x, hx, hsm⟩ := reads3 os enc
      exact witness_row_at (enc := enc) (C := Tryz.checked) false (laidWorld os) #[.agg #[.int .i64 0, .int .i64 0, .int .i64 0], .agg #[.slice none 0 0], .string ⟨#[]⟩] rfl (by kernel_rfl) (by kernel_rfl) (by kernel_rfl)
        (OpenSpec.preRow_of_cond 8 hx (by rfl) (fun k hk => by cases hk; exact hsm) (by kernel_rfl) (laid_met3 os)))
    (by kernel_rfl) (by kernel_rfl) (by kernel_rfl) rfl
    (fun ds h => by
      match ds, h with
      | [a, b, c], _ => rfl)
    (by simp only [List.map_cons, List.map_nil]; rw [show Awp.shape Tryz.checked.prog 23 = some tThree from shapeStep, show Awp.shape Tryz.checked.prog 26 = some tPack from shapePack, show Awp.shape Tryz.checked.prog 9 = some tStr from shapeStr])
    laidOut (by kernel_rfl) rfl Tryz.underlying9 small_str
    (fun xs h hs => by
      cases h with
      | cons h0 h =>
        cases h with
        | cons h1 h =>
          cases h with
          | cons h2 h =>
            cases h
            obtain ⟨k0, m0, c0, rfl⟩ := get_three h0
            obtain ⟨p1, rfl⟩ := get_pack h1
            obtain ⟨x2, rfl⟩ := get_str h2
            exact PackTexts_ok k0 m0 c0 p1 x2 (hs x2 rfl)) fxok
theorem said3 : Rows.PackTextsUptoSaid :=
  OpenClaim.holds_of_cond 3 Tryz.f3 rfl rfl rfl rfl rfl rfl rfl ⟨rfl, rfl, rfl, rfl, rfl⟩ rfl rfl rfl rfl rfl (by kernel_rfl) Tryz.func3 closed3
    (of_decide_eq_true (by kernel_rfl)) (by unfold Func.isWrapper; first | (rw [if_pos (by decide +kernel)]; kernel_rfl) | (rw [if_neg (by decide +kernel)]; exact ⟨rfl, rfl⟩))
    (fun os started H enc _ F => by rw [OpenClaim.pre_eq_preRow]; exact lifted3 os started H enc F)
theorem plain3 (f : FuncId) (fn : Func) (hf : Tryz.pinned.checked.prog.funcNamed "snowline/snowlinelaw02.PackTexts" = some f) (hfn : Tryz.pinned.checked.prog.funcs[f]? = some fn) :
    true = Tryz.pinned.checked.prog.looks [] ∧ ∀ (j : Nat) t, fn.params[j]? = some t → Tryz.pinned.checked.prog.wantsStandIn t = false := by
  obtain rfl : f = 3 := Option.some.inj ((show Tryz.prog.funcNamed "snowline/snowlinelaw02.PackTexts" = some 3 by kernel_rfl).symm.trans hf) |>.symm
  obtain rfl : fn = Tryz.f3 := (Option.some.inj (Tryz.func3.symm.trans hfn)).symm
  refine ⟨by kernel_rfl, fun j t ht => ?_⟩
  have hm := Array.mem_of_getElem? ht
  rw [show Tryz.f3.params = #[23, 26, 9] by kernel_rfl] at hm
  have hm2 : t = 23 ∨ t = 26 ∨ t = 9 := by simpa using hm
  rcases hm2 with rfl | rfl | rfl
  · exact (show Tryz.prog.wantsStandIn 23 = false by kernel_rfl)
  · exact (show Tryz.prog.wantsStandIn 26 = false by kernel_rfl)
  · exact (show Tryz.prog.wantsStandIn 9 = false by kernel_rfl)
theorem packTextsUptoCard : Rows.PackTextsUptoCardSaid :=
  Claim7.holds_tied_plain_at .later [] _ _ _ _ said3 (fun _ h => by cases h) (by kernel_rfl) (fun _ h => by cases h) packTextsUpto_row_tie rfl ⟨rfl, rfl⟩ (by kernel_rfl) rfl plain3 (by kernel_rfl)
#print axioms packTextsUptoCard
end Go.Proofs.YtomejgikdelgkaaGreatDoor
