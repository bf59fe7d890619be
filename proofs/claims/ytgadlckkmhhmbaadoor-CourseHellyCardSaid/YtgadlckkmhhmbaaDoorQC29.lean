/- Contracts: slices.BinarySearch, slices.Clone of numbers. -/
import Derived.Test.YtgadlckkmhhmbaaDoorQC26
import Derived.Test.YtgadlckkmhhmbaaDoorQTL
import Derived.Test.YtgadlckkmhhmbaaDoorQE10d
set_option linter.unusedVariables false
set_option linter.unusedSimpArgs false
set_option linter.unusedSectionVars false
namespace Go.Proofs.YtgadlckkmhhmbaaDoor
open Go.Awp Go.Grams
set_option linter.unusedSimpArgs false
set_option linter.unusedVariables false
set_option linter.unusedSectionVars false
set_option maxRecDepth 10000
theorem isnan126 (n : Int) : PCall Tryd.prog 126 [I n] (.bool false) := by
  refine PCall.intro text126 (by simp) ?_
  unfold ir126
  simp only [walk, wl, rgets, retv, argsEnv, ev, cst, cst1, cstL, AEnv.get, AEnv.trim, envput, qstep, abin, aun, evs, evo, deref, qload, target, if_true, if_false, Nat.reduceEqDiff, reduceIte, Nat.reduceAdd, AV.cells, AV.isTuple, setMany, alen, aiaddr, afill, Nat.reduceLeDiff, Nat.reduceMul, Nat.reduceLT, afillE, List.replicate, bne_self_eq_false]
  exact out_bool
theorem isnan112 (n : Int) : PCall Tryd.prog 112 [I n] (.bool false) := by
  refine PCall.intro text112 (by simp) ?_
  unfold ir112
  simp only [walk, wl, rgets, retv, argsEnv, ev, cst, cst1, cstL, AEnv.get, AEnv.trim, envput, qstep, abin, aun, evs, evo, deref, qload, target, if_true, if_false, Nat.reduceEqDiff, reduceIte, Nat.reduceAdd, AV.cells, AV.isTuple, setMany, alen, aiaddr, afill, Nat.reduceLeDiff, Nat.reduceMul, Nat.reduceLT, afillE, List.replicate, bne_self_eq_false]
  exact out_bool
theorem less_ok (a b : Int) : PCall Tryd.prog 111 [I a, I b] (.bool (decide (a < b))) := by
  refine PCall.intro text111 (by simp) ?_
  unfold ir111
  simp only [walk, wl, rgets, retv, argsEnv, ev, cst, cst1, cstL, AEnv.get, AEnv.trim, envput, qstep, abin, aun, evs, evo, deref, qload, target, if_true, if_false, Nat.reduceEqDiff, reduceIte, Nat.reduceAdd, AV.cells, AV.isTuple, setMany, alen, aiaddr, afill, Nat.reduceLeDiff, Nat.reduceMul, Nat.reduceLT, afillE, List.replicate]
  refine call_pure (isnan126 a) (frzL_of' (d := 1) rfl) ?_
  simp only [walk, wl, rgets, retv, argsEnv, ev, cst, cst1, cstL, AEnv.get, AEnv.trim, envput, qstep, abin, aun, evs, evo, deref, qload, target, if_true, if_false, Nat.reduceEqDiff, reduceIte, Nat.reduceAdd, AV.cells, AV.isTuple, setMany, alen, aiaddr, afill, Nat.reduceLeDiff, Nat.reduceMul, Nat.reduceLT, afillE, List.replicate]
  exact out_bool
/-- How many numbers of a list are less. -/
def posI (l : List Int) (x : Int) : Nat := (l.takeWhile fun y => decide (y < x)).length
theorem posI_le {l : List Int} {x : Int} : posI l x ≤ l.length := (List.takeWhile_sublist _).length_le
theorem posI_lt : ∀ {l : List Int} {x : Int} {k : Nat} (hk : k < l.length), upI l = true → (l[k] < x ↔ k < posI l x)
  | [], _, k, hk, _ => by simp at hk
  | a :: r, x, k, hk, hu => by
    have hr : upI r = true := by
      cases r with
      | nil => rfl
      | cons b r => simp only [upI, Bool.and_eq_true] at hu; exact hu.2
    have up : ∀ k (hk : k < r.length), a < r[k] := by
      intro k
      induction k with
      | zero =>
        intro hk
        cases r with
        | nil => simp at hk
        | cons b r => simp only [upI, Bool.and_eq_true, decide_eq_true_eq] at hu; exact hu.1
      | succ k ih =>
        intro hk
        have h1 := ih (by omega)
        have h2 := upI_iff.1 hr k hk
        omega
    by_cases ha : a < x
    · have e : posI (a :: r) x = posI r x + 1 := by simp [posI, ha]
      cases k with
      | zero => simp [e, ha]
      | succ k =>
        have := posI_lt (l := r) (x := x) (k := k) (by simpa using hk) hr
        simp only [List.getElem_cons_succ, e]
        omega
    · have e : posI (a :: r) x = 0 := by simp [posI, ha]
      rw [e]
      cases k with
      | zero => simp [ha]
      | succ k =>
        have := up k (by simpa using hk)
        simp only [List.getElem_cons_succ]
        omega
theorem BinarySearch_ok (l : List Int) (x : Int) (hl : l.length ≤ 1000) (hu : upI l = true) : ∃ b, PCall Tryd.prog 54 [.ro false (ic l), I x] (.tuple [I (posI l x), .bool b]) := by
  refine ⟨decide (((posI l x : Nat) : Int) < l.length) && (if h : posI l x < l.length then l[posI l x] == x else false), ?_⟩
  refine PCall.intro text54 (by simp) ?_
  unfold ir54
  simp only [walk, wl, rgets, retv, argsEnv, ev, cst, cst1, cstL, AEnv.get, AEnv.trim, envput, qstep, abin, aun, evs, evo, deref, qload, target, if_true, if_false, Nat.reduceEqDiff, reduceIte, Nat.reduceAdd, AV.cells, AV.isTuple, setMany, alen, aiaddr, afill, Nat.reduceLeDiff, Nat.reduceMul, Nat.reduceLT, afillE, List.replicate, ic_length]
  have hp := posI_le (l := l) (x := x)
  refine awp_loop (σ := Nat × Nat) (fun s => [(0, .ro false (ic l)), (1, I x), (6, I l.length), (7, I s.1), (8, I s.2)]) (fun _ _ => True) (fun s => s.1 ≤ posI l x ∧ posI l x ≤ s.2 ∧ s.2 ≤ l.length) (fun s => s.2 - s.1) (0, l.length) ⟨Nat.zero_le _, hp, Nat.le_refl _⟩ rfl trivial ?_
  rintro ⟨i, j⟩ H ⟨h1, h2, h3⟩ -
  simp only at h1 h2 h3
  simp only [walk, wl, rgets, retv, argsEnv, ev, cst, cst1, cstL, AEnv.get, AEnv.trim, envput, qstep, abin, aun, evs, evo, deref, qload, target, if_true, if_false, Nat.reduceEqDiff, reduceIte, Nat.reduceAdd, AV.cells, AV.isTuple, setMany, alen, aiaddr, afill, Nat.reduceLeDiff, Nat.reduceMul, Nat.reduceLT, afillE, List.replicate]
  refine withBool_intro ?_ ?_ <;> intro hb <;> simp only [walk, wl, rgets, retv, argsEnv, ev, cst, cst1, cstL, AEnv.get, AEnv.trim, envput, qstep, abin, aun, evs, evo, deref, qload, target, if_true, if_false, Nat.reduceEqDiff, reduceIte, Nat.reduceAdd, AV.cells, AV.isTuple, setMany, alen, aiaddr, afill, Nat.reduceLeDiff, Nat.reduceMul, Nat.reduceLT, afillE, List.replicate]
  · have hlt : i < j := by simpa using hb
    have w0 : IntKind.i64.wrap ((i : Int) + (j : Int)) = ((i + j : Nat) : Int) := by rw [wrap_id (by omega) (by omega)]; omega
    have w1 : IntKind.u64.wrap ((i + j : Nat) : Int) = ((i + j : Nat) : Int) := by
      have : IntKind.u64.wrap ((i + j : Nat) : Int) = ((i + j : Nat) : Int) % 18446744073709551616 := by simp [IntKind.wrap, IntKind.bits, IntKind.signed]
      rw [this]; omega
    have w2 : ((i + j : Nat) : Int).fdiv (2 ^ min (Int.toNat 1) IntKind.u64.bits) = (((i + j) / 2 : Nat) : Int) := by
      rw [show (2 : Int) ^ min (Int.toNat 1) IntKind.u64.bits = 2 from rfl, Int.fdiv_eq_ediv_of_nonneg _ (by omega)]; omega
    have w3 : IntKind.i64.wrap (((i + j) / 2 : Nat) : Int) = (((i + j) / 2 : Nat) : Int) := wrap_id (by omega) (by omega)
    obtain ⟨h, hh⟩ : ∃ h, h = (i + j) / 2 := ⟨_, rfl⟩
    have one0 : ¬ ((1 : Int) < 0) := by omega
    rw [← hh] at w2 w3
    simp only [walk, wl, rgets, retv, argsEnv, ev, cst, cst1, cstL, AEnv.get, AEnv.trim, envput, qstep, abin, aun, evs, evo, deref, qload, target, if_true, if_false, Nat.reduceEqDiff, reduceIte, Nat.reduceAdd, AV.cells, AV.isTuple, setMany, alen, aiaddr, afill, Nat.reduceLeDiff, Nat.reduceMul, Nat.reduceLT, afillE, List.replicate, w0, w1, w2, one0, w3]
    have hhl : h < l.length := by omega
    have hpl := posI_lt (x := x) hhl hu
    simp only [walk, wl, rgets, retv, argsEnv, ev, cst, cst1, cstL, AEnv.get, AEnv.trim, envput, qstep, abin, aun, evs, evo, deref, qload, target, if_true, if_false, Nat.reduceEqDiff, reduceIte, Nat.reduceAdd, AV.cells, AV.isTuple, setMany, alen, aiaddr, afill, Nat.reduceLeDiff, Nat.reduceMul, Nat.reduceLT, afillE, List.replicate, ic_get hhl]
    refine call_pure (less_ok _ _) (frzL_of' (d := 1) rfl) ?_
    simp only [walk, wl, rgets, retv, argsEnv, ev, cst, cst1, cstL, AEnv.get, AEnv.trim, envput, qstep, abin, aun, evs, evo, deref, qload, target, if_true, if_false, Nat.reduceEqDiff, reduceIte, Nat.reduceAdd, AV.cells, AV.isTuple, setMany, alen, aiaddr, afill, Nat.reduceLeDiff, Nat.reduceMul, Nat.reduceLT, afillE, List.replicate]
    refine withBool_intro ?_ ?_ <;> intro g1 <;> simp only [walk, wl, rgets, retv, argsEnv, ev, cst, cst1, cstL, AEnv.get, AEnv.trim, envput, qstep, abin, aun, evs, evo, deref, qload, target, if_true, if_false, Nat.reduceEqDiff, reduceIte, Nat.reduceAdd, AV.cells, AV.isTuple, setMany, alen, aiaddr, afill, Nat.reduceLeDiff, Nat.reduceMul, Nat.reduceLT, afillE, List.replicate, w_succ (show h ≤ 1000000000000000000 by omega)]
    · have : l[h] < x := by simpa using g1
      exact loop_end (h + 1, j) ⟨by simp only; omega, h2, h3⟩ (by simp only; omega) rfl trivial
    · have : ¬ l[h] < x := by simpa using g1
      exact loop_end (i, h) ⟨h1, by simp only; omega, by simp only; omega⟩ (by simp only; omega) rfl trivial
  · have hij : i = posI l x := by simp at hb; omega
    subst hij
    refine withGuard_intro ?_ ?_ <;> intro g1 <;> simp only [walk, wl, rgets, retv, argsEnv, ev, cst, cst1, cstL, AEnv.get, AEnv.trim, envput, qstep, abin, aun, evs, evo, deref, qload, target, if_true, if_false, Nat.reduceEqDiff, reduceIte, Nat.reduceAdd, AV.cells, AV.isTuple, setMany, alen, aiaddr, afill, Nat.reduceLeDiff, Nat.reduceMul, Nat.reduceLT, afillE, List.replicate, g1]
    · have hlt : posI l x < l.length := by simpa using g1
      simp only [walk, wl, rgets, retv, argsEnv, ev, cst, cst1, cstL, AEnv.get, AEnv.trim, envput, qstep, abin, aun, evs, evo, deref, qload, target, if_true, if_false, Nat.reduceEqDiff, reduceIte, Nat.reduceAdd, AV.cells, AV.isTuple, setMany, alen, aiaddr, afill, Nat.reduceLeDiff, Nat.reduceMul, Nat.reduceLT, afillE, List.replicate, ic_get hlt]
      refine withGuard_intro ?_ ?_ <;> intro g2 <;> simp only [walk, wl, rgets, retv, argsEnv, ev, cst, cst1, cstL, AEnv.get, AEnv.trim, envput, qstep, abin, aun, evs, evo, deref, qload, target, if_true, if_false, Nat.reduceEqDiff, reduceIte, Nat.reduceAdd, AV.cells, AV.isTuple, setMany, alen, aiaddr, afill, Nat.reduceLeDiff, Nat.reduceMul, Nat.reduceLT, afillE, List.replicate, g2]
      · simp only [walk, wl, rgets, retv, argsEnv, ev, cst, cst1, cstL, AEnv.get, AEnv.trim, envput, qstep, abin, aun, evs, evo, deref, qload, target, if_true, if_false, Nat.reduceEqDiff, reduceIte, Nat.reduceAdd, AV.cells, AV.isTuple, setMany, alen, aiaddr, afill, Nat.reduceLeDiff, Nat.reduceMul, Nat.reduceLT, afillE, List.replicate, ic_get hlt]
        refine call_pure (isnan112 _) (frzL_of' (d := 1) rfl) ?_
        simp only [walk, wl, rgets, retv, argsEnv, ev, cst, cst1, cstL, AEnv.get, AEnv.trim, envput, qstep, abin, aun, evs, evo, deref, qload, target, if_true, if_false, Nat.reduceEqDiff, reduceIte, Nat.reduceAdd, AV.cells, AV.isTuple, setMany, alen, aiaddr, afill, Nat.reduceLeDiff, Nat.reduceMul, Nat.reduceLT, afillE, List.replicate]
        exact out_two out_int (out_boolE (by rw [dif_pos hlt]; simp [g2]))
      · exact out_two out_int (out_boolE (by rw [dif_pos hlt]; simp [g2]))
    · exact out_two out_int (out_boolE (by rfl))
theorem iclone_a {b : Bool} (l : List Int) (hl : l.length ≤ 1000) (H : AHeap) : ACall Tryd.prog 56 [.ro b (ic l)] H fun x H' => Acc H.length H' x 3 1 (ic l) ∧ H.length ≤ H'.length ∧ ∀ i, i < H.length → AHeap.obj H' i = AHeap.obj H i := by
  refine ACall.intro text56 (by simp) ?_
  unfold ir56
  have all : ∀ l : List Int, ((ic l).all fun e => e.length == 1) = true := fun l => by simp [ic]
  simp only [walkS, wl, rgets, retv, argsEnv, ev, cst, cst1, cstL, AEnv.get, AEnv.trim, envput, qstep, abin, aun, evs, evo, deref, qload, target, if_true, if_false, Nat.reduceEqDiff, reduceIte, Nat.reduceAdd, AV.cells, AV.isTuple, setMany, alen, aiaddr, afill, Nat.reduceLeDiff, Nat.reduceMul, Nat.reduceLT, afillE, List.replicate]
  refine acall_isnil rfl rfl (fun hp => ?_) fun hp c => ?_
  · simp only [walkS, wl, rgets, retv, argsEnv, ev, cst, cst1, cstL, AEnv.get, AEnv.trim, envput, qstep, abin, aun, evs, evo, deref, qload, target, if_true, if_false, Nat.reduceEqDiff, reduceIte, Nat.reduceAdd, AV.cells, AV.isTuple, setMany, alen, aiaddr, afill, Nat.reduceLeDiff, Nat.reduceMul, Nat.reduceLT, afillE, List.replicate]
    refine acc_appendL (lo := H.length) (els := []) (Nat.le_refl _) (.inl ⟨rfl, rfl⟩) rfl rfl (asrc_ro (all l)) (by rw [ic_length]; simp only [List.length_nil]; omega) fun a H1 y1 y2 y3 => ?_
    simp only [walkS, wl, rgets, retv, argsEnv, ev, cst, cst1, cstL, AEnv.get, AEnv.trim, envput, qstep, abin, aun, evs, evo, deref, qload, target, if_true, if_false, Nat.reduceEqDiff, reduceIte, Nat.reduceAdd, AV.cells, AV.isTuple, setMany, alen, aiaddr, afill, Nat.reduceLeDiff, Nat.reduceMul, Nat.reduceLT, afillE, List.replicate]
    exact ⟨y2, y1, y3⟩
  · have h0 : l = [] := by
      have : l.length = 0 := by rw [ic_length] at hp; omega
      exact List.eq_nil_of_length_eq_zero this
    subst h0
    simp only [walkS, wl, rgets, retv, argsEnv, ev, cst, cst1, cstL, AEnv.get, AEnv.trim, envput, qstep, abin, aun, evs, evo, deref, qload, target, if_true, if_false, Nat.reduceEqDiff, reduceIte, Nat.reduceAdd, AV.cells, AV.isTuple, setMany, alen, aiaddr, afill, Nat.reduceLeDiff, Nat.reduceMul, Nat.reduceLT, afillE, List.replicate]
    refine withBool_intro ?_ ?_ <;> intro h <;> simp only [walkS, wl, rgets, retv, argsEnv, ev, cst, cst1, cstL, AEnv.get, AEnv.trim, envput, qstep, abin, aun, evs, evo, deref, qload, target, if_true, if_false, Nat.reduceEqDiff, reduceIte, Nat.reduceAdd, AV.cells, AV.isTuple, setMany, alen, aiaddr, afill, Nat.reduceLeDiff, Nat.reduceMul, Nat.reduceLT, afillE, List.replicate]
    · exact ⟨.inl ⟨rfl, rfl⟩, Nat.le_refl _, by intros; first | rfl | trivial⟩
    · refine acc_appendL (lo := H.length) (els := []) (Nat.le_refl _) (.inl ⟨rfl, rfl⟩) rfl rfl (asrc_ro (all [])) (by simp [ic]) fun a H1 y1 y2 y3 => ?_
      simp only [walkS, wl, rgets, retv, argsEnv, ev, cst, cst1, cstL, AEnv.get, AEnv.trim, envput, qstep, abin, aun, evs, evo, deref, qload, target, if_true, if_false, Nat.reduceEqDiff, reduceIte, Nat.reduceAdd, AV.cells, AV.isTuple, setMany, alen, aiaddr, afill, Nat.reduceLeDiff, Nat.reduceMul, Nat.reduceLT, afillE, List.replicate]
      exact ⟨y2, y1, y3⟩
end Go.Proofs.YtgadlckkmhhmbaaDoor
/- Contracts: the tests that are known (slices.DeleteFunc); a stretch that holds. -/
namespace Go.Proofs.YtgadlckkmhhmbaaDoor
open Go.Awp Go.Grams
set_option linter.unusedSimpArgs false
set_option linter.unusedVariables false
set_option linter.unusedSectionVars false
set_option maxRecDepth 10000
theorem late_ok (t : Tst) (day : Int) : PCall Tryd.prog 110 [.agg (td t), .rop [I day]] (.bool (decide (t.2.1 > day))) := by
  refine PCall.intro text110 (by simp) ?_
  unfold ir110
  simp only [walk, wl, rgets, retv, argsEnv, ev, cst, cst1, cstL, AEnv.get, AEnv.trim, envput, qstep, abin, aun, evs, evo, deref, qload, target, if_true, if_false, Nat.reduceEqDiff, reduceIte, Nat.reduceAdd, AV.cells, AV.isTuple, setMany, alen, aiaddr, afill, Nat.reduceLeDiff, Nat.reduceMul, Nat.reduceLT, afillE, List.replicate]
  exact out_bool
def late (day : Int) (t : Tst) : Bool := decide (t.2.1 > day)
def kept (day : Int) (ts : List Tst) : List Tst := ts.filter fun t => !late day t
theorem trow_get {ts : List Tst} {k : Nat} (h : k < ts.length) : (trows ts)[k]? = some (td ts[k]) := by simp [trows, h]
theorem tidx_a {h hd : Nat} {ts : List Tst} {day : Int} {H0 : AHeap} {Z : List (List AV)} (hl : ts.length ≤ 1000) (a : AV) (ha : (a = .nilSlice ∧ ts = []) ∨ (a = .own h ts.length 0 ts.length ∧ AHeap.obj H0 h = some ⟨26, 4, trows ts⟩)) (od : AHeap.obj H0 hd = some ⟨3, 1, [[I day]]⟩) : ACall Tryd.prog 125 [a, .func (.func 110) [] [.ptr hd 1 0 0]] H0 fun x H => x = I (fiI (late day) ts) ∧ H = H0 := by
  refine ACall.intro text125 (by simp) ?_
  unfold ir125
  have cf : carL (carry false H0 3) [.ptr hd 1 0 0] = some [.rop [I day]] := carL_cons (car_ptr (by simp only [deref, od]; rfl) (carL_cons car_int rfl)) rfl
  rcases ha with ⟨rfl, rfl⟩ | ⟨rfl, oh⟩
  · simp only [walkS, wl, rgets, retv, argsEnv, ev, cst, cst1, cstL, AEnv.get, AEnv.trim, envput, qstep, abin, aun, evs, evo, deref, qload, target, if_true, if_false, Nat.reduceEqDiff, reduceIte, Nat.reduceAdd, AV.cells, AV.isTuple, setMany, alen, aiaddr, afill, Nat.reduceLeDiff, Nat.reduceMul, Nat.reduceLT, afillE, List.replicate]
    refine awp_loop (σ := Unit) (fun _ => [(0, .nilSlice), (1, .func (.func 110) [] [.ptr hd 1 0 0]), (7, I 0), (8, I 0)]) (fun _ H => H = H0) (fun _ => True) (fun _ => 0) () trivial rfl rfl ?_
    rintro _ H - rfl
    simp only [walkS, wl, rgets, retv, argsEnv, ev, cst, cst1, cstL, AEnv.get, AEnv.trim, envput, qstep, abin, aun, evs, evo, deref, qload, target, if_true, if_false, Nat.reduceEqDiff, reduceIte, Nat.reduceAdd, AV.cells, AV.isTuple, setMany, alen, aiaddr, afill, Nat.reduceLeDiff, Nat.reduceMul, Nat.reduceLT, afillE, List.replicate, Int.lt_irrefl, decide_false]
    rfl
  · simp only [walkS, wl, rgets, retv, argsEnv, ev, cst, cst1, cstL, AEnv.get, AEnv.trim, envput, qstep, abin, aun, evs, evo, deref, qload, target, if_true, if_false, Nat.reduceEqDiff, reduceIte, Nat.reduceAdd, AV.cells, AV.isTuple, setMany, alen, aiaddr, afill, Nat.reduceLeDiff, Nat.reduceMul, Nat.reduceLT, afillE, List.replicate, oh, trows_length]
    refine awp_loop (σ := Nat) (fun k => [(0, .own h ts.length 0 ts.length), (1, .func (.func 110) [] [.ptr hd 1 0 0]), (7, I ts.length), (8, I k)]) (fun _ H => H = H0) (fun k => k ≤ ts.length ∧ (ts.take k).any (late day) = false) (fun k => ts.length - k) 0 ⟨Nat.zero_le _, rfl⟩ rfl rfl ?_
    rintro k H ⟨hk, hno⟩ rfl
    simp only [walkS, wl, rgets, retv, argsEnv, ev, cst, cst1, cstL, AEnv.get, AEnv.trim, envput, qstep, abin, aun, evs, evo, deref, qload, target, if_true, if_false, Nat.reduceEqDiff, reduceIte, Nat.reduceAdd, AV.cells, AV.isTuple, setMany, alen, aiaddr, afill, Nat.reduceLeDiff, Nat.reduceMul, Nat.reduceLT, afillE, List.replicate]
    refine withBool_intro ?_ ?_ <;> intro hb <;> simp only [walkS, wl, rgets, retv, argsEnv, ev, cst, cst1, cstL, AEnv.get, AEnv.trim, envput, qstep, abin, aun, evs, evo, deref, qload, target, if_true, if_false, Nat.reduceEqDiff, reduceIte, Nat.reduceAdd, AV.cells, AV.isTuple, setMany, alen, aiaddr, afill, Nat.reduceLeDiff, Nat.reduceMul, Nat.reduceLT, afillE, List.replicate]
    · have hlt : k < ts.length := by simpa using hb
      have w1 := w_succ (k := k) (by omega)
      have hki : ((k : Int) < ((ts.length : Nat) : Int)) := by omega
      simp only [walkS, wl, rgets, retv, argsEnv, ev, cst, cst1, cstL, AEnv.get, AEnv.trim, envput, qstep, abin, aun, evs, evo, deref, qload, target, if_true, if_false, Nat.reduceEqDiff, reduceIte, Nat.reduceAdd, AV.cells, AV.isTuple, setMany, alen, aiaddr, afill, Nat.reduceLeDiff, Nat.reduceMul, Nat.reduceLT, afillE, List.replicate, oh, trows_length, trow_get hlt, hki]
      refine acall_callv ?_
      simp only [walkS, wl, rgets, retv, argsEnv, ev, cst, cst1, cstL, AEnv.get, AEnv.trim, envput, qstep, abin, aun, evs, evo, deref, qload, target, if_true, if_false, Nat.reduceEqDiff, reduceIte, Nat.reduceAdd, AV.cells, AV.isTuple, setMany, alen, aiaddr, afill, Nat.reduceLeDiff, Nat.reduceMul, Nat.reduceLT, afillE, List.replicate, withFun_app, funK_app, List.nil_append, List.cons_append]
      refine call_pure (late_ok ts[k] day) (frzL_of' (d := 3) (carL_cons car_td cf)) ?_
      simp only [walkS, wl, rgets, retv, argsEnv, ev, cst, cst1, cstL, AEnv.get, AEnv.trim, envput, qstep, abin, aun, evs, evo, deref, qload, target, if_true, if_false, Nat.reduceEqDiff, reduceIte, Nat.reduceAdd, AV.cells, AV.isTuple, setMany, alen, aiaddr, afill, Nat.reduceLeDiff, Nat.reduceMul, Nat.reduceLT, afillE, List.replicate]
      refine withBool_intro ?_ ?_ <;> intro hp <;> simp only [walkS, wl, rgets, retv, argsEnv, ev, cst, cst1, cstL, AEnv.get, AEnv.trim, envput, qstep, abin, aun, evs, evo, deref, qload, target, if_true, if_false, Nat.reduceEqDiff, reduceIte, Nat.reduceAdd, AV.cells, AV.isTuple, setMany, alen, aiaddr, afill, Nat.reduceLeDiff, Nat.reduceMul, Nat.reduceLT, afillE, List.replicate, w1]
      · rw [fiI_hit hlt hno hp]
      · exact loop_end (k + 1) ⟨hlt, any_take hlt hno (by simpa [late] using hp)⟩ (by omega) rfl rfl
    · have hk' : k = ts.length := by simp at hb; omega
      subst hk'
      rw [List.take_length] at hno
      rw [fiI_miss hno]
theorem tclone_a {b : Bool} (l : List Tst) (hl : l.length ≤ 1000) (H : AHeap) : ACall Tryd.prog 109 [.ro b (trows l)] H fun x H' => Acc H.length H' x 26 4 (trows l) ∧ H.length ≤ H'.length ∧ ∀ i, i < H.length → AHeap.obj H' i = AHeap.obj H i := by
  refine ACall.intro text109 (by simp) ?_
  unfold ir109
  have all : ∀ l : List Tst, ((trows l).all fun e => e.length == 4) = true := fun l => by simp [trows]
  simp only [walkS, wl, rgets, retv, argsEnv, ev, cst, cst1, cstL, AEnv.get, AEnv.trim, envput, qstep, abin, aun, evs, evo, deref, qload, target, if_true, if_false, Nat.reduceEqDiff, reduceIte, Nat.reduceAdd, AV.cells, AV.isTuple, setMany, alen, aiaddr, afill, Nat.reduceLeDiff, Nat.reduceMul, Nat.reduceLT, afillE, List.replicate]
  refine acall_isnil rfl rfl (fun hp => ?_) fun hp c => ?_
  · simp only [walkS, wl, rgets, retv, argsEnv, ev, cst, cst1, cstL, AEnv.get, AEnv.trim, envput, qstep, abin, aun, evs, evo, deref, qload, target, if_true, if_false, Nat.reduceEqDiff, reduceIte, Nat.reduceAdd, AV.cells, AV.isTuple, setMany, alen, aiaddr, afill, Nat.reduceLeDiff, Nat.reduceMul, Nat.reduceLT, afillE, List.replicate]
    refine acc_appendL (lo := H.length) (els := []) (Nat.le_refl _) (.inl ⟨rfl, rfl⟩) rfl rfl (asrc_ro (all l)) (by rw [trows_length]; simp only [List.length_nil]; omega) fun a H1 y1 y2 y3 => ?_
    simp only [walkS, wl, rgets, retv, argsEnv, ev, cst, cst1, cstL, AEnv.get, AEnv.trim, envput, qstep, abin, aun, evs, evo, deref, qload, target, if_true, if_false, Nat.reduceEqDiff, reduceIte, Nat.reduceAdd, AV.cells, AV.isTuple, setMany, alen, aiaddr, afill, Nat.reduceLeDiff, Nat.reduceMul, Nat.reduceLT, afillE, List.replicate]
    exact ⟨y2, y1, y3⟩
  · have h0 : l = [] := by
      have : l.length = 0 := by rw [trows_length] at hp; omega
      exact List.eq_nil_of_length_eq_zero this
    subst h0
    simp only [walkS, wl, rgets, retv, argsEnv, ev, cst, cst1, cstL, AEnv.get, AEnv.trim, envput, qstep, abin, aun, evs, evo, deref, qload, target, if_true, if_false, Nat.reduceEqDiff, reduceIte, Nat.reduceAdd, AV.cells, AV.isTuple, setMany, alen, aiaddr, afill, Nat.reduceLeDiff, Nat.reduceMul, Nat.reduceLT, afillE, List.replicate]
    refine withBool_intro ?_ ?_ <;> intro h <;> simp only [walkS, wl, rgets, retv, argsEnv, ev, cst, cst1, cstL, AEnv.get, AEnv.trim, envput, qstep, abin, aun, evs, evo, deref, qload, target, if_true, if_false, Nat.reduceEqDiff, reduceIte, Nat.reduceAdd, AV.cells, AV.isTuple, setMany, alen, aiaddr, afill, Nat.reduceLeDiff, Nat.reduceMul, Nat.reduceLT, afillE, List.replicate]
    · exact ⟨.inl ⟨rfl, rfl⟩, Nat.le_refl _, by intros; first | rfl | trivial⟩
    · refine acc_appendL (lo := H.length) (els := []) (Nat.le_refl _) (.inl ⟨rfl, rfl⟩) rfl rfl (asrc_ro (all [])) (by simp [trows]) fun a H1 y1 y2 y3 => ?_
      simp only [walkS, wl, rgets, retv, argsEnv, ev, cst, cst1, cstL, AEnv.get, AEnv.trim, envput, qstep, abin, aun, evs, evo, deref, qload, target, if_true, if_false, Nat.reduceEqDiff, reduceIte, Nat.reduceAdd, AV.cells, AV.isTuple, setMany, alen, aiaddr, afill, Nat.reduceLeDiff, Nat.reduceMul, Nat.reduceLT, afillE, List.replicate]
      exact ⟨y2, y1, y3⟩
theorem kept_all {day : Int} {ts : List Tst} (h : ts.any (late day) = false) : kept day ts = ts := by
  unfold kept
  rw [List.filter_eq_self]
  intro t ht
  have := (List.any_eq_false.1 h) t ht
  simpa using this
theorem kept_take {day : Int} {ts : List Tst} {j : Nat} (h : j < ts.length) : kept day (ts.take (j + 1)) = if late day ts[j] = true then kept day (ts.take j) else kept day (ts.take j) ++ [ts[j]] := by
  unfold kept
  rw [List.take_succ_eq_append_getElem h, List.filter_append]
  split
  · rename_i h1; simp [h1]
  · rename_i h1; simp [h1]
theorem kept_len {day : Int} {ts : List Tst} : (kept day ts).length ≤ ts.length := List.length_filter_le _ _
theorem setMany_td {x : Tst} {e : List AV} (h : e.length = 4) : setMany e 0 [I x.1, I x.2.1, I x.2.2.1, I x.2.2.2] = td x := by
  match e, h with
  | [a, b, c, d], _ => rfl
theorem tdel_a {h hd : Nat} {ts : List Tst} {day : Int} {H0 : AHeap} (hl : ts.length ≤ 1000) (a : AV) (ha : (a = .nilSlice ∧ ts = []) ∨ (a = .own h ts.length 0 ts.length ∧ AHeap.obj H0 h = some ⟨26, 4, trows ts⟩)) (od : AHeap.obj H0 hd = some ⟨3, 1, [[I day]]⟩) (hne : hd ≠ h) : ACall Tryd.prog 108 [a, .func (.func 110) [] [.ptr hd 1 0 0]] H0 fun x H =>
    H0.length ≤ H.length ∧ (∀ i, i < H0.length → i ≠ h → AHeap.obj H i = AHeap.obj H0 i) ∧ ((x = .nilSlice ∧ kept day ts = []) ∨ ∃ Z, x = .own h ts.length 0 (kept day ts).length ∧ AHeap.obj H h = some ⟨26, 4, trows (kept day ts) ++ Z⟩ ∧ (kept day ts).length + Z.length = ts.length) := by
  refine ACall.intro text108 (by simp) ?_
  unfold ir108
  simp only [walkS, wl, rgets, retv, argsEnv, ev, cst, cst1, cstL, AEnv.get, AEnv.trim, envput, qstep, abin, aun, evs, evo, deref, qload, target, if_true, if_false, Nat.reduceEqDiff, reduceIte, Nat.reduceAdd, AV.cells, AV.isTuple, setMany, alen, aiaddr, afill, Nat.reduceLeDiff, Nat.reduceMul, Nat.reduceLT, afillE, List.replicate]
  refine (tidx_a hl a ha od (Z := [])).mono ?_
  rintro x H ⟨rfl, rfl⟩
  simp only [walkS, wl, rgets, retv, argsEnv, ev, cst, cst1, cstL, AEnv.get, AEnv.trim, envput, qstep, abin, aun, evs, evo, deref, qload, target, if_true, if_false, Nat.reduceEqDiff, reduceIte, Nat.reduceAdd, AV.cells, AV.isTuple, setMany, alen, aiaddr, afill, Nat.reduceLeDiff, Nat.reduceMul, Nat.reduceLT, afillE, List.replicate]
  cases hany : ts.any (late day) with
  | false =>
    rw [fiI_miss hany]
    simp only [walkS, wl, rgets, retv, argsEnv, ev, cst, cst1, cstL, AEnv.get, AEnv.trim, envput, qstep, abin, aun, evs, evo, deref, qload, target, if_true, if_false, Nat.reduceEqDiff, reduceIte, Nat.reduceAdd, AV.cells, AV.isTuple, setMany, alen, aiaddr, afill, Nat.reduceLeDiff, Nat.reduceMul, Nat.reduceLT, afillE, List.replicate, beq_self_eq_true]
    rw [kept_all hany]
    refine ⟨Nat.le_refl _, fun _ _ _ => trivial, ?_⟩
    rcases ha with h1 | ⟨h1, h2⟩
    · exact .inl h1
    · exact .inr ⟨[], h1, by rw [List.append_nil]; exact h2, by simp⟩
  | true =>
    have hfi : fiI (late day) ts = ((ts.findIdx (late day) : Nat) : Int) := by unfold fiI; rw [if_pos hany]
    have hne1 : (((ts.findIdx (late day) : Nat) : Int) == -1) = false := by simp
    rw [hfi]
    obtain ⟨p, hp⟩ : ∃ p, p = ts.findIdx (late day) := ⟨_, rfl⟩
    have hpl : p < ts.length := by
      obtain ⟨t, h1, h2⟩ := List.any_eq_true.1 hany
      rw [hp]; exact List.findIdx_lt_length_of_exists ⟨t, h1, h2⟩
    have hpt : late day ts[p] = true := by
      have := List.findIdx_getElem (p := late day) (xs := ts) (w := by rw [← hp]; exact hpl)
      simp only [← hp] at this; exact this
    have hpk : kept day (ts.take p) = ts.take p := by
      unfold kept
      rw [List.filter_eq_self]
      intro t ht
      obtain ⟨q, h1, h2⟩ := List.getElem_of_mem ht
      have hq : q < p := by simp at h1; omega
      rw [List.getElem_take] at h2
      have := List.not_of_lt_findIdx (p := late day) (xs := ts) (i := q) (by rw [← hp]; exact hq)
      rw [← h2]; simpa using this
    rw [← hp] at hne1 ⊢
    rcases ha with ⟨-, h2⟩ | ⟨rfl, oh⟩
    · rw [h2] at hpl; simp at hpl
    have hlt := AHeap.obj_lt oh
    have w0 := w_succ (k := p) (by omega)
    simp only [walkS, wl, rgets, retv, argsEnv, ev, cst, cst1, cstL, AEnv.get, AEnv.trim, envput, qstep, abin, aun, evs, evo, deref, qload, target, if_true, if_false, Nat.reduceEqDiff, reduceIte, Nat.reduceAdd, AV.cells, AV.isTuple, setMany, alen, aiaddr, afill, Nat.reduceLeDiff, Nat.reduceMul, Nat.reduceLT, afillE, List.replicate, hne1, w0]
    have kl : ∀ j, (kept day (ts.take j)).length ≤ j := fun j => by
      have := kept_len (day := day) (ts := ts.take j); simp at this; omega
    have start : kept day (ts.take (p + 1)) ++ [ts[p]] ++ ts.drop (p + 1) = ts := by
      rw [kept_take hpl, if_pos hpt, hpk, List.append_assoc, List.singleton_append, ← List.drop_eq_getElem_cons hpl, List.take_append_drop]
    refine awp_loop (σ := Nat × List Tst) (fun s => [(0, .own h ts.length 0 ts.length), (1, .func (.func 110) [] [.ptr hd 1 0 0]), (5, I (kept day (ts.take s.1)).length), (6, I s.1)])
      (fun s G => H.length ≤ G.length ∧ (∀ i, i < H.length → i ≠ h → AHeap.obj G i = AHeap.obj H i) ∧ AHeap.obj G h = some ⟨26, 4, trows (kept day (ts.take s.1) ++ s.2 ++ ts.drop s.1)⟩)
      (fun s => s.1 ≤ ts.length ∧ (kept day (ts.take s.1)).length + s.2.length = s.1 ∧ 1 ≤ s.2.length) (fun s => ts.length - s.1) (p + 1, [ts[p]])
      ⟨hpl, by simp only [List.length_singleton]; rw [kept_take hpl, if_pos hpt, hpk, List.length_take]; omega, by simp⟩ (by simp only [List.cons.injEq, Prod.mk.injEq, true_and, and_true]; rw [kept_take hpl, if_pos hpt, hpk, List.length_take, Nat.min_eq_left (by omega)]) ⟨Nat.le_refl _, fun _ _ _ => rfl, by simp only; rw [start]; exact oh⟩ ?_
    rintro ⟨j, xs⟩ G ⟨hj, hxs, hx1⟩ ⟨hG, hkeep, og⟩
    simp only at hj hxs hx1 hG hkeep og
    obtain ⟨L, hL⟩ : ∃ L, L = kept day (ts.take j) ++ xs ++ ts.drop j := ⟨_, rfl⟩
    have tot : L.length = ts.length := by rw [hL]; simp only [List.length_append, List.length_drop]; omega
    rw [← hL] at og
    simp only [walkS, wl, rgets, retv, argsEnv, ev, cst, cst1, cstL, AEnv.get, AEnv.trim, envput, qstep, abin, aun, evs, evo, deref, qload, target, if_true, if_false, Nat.reduceEqDiff, reduceIte, Nat.reduceAdd, AV.cells, AV.isTuple, setMany, alen, aiaddr, afill, Nat.reduceLeDiff, Nat.reduceMul, Nat.reduceLT, afillE, List.replicate, og, trows_length, tot]
    refine withBool_intro ?_ ?_ <;> intro hb <;> simp only [walkS, wl, rgets, retv, argsEnv, ev, cst, cst1, cstL, AEnv.get, AEnv.trim, envput, qstep, abin, aun, evs, evo, deref, qload, target, if_true, if_false, Nat.reduceEqDiff, reduceIte, Nat.reduceAdd, AV.cells, AV.isTuple, setMany, alen, aiaddr, afill, Nat.reduceLeDiff, Nat.reduceMul, Nat.reduceLT, afillE, List.replicate]
    · have hjl : j < ts.length := by simpa using hb
      have w1 := w_succ (k := j) (by omega)
      have hji : ((j : Int) < ((ts.length : Nat) : Int)) := by omega
      have gj : (trows L)[j]? = some (td ts[j]) := by
        rw [trow_get (by rw [tot]; exact hjl)]
        congr 2
        simp only [hL]
        rw [List.getElem_append_right (by simp only [List.length_append]; omega)]
        simp only [List.length_append, hxs, Nat.sub_self, List.getElem_drop, Nat.add_zero]
      simp only [walkS, wl, rgets, retv, argsEnv, ev, cst, cst1, cstL, AEnv.get, AEnv.trim, envput, qstep, abin, aun, evs, evo, deref, qload, target, if_true, if_false, Nat.reduceEqDiff, reduceIte, Nat.reduceAdd, AV.cells, AV.isTuple, setMany, alen, aiaddr, afill, Nat.reduceLeDiff, Nat.reduceMul, Nat.reduceLT, afillE, List.replicate, og, trows_length, tot, hji, gj]
      refine storeR rfl rfl AHeap.obj_push_eq rfl ⟨rfl, rfl, rfl, by simp⟩ fun H1 y1 y2 y3 => ?_
      simp only [AV.cells, setMany, List.set_cons_zero, List.set_cons_succ] at y2
      simp only [List.length_append, List.length_cons, List.length_nil] at y1
      have og := (y3 h (by omega)).trans (obj_keep og)
      have od1 := (y3 hd (by have := AHeap.obj_lt od; omega)).trans (obj_keep ((hkeep hd (AHeap.obj_lt od) hne).trans od))
      simp only [walkS, wl, rgets, retv, argsEnv, ev, cst, cst1, cstL, AEnv.get, AEnv.trim, envput, qstep, abin, aun, evs, evo, deref, qload, target, if_true, if_false, Nat.reduceEqDiff, reduceIte, Nat.reduceAdd, AV.cells, AV.isTuple, setMany, alen, aiaddr, afill, Nat.reduceLeDiff, Nat.reduceMul, Nat.reduceLT, afillE, List.replicate, y2]
      refine acall_callv ?_
      have cf : carL (carry false H1 3) [.ptr hd 1 0 0] = some [.rop [I day]] := carL_cons (car_ptr (by simp only [deref, od1]; rfl) (carL_cons car_int rfl)) rfl
      simp only [walkS, wl, rgets, retv, argsEnv, ev, cst, cst1, cstL, AEnv.get, AEnv.trim, envput, qstep, abin, aun, evs, evo, deref, qload, target, if_true, if_false, Nat.reduceEqDiff, reduceIte, Nat.reduceAdd, AV.cells, AV.isTuple, setMany, alen, aiaddr, afill, Nat.reduceLeDiff, Nat.reduceMul, Nat.reduceLT, afillE, List.replicate, withFun_app, funK_app, List.nil_append, List.cons_append]
      refine call_pure (late_ok ts[j] day) (frzL_of' (d := 3) (carL_cons car_td cf)) ?_
      simp only [walkS, wl, rgets, retv, argsEnv, ev, cst, cst1, cstL, AEnv.get, AEnv.trim, envput, qstep, abin, aun, evs, evo, deref, qload, target, if_true, if_false, Nat.reduceEqDiff, reduceIte, Nat.reduceAdd, AV.cells, AV.isTuple, setMany, alen, aiaddr, afill, Nat.reduceLeDiff, Nat.reduceMul, Nat.reduceLT, afillE, List.replicate]
      refine withBool_intro ?_ ?_ <;> intro hc <;> simp only [walkS, wl, rgets, retv, argsEnv, ev, cst, cst1, cstL, AEnv.get, AEnv.trim, envput, qstep, abin, aun, evs, evo, deref, qload, target, if_true, if_false, Nat.reduceEqDiff, reduceIte, Nat.reduceAdd, AV.cells, AV.isTuple, setMany, alen, aiaddr, afill, Nat.reduceLeDiff, Nat.reduceMul, Nat.reduceLT, afillE, List.replicate]
      · have hnl : late day ts[j] = false := by simpa [late] using hc
        have hK : (kept day (ts.take j)).length < ts.length := by omega
        obtain ⟨K, hKe⟩ : ∃ K, K = (kept day (ts.take j)).length := ⟨_, rfl⟩
        rw [← hKe] at hK
        have hKi : ((K : Int) < ((ts.length : Nat) : Int)) := by omega
        have hKL : K < L.length := by omega
        rw [← hKe]
        simp only [walkS, wl, rgets, retv, argsEnv, ev, cst, cst1, cstL, AEnv.get, AEnv.trim, envput, qstep, abin, aun, evs, evo, deref, qload, target, if_true, if_false, Nat.reduceEqDiff, reduceIte, Nat.reduceAdd, AV.cells, AV.isTuple, setMany, alen, aiaddr, afill, Nat.reduceLeDiff, Nat.reduceMul, Nat.reduceLT, afillE, List.replicate, y2, og, trows_length, tot, hKi]
        refine storeR rfl rfl og (trow_get hKL) ⟨by rw [trows_length, tot], rfl, rfl, by simp [td]⟩ fun H2 z1 z2 z3 => ?_
        have e1 : setMany (td L[K]) 0 [I ts[j].1, I ts[j].2.1, I ts[j].2.2.1, I ts[j].2.2.2] = td ts[j] := setMany_td rfl
        have e2 : (trows L).set K (td ts[j]) = trows (L.set K ts[j]) := by simp only [trows, List.map_set]
        simp only [AV.cells] at z2
        rw [e1, e2] at z2
        obtain ⟨x0, xs0, rfl⟩ : ∃ x0 xs0, xs = x0 :: xs0 := by
          cases xs with
          | nil => simp at hx1
          | cons x0 xs0 => exact ⟨x0, xs0, rfl⟩
        have e3 : L.set K ts[j] = kept day (ts.take (j + 1)) ++ (xs0 ++ [ts[j]]) ++ ts.drop (j + 1) := by
          rw [kept_take hjl, if_neg (by simp [hnl]), hL, List.drop_eq_getElem_cons hjl, List.append_assoc, List.set_append_right _ _ (by omega), ← hKe, Nat.sub_self]
          simp
        rw [e3] at z2
        have w2 := w_succ (k := K) (by omega)
        simp only [walkS, wl, rgets, retv, argsEnv, ev, cst, cst1, cstL, AEnv.get, AEnv.trim, envput, qstep, abin, aun, evs, evo, deref, qload, target, if_true, if_false, Nat.reduceEqDiff, reduceIte, Nat.reduceAdd, AV.cells, AV.isTuple, setMany, alen, aiaddr, afill, Nat.reduceLeDiff, Nat.reduceMul, Nat.reduceLT, afillE, List.replicate, w1, w2]
        refine loop_end (j + 1, xs0 ++ [ts[j]]) ⟨hjl, by simp only [List.length_cons] at hxs; rw [kept_take hjl, if_neg (by simp [hnl])]; simp only [List.length_append, List.length_singleton]; omega, by simp⟩ (by simp only; omega) (by simp only [List.cons.injEq, Prod.mk.injEq, true_and, and_true]; rw [kept_take hjl, if_neg (by simp [hnl]), List.length_append, List.length_singleton, ← hKe]) ⟨by omega, fun i h1 h2 => ?_, by simp only [List.append_assoc] at z2 ⊢; exact z2⟩
        rw [z3 i h2, y3 i (by omega), AHeap.obj_push_lt (by omega)]
        exact hkeep i h1 h2
      · have hnl : late day ts[j] = true := by simpa [late] using hc
        simp only [walkS, wl, rgets, retv, argsEnv, ev, cst, cst1, cstL, AEnv.get, AEnv.trim, envput, qstep, abin, aun, evs, evo, deref, qload, target, if_true, if_false, Nat.reduceEqDiff, reduceIte, Nat.reduceAdd, AV.cells, AV.isTuple, setMany, alen, aiaddr, afill, Nat.reduceLeDiff, Nat.reduceMul, Nat.reduceLT, afillE, List.replicate, w1]
        refine loop_end (j + 1, xs ++ [ts[j]]) ⟨hjl, by rw [kept_take hjl, if_pos hnl]; simp only [List.length_append, List.length_singleton]; omega, by simp⟩ (by simp only; omega) (by simp only [List.cons.injEq, Prod.mk.injEq, true_and, and_true]; rw [kept_take hjl, if_pos hnl]) ⟨by omega, fun i h1 h2 => ?_, ?_⟩
        · rw [y3 i (by omega), AHeap.obj_push_lt (by omega)]
          exact hkeep i h1 h2
        · rw [og, hL, kept_take hjl, if_pos hnl, List.drop_eq_getElem_cons hjl]; simp
    · have hj' : j = ts.length := by simp at hb; omega
      subst hj'
      rw [List.take_length] at hxs hL ⊢
      have hK : (kept day ts).length ≤ ts.length := by omega
      simp only [walkS, wl, rgets, retv, argsEnv, ev, cst, cst1, cstL, AEnv.get, AEnv.trim, envput, qstep, abin, aun, evs, evo, deref, qload, target, if_true, if_false, Nat.reduceEqDiff, reduceIte, Nat.reduceAdd, AV.cells, AV.isTuple, setMany, alen, aiaddr, afill, Nat.reduceLeDiff, Nat.reduceMul, Nat.reduceLT, afillE, List.replicate, aslice_own og (by rw [trows_length, tot]) (abnds_lo hK)]
      refine clearR rfl og (by rw [trows_length, tot]) (by omega) fun H2 z1 z2 z3 => ?_
      have oK : (trows L).take (kept day ts).length = trows (kept day ts) := by
        rw [hL]; simp only [trows, ← List.map_take]
        rw [List.append_assoc, List.take_left']
        rfl
      rw [oK, List.drop_eq_nil_of_le (by rw [trows_length, tot]; omega), List.append_nil] at z2
      have hL2 : (trows (kept day ts) ++ List.replicate (ts.length - (kept day ts).length) [I 0, I 0, I 0, I 0]).length = ts.length := by
        rw [List.length_append, trows_length, List.length_replicate]; omega
      simp only [walkS, wl, rgets, retv, argsEnv, ev, cst, cst1, cstL, AEnv.get, AEnv.trim, envput, qstep, abin, aun, evs, evo, deref, qload, target, if_true, if_false, Nat.reduceEqDiff, reduceIte, Nat.reduceAdd, AV.cells, AV.isTuple, setMany, alen, aiaddr, afill, Nat.reduceLeDiff, Nat.reduceMul, Nat.reduceLT, afillE, List.replicate, aslice_own z2 hL2 (abnds_hi hK)]
      refine ⟨by omega, fun i h1 h2 => (z3 i h2).trans (hkeep i h1 h2), .inr ⟨_, rfl, z2, by rw [List.length_replicate]; omega⟩⟩
end Go.Proofs.YtgadlckkmhhmbaaDoor
/- Contracts: the tests that are known on a day; a stretch that holds. -/
namespace Go.Proofs.YtgadlckkmhhmbaaDoor
open Go.Awp Go.Grams
set_option linter.unusedSimpArgs false
set_option linter.unusedVariables false
set_option linter.unusedSectionVars false
set_option maxRecDepth 10000
theorem known_ok (no rate day : Int) (ts : List Tst) (hl : ts.length ≤ 1000) : PCall Tryd.prog 53 [sc no rate ts, I day] (.agg [I no, I rate, .ro true (trows (kept day ts))]) := by
  refine PCall.intro text53 (by simp) ?_
  unfold ir53
  simp only [walkS, wl, rgets, retv, argsEnv, ev, cst, cst1, cstL, AEnv.get, AEnv.trim, envput, qstep, abin, aun, evs, evo, deref, qload, target, if_true, if_false, Nat.reduceEqDiff, reduceIte, Nat.reduceAdd, AV.cells, AV.isTuple, setMany, alen, aiaddr, afill, Nat.reduceLeDiff, Nat.reduceMul, Nat.reduceLT, afillE, List.replicate]
  refine (tclone_a ts hl _).mono ?_
  rintro a H1 ⟨hacc, hlen, hkeep⟩
  have l3 : 3 ≤ H1.length := hlen
  have o0 : AHeap.obj H1 0 = some ⟨24, 3, [[I no, I rate, .ro false (trows ts)]]⟩ := hkeep 0 (by simp)
  have o1 : AHeap.obj H1 1 = some ⟨3, 1, [[I day]]⟩ := hkeep 1 (by simp)
  have o2 : AHeap.obj H1 2 = some ⟨24, 3, [[I 0, I 0, .nilSlice]]⟩ := hkeep 2 (by simp)
  obtain ⟨h, h3, ha⟩ : ∃ h, 3 ≤ h ∧ ((a = .nilSlice ∧ ts = []) ∨ (a = .own h ts.length 0 ts.length ∧ AHeap.obj H1 h = some ⟨26, 4, trows ts⟩)) := by
    rcases hacc with ⟨g1, g2⟩ | ⟨h, g1, g2, g3⟩
    · exact ⟨3, Nat.le_refl _, .inl ⟨g2, by simpa [trows] using g1⟩⟩
    · exact ⟨h, g1, .inr ⟨by rw [g2, trows_length], g3⟩⟩
  simp only [walkS, wl, rgets, retv, argsEnv, ev, cst, cst1, cstL, AEnv.get, AEnv.trim, envput, qstep, abin, aun, evs, evo, deref, qload, target, if_true, if_false, Nat.reduceEqDiff, reduceIte, Nat.reduceAdd, AV.cells, AV.isTuple, setMany, alen, aiaddr, afill, Nat.reduceLeDiff, Nat.reduceMul, Nat.reduceLT, afillE, List.replicate]
  refine (tdel_a hl a ha o1 (by omega)).mono ?_
  rintro x H2 ⟨hlen2, hkeep2, hx⟩
  have o0 := (hkeep2 0 (by omega) (by omega)).trans o0
  have o2 := (hkeep2 2 (by omega) (by omega)).trans o2
  rcases hx with ⟨rfl, hk⟩ | ⟨Z, rfl, oz, hz⟩
  · simp only [walkS, wl, rgets, retv, argsEnv, ev, cst, cst1, cstL, AEnv.get, AEnv.trim, envput, qstep, abin, aun, evs, evo, deref, qload, target, if_true, if_false, Nat.reduceEqDiff, reduceIte, Nat.reduceAdd, AV.cells, AV.isTuple, setMany, alen, aiaddr, afill, Nat.reduceLeDiff, Nat.reduceMul, Nat.reduceLT, afillE, List.replicate]
    refine storeR rfl rfl o0 rfl ⟨rfl, rfl, rfl, by simp⟩ fun H3 y1 y2 y3 => ?_
    simp only [AV.cells, setMany, List.set_cons_zero, List.set_cons_succ] at y2
    have o2 := (y3 2 (by omega)).trans o2
    simp only [walkS, wl, rgets, retv, argsEnv, ev, cst, cst1, cstL, AEnv.get, AEnv.trim, envput, qstep, abin, aun, evs, evo, deref, qload, target, if_true, if_false, Nat.reduceEqDiff, reduceIte, Nat.reduceAdd, AV.cells, AV.isTuple, setMany, alen, aiaddr, afill, Nat.reduceLeDiff, Nat.reduceMul, Nat.reduceLT, afillE, List.replicate, y2]
    refine storeR rfl rfl o2 rfl ⟨rfl, rfl, rfl, by simp⟩ fun H4 z1 z2 z3 => ?_
    simp only [AV.cells, setMany, List.set_cons_zero, List.set_cons_succ] at z2
    simp only [walkS, wl, rgets, retv, argsEnv, ev, cst, cst1, cstL, AEnv.get, AEnv.trim, envput, qstep, abin, aun, evs, evo, deref, qload, target, if_true, if_false, Nat.reduceEqDiff, reduceIte, Nat.reduceAdd, AV.cells, AV.isTuple, setMany, alen, aiaddr, afill, Nat.reduceLeDiff, Nat.reduceMul, Nat.reduceLT, afillE, List.replicate, z2]
    rw [hk]; exact out_agg3 out_int out_int out_nil rfl rfl rfl
  · simp only [walkS, wl, rgets, retv, argsEnv, ev, cst, cst1, cstL, AEnv.get, AEnv.trim, envput, qstep, abin, aun, evs, evo, deref, qload, target, if_true, if_false, Nat.reduceEqDiff, reduceIte, Nat.reduceAdd, AV.cells, AV.isTuple, setMany, alen, aiaddr, afill, Nat.reduceLeDiff, Nat.reduceMul, Nat.reduceLT, afillE, List.replicate]
    refine storeR rfl rfl o0 rfl ⟨rfl, rfl, rfl, by simp⟩ fun H3 y1 y2 y3 => ?_
    simp only [AV.cells, setMany, List.set_cons_zero, List.set_cons_succ] at y2
    have o2 := (y3 2 (by omega)).trans o2
    simp only [walkS, wl, rgets, retv, argsEnv, ev, cst, cst1, cstL, AEnv.get, AEnv.trim, envput, qstep, abin, aun, evs, evo, deref, qload, target, if_true, if_false, Nat.reduceEqDiff, reduceIte, Nat.reduceAdd, AV.cells, AV.isTuple, setMany, alen, aiaddr, afill, Nat.reduceLeDiff, Nat.reduceMul, Nat.reduceLT, afillE, List.replicate, y2]
    refine storeR rfl rfl o2 rfl ⟨rfl, rfl, rfl, by simp⟩ fun H4 z1 z2 z3 => ?_
    simp only [AV.cells, setMany, List.set_cons_zero, List.set_cons_succ] at z2
    have oz := (z3 h (by omega)).trans ((y3 h (by omega)).trans oz)
    have hZ : (trows (kept day ts) ++ Z).length = ts.length := by rw [List.length_append, trows_length]; exact hz
    simp only [walkS, wl, rgets, retv, argsEnv, ev, cst, cst1, cstL, AEnv.get, AEnv.trim, envput, qstep, abin, aun, evs, evo, deref, qload, target, if_true, if_false, Nat.reduceEqDiff, reduceIte, Nat.reduceAdd, AV.cells, AV.isTuple, setMany, alen, aiaddr, afill, Nat.reduceLeDiff, Nat.reduceMul, Nat.reduceLT, afillE, List.replicate, z2]
    exact out_agg3 out_int out_int (by
      have := car_cut (out := true) (d := 1) oz hZ (trows_simple _)
      rw [trows_length] at this
      exact out_of this) rfl rfl rfl
theorem holds_ok {no rate fr : Int} {ts : List Tst} {l : List Int} (hl : l.length ≤ 1000) (hok : ∀ t, t ∈ ts → okT t = true) (htl : ts.length ≤ 1000) (hf : 0 ≤ fr ∧ fr ≤ 1048576) (hr : 0 ≤ rate ∧ rate ≤ 1000)
    (hb : ∀ i (h : i < l.length), -1048576 ≤ l[i] ∧ l[i] ≤ 1048576) (hs : ∀ i (h : i + 1 < l.length), l[i + 1] - l[i] ≤ rate ∧ l[i] - l[i + 1] ≤ rate)
    (ht : ∀ t, t ∈ ts → ∀ i (h : i < l.length), t.1 - fr = (i : Int) → t.2.2.1 ≤ l[i] ∧ l[i] ≤ t.2.2.2) :
    PCall Tryd.prog 52 [sc no rate ts, I fr, .ro false (ic l)] (.bool true) := by
  refine PCall.intro text52 (by simp) ?_
  unfold ir52
  simp only [walkS, wl, rgets, retv, argsEnv, ev, cst, cst1, cstL, AEnv.get, AEnv.trim, envput, qstep, abin, aun, evs, evo, deref, qload, target, if_true, if_false, Nat.reduceEqDiff, reduceIte, Nat.reduceAdd, AV.cells, AV.isTuple, setMany, alen, aiaddr, afill, Nat.reduceLeDiff, Nat.reduceMul, Nat.reduceLT, afillE, List.replicate, ic_length]
  refine awp_loop (σ := Nat) (fun k => [(1, I fr), (2, .ro false (ic l)), (3, .ptr 0 1 0 0), (12, .ro false (ic l)), (13, I l.length), (14, I k)]) (fun _ G => AHeap.obj G 0 = some ⟨24, 3, [[I no, I rate, .ro false (trows ts)]]⟩) (fun k => k ≤ l.length) (fun k => l.length - k) 0 (Nat.zero_le _) rfl rfl ?_
  rintro k G hk o0
  simp only [walkS, wl, rgets, retv, argsEnv, ev, cst, cst1, cstL, AEnv.get, AEnv.trim, envput, qstep, abin, aun, evs, evo, deref, qload, target, if_true, if_false, Nat.reduceEqDiff, reduceIte, Nat.reduceAdd, AV.cells, AV.isTuple, setMany, alen, aiaddr, afill, Nat.reduceLeDiff, Nat.reduceMul, Nat.reduceLT, afillE, List.replicate]
  refine withBool_intro ?_ ?_ <;> intro hbb <;> simp only [walkS, wl, rgets, retv, argsEnv, ev, cst, cst1, cstL, AEnv.get, AEnv.trim, envput, qstep, abin, aun, evs, evo, deref, qload, target, if_true, if_false, Nat.reduceEqDiff, reduceIte, Nat.reduceAdd, AV.cells, AV.isTuple, setMany, alen, aiaddr, afill, Nat.reduceLeDiff, Nat.reduceMul, Nat.reduceLT, afillE, List.replicate]
  · have hlt : k < l.length := by simpa using hbb
    have w1 := w_succ (k := k) (by omega)
    have c1 : decide (l[k] < -1048576) = false := by have := hb k hlt; simp; omega
    have c2 : decide (l[k] > 1048576) = false := by have := hb k hlt; simp; omega
    simp only [walkS, wl, rgets, retv, argsEnv, ev, cst, cst1, cstL, AEnv.get, AEnv.trim, envput, qstep, abin, aun, evs, evo, deref, qload, target, if_true, if_false, Nat.reduceEqDiff, reduceIte, Nat.reduceAdd, AV.cells, AV.isTuple, setMany, alen, aiaddr, afill, Nat.reduceLeDiff, Nat.reduceMul, Nat.reduceLT, afillE, List.replicate, ic_get hlt, c1, c2]
    refine withGuard_intro ?_ ?_ <;> intro g1 <;> simp only [walkS, wl, rgets, retv, argsEnv, ev, cst, cst1, cstL, AEnv.get, AEnv.trim, envput, qstep, abin, aun, evs, evo, deref, qload, target, if_true, if_false, Nat.reduceEqDiff, reduceIte, Nat.reduceAdd, AV.cells, AV.isTuple, setMany, alen, aiaddr, afill, Nat.reduceLeDiff, Nat.reduceMul, Nat.reduceLT, afillE, List.replicate, g1]
    · have h0 : 0 < k := by simp at g1; omega
      have hlt1 : k - 1 < l.length := by omega
      have b1 := hb k hlt
      have b2 := hb (k - 1) hlt1
      have st := hs (k - 1) (by omega)
      have e : k - 1 + 1 = k := by omega
      simp only [e] at st
      have c3 : decide (IntKind.i64.wrap (l[k] - l[k - 1]) > rate) = false := by rw [wrap_id (by omega) (by omega)]; simp; omega
      have c4 : decide (IntKind.i64.wrap (l[k - 1] - l[k]) > rate) = false := by rw [wrap_id (by omega) (by omega)]; simp; omega
      simp only [walkS, wl, rgets, retv, argsEnv, ev, cst, cst1, cstL, AEnv.get, AEnv.trim, envput, qstep, abin, aun, evs, evo, deref, qload, target, if_true, if_false, Nat.reduceEqDiff, reduceIte, Nat.reduceAdd, AV.cells, AV.isTuple, setMany, alen, aiaddr, afill, Nat.reduceLeDiff, Nat.reduceMul, Nat.reduceLT, afillE, List.replicate, w_pred h0 (by omega), ic_get hlt1, o0, c3, c4, w1]
      exact loop_end (k + 1) hlt (by omega) rfl o0
    · simp only [walkS, wl, rgets, retv, argsEnv, ev, cst, cst1, cstL, AEnv.get, AEnv.trim, envput, qstep, abin, aun, evs, evo, deref, qload, target, if_true, if_false, Nat.reduceEqDiff, reduceIte, Nat.reduceAdd, AV.cells, AV.isTuple, setMany, alen, aiaddr, afill, Nat.reduceLeDiff, Nat.reduceMul, Nat.reduceLT, afillE, List.replicate, w1]
      exact loop_end (k + 1) hlt (by omega) rfl o0
  · simp only [walkS, wl, rgets, retv, argsEnv, ev, cst, cst1, cstL, AEnv.get, AEnv.trim, envput, qstep, abin, aun, evs, evo, deref, qload, target, if_true, if_false, Nat.reduceEqDiff, reduceIte, Nat.reduceAdd, AV.cells, AV.isTuple, setMany, alen, aiaddr, afill, Nat.reduceLeDiff, Nat.reduceMul, Nat.reduceLT, afillE, List.replicate, o0, trows_length]
    refine awp_loop (σ := Nat) (fun k => [(1, I fr), (2, .ro false (ic l)), (55, .ro false (trows ts)), (56, I ts.length), (57, I k)]) (fun _ G => True) (fun k => k ≤ ts.length) (fun k => ts.length - k) 0 (Nat.zero_le _) rfl trivial ?_
    rintro j G hj -
    simp only [walkS, wl, rgets, retv, argsEnv, ev, cst, cst1, cstL, AEnv.get, AEnv.trim, envput, qstep, abin, aun, evs, evo, deref, qload, target, if_true, if_false, Nat.reduceEqDiff, reduceIte, Nat.reduceAdd, AV.cells, AV.isTuple, setMany, alen, aiaddr, afill, Nat.reduceLeDiff, Nat.reduceMul, Nat.reduceLT, afillE, List.replicate]
    refine withBool_intro ?_ ?_ <;> intro hb2 <;> simp only [walkS, wl, rgets, retv, argsEnv, ev, cst, cst1, cstL, AEnv.get, AEnv.trim, envput, qstep, abin, aun, evs, evo, deref, qload, target, if_true, if_false, Nat.reduceEqDiff, reduceIte, Nat.reduceAdd, AV.cells, AV.isTuple, setMany, alen, aiaddr, afill, Nat.reduceLeDiff, Nat.reduceMul, Nat.reduceLT, afillE, List.replicate]
    · have hjl : j < ts.length := by simpa using hb2
      have w1 := w_succ (k := j) (by omega)
      have hT := okT_iff.1 (hok ts[j] (List.getElem_mem hjl))
      simp only [walkS, wl, rgets, retv, argsEnv, ev, cst, cst1, cstL, AEnv.get, AEnv.trim, envput, qstep, abin, aun, evs, evo, deref, qload, target, if_true, if_false, Nat.reduceEqDiff, reduceIte, Nat.reduceAdd, AV.cells, AV.isTuple, setMany, alen, aiaddr, afill, Nat.reduceLeDiff, Nat.reduceMul, Nat.reduceLT, afillE, List.replicate, trow_get hjl]
      refine storeR rfl rfl AHeap.obj_push_eq rfl ⟨rfl, rfl, rfl, by simp⟩ fun H1 y1 y2 y3 => ?_
      simp only [AV.cells, setMany, List.set_cons_zero, List.set_cons_succ] at y2
      have e1 : IntKind.i64.wrap (ts[j].1 - fr) = ts[j].1 - fr := wrap_id (by omega) (by omega)
      simp only [walkS, wl, rgets, retv, argsEnv, ev, cst, cst1, cstL, AEnv.get, AEnv.trim, envput, qstep, abin, aun, evs, evo, deref, qload, target, if_true, if_false, Nat.reduceEqDiff, reduceIte, Nat.reduceAdd, AV.cells, AV.isTuple, setMany, alen, aiaddr, afill, Nat.reduceLeDiff, Nat.reduceMul, Nat.reduceLT, afillE, List.replicate, y2, e1]
      refine withGuard_intro ?_ ?_ <;> intro g1 <;> simp only [walkS, wl, rgets, retv, argsEnv, ev, cst, cst1, cstL, AEnv.get, AEnv.trim, envput, qstep, abin, aun, evs, evo, deref, qload, target, if_true, if_false, Nat.reduceEqDiff, reduceIte, Nat.reduceAdd, AV.cells, AV.isTuple, setMany, alen, aiaddr, afill, Nat.reduceLeDiff, Nat.reduceMul, Nat.reduceLT, afillE, List.replicate, g1, ic_length]
      · refine withGuard_intro ?_ ?_ <;> intro g2 <;> simp only [walkS, wl, rgets, retv, argsEnv, ev, cst, cst1, cstL, AEnv.get, AEnv.trim, envput, qstep, abin, aun, evs, evo, deref, qload, target, if_true, if_false, Nat.reduceEqDiff, reduceIte, Nat.reduceAdd, AV.cells, AV.isTuple, setMany, alen, aiaddr, afill, Nat.reduceLeDiff, Nat.reduceMul, Nat.reduceLT, afillE, List.replicate, g2]
        · obtain ⟨i, hi⟩ : ∃ i : Nat, ts[j].1 - fr = (i : Int) := ⟨(ts[j].1 - fr).toNat, by simp at g1; omega⟩
          have hil : i < l.length := by simp at g2; omega
          have := ht ts[j] (List.getElem_mem hjl) i hil hi
          have c3 : decide (l[i] < ts[j].2.2.1) = false := by simp; omega
          have c4 : decide (l[i] > ts[j].2.2.2) = false := by simp; omega
          simp only [walkS, wl, rgets, retv, argsEnv, ev, cst, cst1, cstL, AEnv.get, AEnv.trim, envput, qstep, abin, aun, evs, evo, deref, qload, target, if_true, if_false, Nat.reduceEqDiff, reduceIte, Nat.reduceAdd, AV.cells, AV.isTuple, setMany, alen, aiaddr, afill, Nat.reduceLeDiff, Nat.reduceMul, Nat.reduceLT, afillE, List.replicate, hi, ic_get hil, y2, c3, c4]
          simp only [walkS, wl, rgets, retv, argsEnv, ev, cst, cst1, cstL, AEnv.get, AEnv.trim, envput, qstep, abin, aun, evs, evo, deref, qload, target, if_true, if_false, Nat.reduceEqDiff, reduceIte, Nat.reduceAdd, AV.cells, AV.isTuple, setMany, alen, aiaddr, afill, Nat.reduceLeDiff, Nat.reduceMul, Nat.reduceLT, afillE, List.replicate, w1]
          exact loop_end (j + 1) hjl (by omega) rfl trivial
        · simp only [walkS, wl, rgets, retv, argsEnv, ev, cst, cst1, cstL, AEnv.get, AEnv.trim, envput, qstep, abin, aun, evs, evo, deref, qload, target, if_true, if_false, Nat.reduceEqDiff, reduceIte, Nat.reduceAdd, AV.cells, AV.isTuple, setMany, alen, aiaddr, afill, Nat.reduceLeDiff, Nat.reduceMul, Nat.reduceLT, afillE, List.replicate, w1]
          exact loop_end (j + 1) hjl (by omega) rfl trivial
      · simp only [walkS, wl, rgets, retv, argsEnv, ev, cst, cst1, cstL, AEnv.get, AEnv.trim, envput, qstep, abin, aun, evs, evo, deref, qload, target, if_true, if_false, Nat.reduceEqDiff, reduceIte, Nat.reduceAdd, AV.cells, AV.isTuple, setMany, alen, aiaddr, afill, Nat.reduceLeDiff, Nat.reduceMul, Nat.reduceLT, afillE, List.replicate, w1]
        exact loop_end (j + 1) hjl (by omega) rfl trivial
    · exact out_bool
end Go.Proofs.YtgadlckkmhhmbaaDoor
