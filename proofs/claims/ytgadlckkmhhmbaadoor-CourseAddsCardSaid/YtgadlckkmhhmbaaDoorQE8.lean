/- CourseAdds: what follows the sums (all that the scale showed is greater by one number). -/
import Derived.Test.YtgadlckkmhhmbaaDoorQT8
import Derived.Test.YtgadlckkmhhmbaaDoorQTL
import Derived.Test.YtgadlckkmhhmbaaDoorQE0
import Derived.Test.YtgadlckkmhhmbaaDoorQC17
import Derived.Test.YtgadlckkmhhmbaaDoorQG7
set_option linter.unusedVariables false
set_option linter.unusedSimpArgs false
set_option linter.unusedSectionVars false
namespace Go.Proofs.YtgadlckkmhhmbaaDoor
open Go.Awp Go.Grams
set_option linter.unusedSimpArgs false
set_option linter.unusedVariables false
set_option linter.unusedSectionVars false
set_option maxRecDepth 10000
theorem kclone_a {b : Bool} (ks : List Stk) (hl : ks.length ≤ 1000) (H : AHeap) : ACall Tryd.prog 39 [.ro b (krows ks)] H fun x H' => Acc H.length H' x 64 5 (krows ks) ∧ H.length ≤ H'.length ∧ ∀ i, i < H.length → AHeap.obj H' i = AHeap.obj H i := by
  refine ACall.intro text39 (by simp) ?_
  unfold ir39
  simp only [walkS, wl, rgets, retv, argsEnv, ev, cst, cst1, cstL, AEnv.get, AEnv.trim, envput, qstep, abin, aun, evs, evo, deref, qload, target, if_true, if_false, Nat.reduceEqDiff, reduceIte, Nat.reduceAdd, AV.cells, AV.isTuple, setMany, alen, aiaddr, afill, Nat.reduceLeDiff, Nat.reduceMul, Nat.reduceLT, afillE, List.replicate]
  refine acall_isnil rfl rfl (fun hp => ?_) fun hp c => ?_
  · simp only [walkS, wl, rgets, retv, argsEnv, ev, cst, cst1, cstL, AEnv.get, AEnv.trim, envput, qstep, abin, aun, evs, evo, deref, qload, target, if_true, if_false, Nat.reduceEqDiff, reduceIte, Nat.reduceAdd, AV.cells, AV.isTuple, setMany, alen, aiaddr, afill, Nat.reduceLeDiff, Nat.reduceMul, Nat.reduceLT, afillE, List.replicate]
    refine acc_appendL (lo := H.length) (els := []) (Nat.le_refl _) (.inl ⟨rfl, rfl⟩) rfl rfl (asrc_ro (krows_all ks)) (by rw [krows_length]; simp only [List.length_nil]; omega) fun a H1 y1 y2 y3 => ?_
    simp only [walkS, wl, rgets, retv, argsEnv, ev, cst, cst1, cstL, AEnv.get, AEnv.trim, envput, qstep, abin, aun, evs, evo, deref, qload, target, if_true, if_false, Nat.reduceEqDiff, reduceIte, Nat.reduceAdd, AV.cells, AV.isTuple, setMany, alen, aiaddr, afill, Nat.reduceLeDiff, Nat.reduceMul, Nat.reduceLT, afillE, List.replicate]
    exact ⟨y2, y1, y3⟩
  · have h0 : ks = [] := by
      have : ks.length = 0 := by rw [krows_length] at hp; omega
      exact List.eq_nil_of_length_eq_zero this
    subst h0
    simp only [walkS, wl, rgets, retv, argsEnv, ev, cst, cst1, cstL, AEnv.get, AEnv.trim, envput, qstep, abin, aun, evs, evo, deref, qload, target, if_true, if_false, Nat.reduceEqDiff, reduceIte, Nat.reduceAdd, AV.cells, AV.isTuple, setMany, alen, aiaddr, afill, Nat.reduceLeDiff, Nat.reduceMul, Nat.reduceLT, afillE, List.replicate]
    refine withBool_intro ?_ ?_ <;> intro h <;> simp only [walkS, wl, rgets, retv, argsEnv, ev, cst, cst1, cstL, AEnv.get, AEnv.trim, envput, qstep, abin, aun, evs, evo, deref, qload, target, if_true, if_false, Nat.reduceEqDiff, reduceIte, Nat.reduceAdd, AV.cells, AV.isTuple, setMany, alen, aiaddr, afill, Nat.reduceLeDiff, Nat.reduceMul, Nat.reduceLT, afillE, List.replicate]
    · exact ⟨.inl ⟨rfl, rfl⟩, Nat.le_refl _, by intros; first | rfl | trivial⟩
    · refine acc_appendL (lo := H.length) (els := []) (Nat.le_refl _) (.inl ⟨rfl, rfl⟩) rfl rfl (asrc_ro (krows_all [])) (by simp [krows_length]) fun a H1 y1 y2 y3 => ?_
      simp only [walkS, wl, rgets, retv, argsEnv, ev, cst, cst1, cstL, AEnv.get, AEnv.trim, envput, qstep, abin, aun, evs, evo, deref, qload, target, if_true, if_false, Nat.reduceEqDiff, reduceIte, Nat.reduceAdd, AV.cells, AV.isTuple, setMany, alen, aiaddr, afill, Nat.reduceLeDiff, Nat.reduceMul, Nat.reduceLT, afillE, List.replicate]
      exact ⟨y2, y1, y3⟩
def bump (more : Int) (k : Stk) : Stk := (k.1, k.2.1, k.2.2.1 + more, k.2.2.2.1, k.2.2.2.2)
def mid (more : Int) (st : List Stk) (j : Nat) : List Stk := (st.take j).map (bump more) ++ st.drop j
theorem mid_len {more : Int} {st : List Stk} {j : Nat} (h : j ≤ st.length) : (mid more st j).length = st.length := by
  simp [mid]; try omega
theorem mid_get {more : Int} {st : List Stk} {j : Nat} (h : j < st.length) : (mid more st j)[j]? = some st[j] := by
  unfold mid
  have hl : ((st.take j).map (bump more)).length = j := by simp; omega
  rw [List.getElem?_append_right (by omega), hl, Nat.sub_self, List.getElem?_drop, Nat.add_zero, List.getElem?_eq_getElem h]
theorem mid_set {more : Int} {st : List Stk} {j : Nat} (h : j < st.length) : (mid more st j).set j (bump more st[j]) = mid more st (j + 1) := by
  unfold mid
  have hl : ((st.take j).map (bump more)).length = j := by simp; omega
  rw [List.set_append_right _ _ (by omega), hl, Nat.sub_self, List.drop_eq_getElem_cons h, List.set_cons_zero, List.take_succ_eq_append_getElem h, List.map_append, List.append_assoc]
  rfl
theorem mid_end {more : Int} {st : List Stk} : mid more st st.length = st.map (bump more) := by simp [mid]
theorem mid_zero {more : Int} {st : List Stk} : mid more st 0 = st := by simp [mid]
theorem krow_get {st : List Stk} {j : Nat} {k : Stk} (h : st[j]? = some k) : (krows st)[j]? = some [I k.1, I k.2.1, I k.2.2.1, I k.2.2.2.1, I k.2.2.2.2] := by
  simp [krows, kd, h]
theorem krow_set {st : List Stk} {j : Nat} {k : Stk} : (krows st).set j [I k.1, I k.2.1, I k.2.2.1, I k.2.2.2.1, I k.2.2.2.2] = krows (st.set j k) := by
  simp only [krows, List.map_set]
theorem least_shift {more empty : Int} : ∀ (st : List Stk) (m : Int), least (empty + more) (st.map (bump more)) m = least empty st m
  | [], m => rfl
  | k :: r, m => by
    simp only [List.map_cons, least, bump]
    have : k.2.2.1 + more - (empty + more) = k.2.2.1 - empty := by omega
    rw [this]; exact least_shift r _
theorem snow_shift {s x : Sht} {more : Int} {t : Sp} (he : x.empty = s.empty + more) (hm : x.mouth = s.mouth) (k : Stk) : snowV x (bump more k) t = snowV s k t := by
  have h1 : k.2.2.1 + more - (s.empty + more) = k.2.2.1 - s.empty := by omega
  simp only [snowV, coreV, bump, he, hm, h1]
theorem sums_shift {s x : Sht} {more : Int} {t : Sp} (he : x.empty = s.empty + more) (hm : x.mouth = s.mouth) : ∀ (st : List Stk), sums x t (st.map (bump more)) = sums s t st
  | [] => rfl
  | k :: r => by simp only [List.map_cons, sums, snow_shift he hm, sums_shift he hm r]
theorem shift_same {no rate known more : Int} {ts : List Tst} {s x : Sht} (hs : okSh s = true) (hx : okSh x = true) (he : x.empty = s.empty + more) (hm : x.mouth = s.mouth) (hst : x.st = s.st.map (bump more)) (h1 : x.scale = s.scale) (h2 : x.day = s.day) (h3 : x.emptyDay = s.emptyDay) :
    lookE no rate ts x 0 known = lookE no rate ts s 0 known ∧ couR no rate ts x known = couR no rate ts s known := by
  have hT : turnsV rate ts x known = turnsV rate ts s known := by
    simp only [turnsV, h2, h3, hst, he, least_shift]
  have hso : sofE no rate ts x known = sofE no rate ts s known := by unfold sofE; simp only [hs, hx, h1]
  have hL : lookE no rate ts x 0 known = lookE no rate ts s 0 known := by
    unfold lookE; rw [hso, hT, hst, List.length_map]
  refine ⟨hL, ?_⟩
  unfold couR ifL courseS
  rw [hL, hT, hst, sums_shift he hm, hm, List.length_map]
theorem car_shown {H : AHeap} {d q n : Nat} {x : Sht} (ho : AHeap.obj H q = some ⟨64, 5, krows x.st⟩) (hn : x.st.length = n) : carry false H (d + 3) (.agg [I x.no, I x.cell, I x.day, I x.known, I x.scale, I x.mouth, I x.empty, I x.emptyDay, .own q n 0 n]) = some (sh x) :=
  car_agg (carL_cons car_int (carL_cons car_int (carL_cons car_int (carL_cons car_int (carL_cons car_int (carL_cons car_int (carL_cons car_int (carL_cons car_int (carL_cons (car_ownN ho (by rw [krows_length]; exact hn) (krows_simple _)) rfl)))))))))
theorem tail8 {no rate known more e : Int} {ts : List Tst} {s : Sht} {x : Sp} {H : AHeap} (hl : s.st.length ≤ 100) (hx : x = couR no rate ts s known) (he : e = lookE no rate ts s 0 known) (o0 : AHeap.obj H 0 = some ⟨24, 3, [[I no, I rate, .ro false (trows ts)]]⟩) (o1 : AHeap.obj H 1 = some ⟨47, 9, [shR false s]⟩) (o2 : AHeap.obj H 2 = some ⟨40, 2, [[I x.1, I x.2]]⟩) :
    awp Tryd.prog ir8b (fnPost [(.tmp 8)] fun x H' => Out H' x (.bool true)) [(2, I known), (3, I more), (4, .ptr 0 1 0 0), (5, .ptr 1 1 0 0), (9, .ptr 2 1 0 0), (10, I e)] H := by
  unfold ir8b
  have l2 := AHeap.obj_lt o2
  simp only [walkS, wl, rgets, retv, argsEnv, ev, cst, cst1, cstL, AEnv.get, AEnv.trim, envput, qstep, abin, aun, evs, evo, deref, qload, target, if_true, if_false, Nat.reduceEqDiff, reduceIte, Nat.reduceAdd, AV.cells, AV.isTuple, setMany, alen, aiaddr, afill, Nat.reduceLeDiff, Nat.reduceMul, Nat.reduceLT, afillE, List.replicate]
  refine withGuard_intro ?_ ?_ <;> intro g1 <;> simp only [walkS, wl, rgets, retv, argsEnv, ev, cst, cst1, cstL, AEnv.get, AEnv.trim, envput, qstep, abin, aun, evs, evo, deref, qload, target, if_true, if_false, Nat.reduceEqDiff, reduceIte, Nat.reduceAdd, AV.cells, AV.isTuple, setMany, alen, aiaddr, afill, Nat.reduceLeDiff, Nat.reduceMul, Nat.reduceLT, afillE, List.replicate, g1]
  · refine withBool_intro ?_ ?_ <;> intro g2 <;> simp only [walkS, wl, rgets, retv, argsEnv, ev, cst, cst1, cstL, AEnv.get, AEnv.trim, envput, qstep, abin, aun, evs, evo, deref, qload, target, if_true, if_false, Nat.reduceEqDiff, reduceIte, Nat.reduceAdd, AV.cells, AV.isTuple, setMany, alen, aiaddr, afill, Nat.reduceLeDiff, Nat.reduceMul, Nat.reduceLT, afillE, List.replicate]
    · exact out_bool
    · have hmore : -1048576 ≤ more ∧ more ≤ 1048576 := by simp at g1 g2; omega
      simp only [walkS, wl, rgets, retv, argsEnv, ev, cst, cst1, cstL, AEnv.get, AEnv.trim, envput, qstep, abin, aun, evs, evo, deref, qload, target, if_true, if_false, Nat.reduceEqDiff, reduceIte, Nat.reduceAdd, AV.cells, AV.isTuple, setMany, alen, aiaddr, afill, Nat.reduceLeDiff, Nat.reduceMul, Nat.reduceLT, afillE, List.replicate, o1]
      refine storeR rfl rfl AHeap.obj_push_eq rfl ⟨rfl, rfl, rfl, by simp⟩ fun H1 y1 y2 y3 => ?_
      simp only [AV.cells, setMany, List.set_cons_zero, List.set_cons_succ] at y2
      simp only [List.length_append, List.length_cons, List.length_nil] at y1
      have r0 := (y3 0 (by omega)).trans (obj_keep o0)
      have r1 := (y3 1 (by omega)).trans (obj_keep o1)
      have r2 := (y3 2 (by omega)).trans (obj_keep o2)
      simp only [walkS, wl, rgets, retv, argsEnv, ev, cst, cst1, cstL, AEnv.get, AEnv.trim, envput, qstep, abin, aun, evs, evo, deref, qload, target, if_true, if_false, Nat.reduceEqDiff, reduceIte, Nat.reduceAdd, AV.cells, AV.isTuple, setMany, alen, aiaddr, afill, Nat.reduceLeDiff, Nat.reduceMul, Nat.reduceLT, afillE, List.replicate, y2]
      refine storeR rfl rfl y2 rfl ⟨rfl, rfl, rfl, by simp⟩ fun H2 z1 z2 z3 => ?_
      simp only [AV.cells, setMany, List.set_cons_zero, List.set_cons_succ] at z2
      have r0 := (z3 0 (by omega)).trans r0
      have r1 := (z3 1 (by omega)).trans r1
      have r2 := (z3 2 (by omega)).trans r2
      simp only [walkS, wl, rgets, retv, argsEnv, ev, cst, cst1, cstL, AEnv.get, AEnv.trim, envput, qstep, abin, aun, evs, evo, deref, qload, target, if_true, if_false, Nat.reduceEqDiff, reduceIte, Nat.reduceAdd, AV.cells, AV.isTuple, setMany, alen, aiaddr, afill, Nat.reduceLeDiff, Nat.reduceMul, Nat.reduceLT, afillE, List.replicate, r1]
      refine (kclone_a s.st (by omega) H2).mono ?_
      rintro a H3 ⟨hacc, hlen3, hkeep3⟩
      have q0 := (hkeep3 0 (by omega)).trans r0
      have q1 := (hkeep3 1 (by omega)).trans r1
      have q2 := (hkeep3 2 (by omega)).trans r2
      have qx := (hkeep3 H.length (by omega)).trans z2
      have ha1 := hacc.one
      simp only [walkS, wl, rgets, retv, argsEnv, ev, cst, cst1, cstL, AEnv.get, AEnv.trim, envput, qstep, abin, aun, evs, evo, deref, qload, target, if_true, if_false, Nat.reduceEqDiff, reduceIte, Nat.reduceAdd, AV.cells, AV.isTuple, setMany, alen, aiaddr, afill, Nat.reduceLeDiff, Nat.reduceMul, Nat.reduceLT, afillE, List.replicate]
      obtain ⟨em, hem⟩ : ∃ em, em = IntKind.i64.wrap (s.empty + more) := ⟨_, rfl⟩
      rw [← hem] at qx
      refine storeR rfl rfl qx rfl ⟨rfl, by rw [ha1.1]; rfl, ha1.2, by simp⟩ fun H4 w1 w2 w3 => ?_
      simp only [ha1.1, setMany, List.set_cons_zero, List.set_cons_succ] at w2
      have q0 := (w3 0 (by omega)).trans q0
      have q1 := (w3 1 (by omega)).trans q1
      have q2 := (w3 2 (by omega)).trans q2
      rcases hacc with ⟨hnil, rfl⟩ | ⟨q, hq, rfl, hobj⟩
      · have hz : s.st.length = 0 := by rw [← krows_length, hnil]; rfl
        have hbad : (chkSh s != 0) = true := by
          have : ¬ okSh s = true := fun h => by have := (shp h).2.2.1; omega
          rw [chkSh_f this]; rfl
        simp only [walkS, wl, rgets, retv, argsEnv, ev, cst, cst1, cstL, AEnv.get, AEnv.trim, envput, qstep, abin, aun, evs, evo, deref, qload, target, if_true, if_false, Nat.reduceEqDiff, reduceIte, Nat.reduceAdd, AV.cells, AV.isTuple, setMany, alen, aiaddr, afill, Nat.reduceLeDiff, Nat.reduceMul, Nat.reduceLT, afillE, List.replicate, w2]
        refine awp_loop (σ := Nat) (fun j => [(2, I known), (3, I more), (4, .ptr 0 1 0 0), (5, .ptr 1 1 0 0), (9, .ptr 2 1 0 0), (10, I e), (17, .ptr H.length 1 0 0), (136, I ((0 : Nat) : Int)), (137, I j)]) (fun j G => AHeap.obj G 1 = some ⟨47, 9, [shR false s]⟩) (fun j => True) (fun j => 0) 0 trivial rfl q1 ?_
        rintro j G - p1
        simp only [walkS, wl, rgets, retv, argsEnv, ev, cst, cst1, cstL, AEnv.get, AEnv.trim, envput, qstep, abin, aun, evs, evo, deref, qload, target, if_true, if_false, Nat.reduceEqDiff, reduceIte, Nat.reduceAdd, AV.cells, AV.isTuple, setMany, alen, aiaddr, afill, Nat.reduceLeDiff, Nat.reduceMul, Nat.reduceLT, afillE, List.replicate]
        refine withBool_intro ?_ ?_ <;> intro hb <;> simp only [walkS, wl, rgets, retv, argsEnv, ev, cst, cst1, cstL, AEnv.get, AEnv.trim, envput, qstep, abin, aun, evs, evo, deref, qload, target, if_true, if_false, Nat.reduceEqDiff, reduceIte, Nat.reduceAdd, AV.cells, AV.isTuple, setMany, alen, aiaddr, afill, Nat.reduceLeDiff, Nat.reduceMul, Nat.reduceLT, afillE, List.replicate]
        · simp at hb; omega
        · simp only [walkS, wl, rgets, retv, argsEnv, ev, cst, cst1, cstL, AEnv.get, AEnv.trim, envput, qstep, abin, aun, evs, evo, deref, qload, target, if_true, if_false, Nat.reduceEqDiff, reduceIte, Nat.reduceAdd, AV.cells, AV.isTuple, setMany, alen, aiaddr, afill, Nat.reduceLeDiff, Nat.reduceMul, Nat.reduceLT, afillE, List.replicate, p1]
          refine call_pure (CheckSheet_ok s) (frzL_of' (d := 4) (carL_cons car_sh rfl)) ?_
          simp only [walkS, wl, rgets, retv, argsEnv, ev, cst, cst1, cstL, AEnv.get, AEnv.trim, envput, qstep, abin, aun, evs, evo, deref, qload, target, if_true, if_false, Nat.reduceEqDiff, reduceIte, Nat.reduceAdd, AV.cells, AV.isTuple, setMany, alen, aiaddr, afill, Nat.reduceLeDiff, Nat.reduceMul, Nat.reduceLT, afillE, List.replicate, hbad]
          exact out_bool
      · have hobj4 := (w3 q (by omega)).trans hobj
        rw [krows_length] at w2
        simp only [walkS, wl, rgets, retv, argsEnv, ev, cst, cst1, cstL, AEnv.get, AEnv.trim, envput, qstep, abin, aun, evs, evo, deref, qload, target, if_true, if_false, Nat.reduceEqDiff, reduceIte, Nat.reduceAdd, AV.cells, AV.isTuple, setMany, alen, aiaddr, afill, Nat.reduceLeDiff, Nat.reduceMul, Nat.reduceLT, afillE, List.replicate, w2, hobj4, krows_length]
        refine awp_loop (σ := Nat) (fun j => [(2, I known), (3, I more), (4, .ptr 0 1 0 0), (5, .ptr 1 1 0 0), (9, .ptr 2 1 0 0), (10, I e), (17, .ptr H.length 1 0 0), (136, I s.st.length), (137, I j)]) (fun j G => H.length < G.length ∧ AHeap.obj G 0 = some ⟨24, 3, [[I no, I rate, .ro false (trows ts)]]⟩ ∧ AHeap.obj G 1 = some ⟨47, 9, [shR false s]⟩ ∧ AHeap.obj G 2 = some ⟨40, 2, [[I x.1, I x.2]]⟩ ∧
          AHeap.obj G H.length = some ⟨47, 9, [[I s.no, I s.cell, I s.day, I s.known, I s.scale, I s.mouth, I em, I s.emptyDay, .own q s.st.length 0 s.st.length]]⟩ ∧ AHeap.obj G q = some ⟨64, 5, krows (mid more s.st j)⟩) (fun j => j ≤ s.st.length) (fun j => s.st.length - j) 0 (Nat.zero_le _) rfl ⟨by omega, q0, q1, q2, w2, by rw [mid_zero]; exact hobj4⟩ ?_
        rintro j G hj ⟨hG, p0, p1, p2, px, pq⟩
        have ml := mid_len (more := more) hj
        simp only [walkS, wl, rgets, retv, argsEnv, ev, cst, cst1, cstL, AEnv.get, AEnv.trim, envput, qstep, abin, aun, evs, evo, deref, qload, target, if_true, if_false, Nat.reduceEqDiff, reduceIte, Nat.reduceAdd, AV.cells, AV.isTuple, setMany, alen, aiaddr, afill, Nat.reduceLeDiff, Nat.reduceMul, Nat.reduceLT, afillE, List.replicate]
        refine withBool_intro ?_ ?_ <;> intro hb <;> simp only [walkS, wl, rgets, retv, argsEnv, ev, cst, cst1, cstL, AEnv.get, AEnv.trim, envput, qstep, abin, aun, evs, evo, deref, qload, target, if_true, if_false, Nat.reduceEqDiff, reduceIte, Nat.reduceAdd, AV.cells, AV.isTuple, setMany, alen, aiaddr, afill, Nat.reduceLeDiff, Nat.reduceMul, Nat.reduceLT, afillE, List.replicate]
        · have hlt : j < s.st.length := by simpa using hb
          have hji : (j : Int) < ((s.st.length : Nat) : Int) := by omega
          have w1' := w_succ (k := j) (by omega)
          have gj := krow_get (mid_get (more := more) hlt)
          simp only [walkS, wl, rgets, retv, argsEnv, ev, cst, cst1, cstL, AEnv.get, AEnv.trim, envput, qstep, abin, aun, evs, evo, deref, qload, target, if_true, if_false, Nat.reduceEqDiff, reduceIte, Nat.reduceAdd, AV.cells, AV.isTuple, setMany, alen, aiaddr, afill, Nat.reduceLeDiff, Nat.reduceMul, Nat.reduceLT, afillE, List.replicate, px, hji, pq, krows_length, ml, gj]
          refine withGuard_intro ?_ ?_ <;> intro g5 <;> simp only [walkS, wl, rgets, retv, argsEnv, ev, cst, cst1, cstL, AEnv.get, AEnv.trim, envput, qstep, abin, aun, evs, evo, deref, qload, target, if_true, if_false, Nat.reduceEqDiff, reduceIte, Nat.reduceAdd, AV.cells, AV.isTuple, setMany, alen, aiaddr, afill, Nat.reduceLeDiff, Nat.reduceMul, Nat.reduceLT, afillE, List.replicate, g5, px, hji, pq, krows_length, ml, gj]
          · refine withBool_intro ?_ ?_ <;> intro g6 <;> simp only [walkS, wl, rgets, retv, argsEnv, ev, cst, cst1, cstL, AEnv.get, AEnv.trim, envput, qstep, abin, aun, evs, evo, deref, qload, target, if_true, if_false, Nat.reduceEqDiff, reduceIte, Nat.reduceAdd, AV.cells, AV.isTuple, setMany, alen, aiaddr, afill, Nat.reduceLeDiff, Nat.reduceMul, Nat.reduceLT, afillE, List.replicate]
            · exact out_bool
            · have hfull : 0 ≤ s.st[j].2.2.1 ∧ s.st[j].2.2.1 ≤ 1048576 := by simp at g5 g6; omega
              have e1 : IntKind.i64.wrap (s.st[j].2.2.1 + more) = s.st[j].2.2.1 + more := wrap_id (by omega) (by omega)
              simp only [walkS, wl, rgets, retv, argsEnv, ev, cst, cst1, cstL, AEnv.get, AEnv.trim, envput, qstep, abin, aun, evs, evo, deref, qload, target, if_true, if_false, Nat.reduceEqDiff, reduceIte, Nat.reduceAdd, AV.cells, AV.isTuple, setMany, alen, aiaddr, afill, Nat.reduceLeDiff, Nat.reduceMul, Nat.reduceLT, afillE, List.replicate, px, hji, pq, krows_length, ml, gj, e1]
              refine storeR rfl rfl pq gj ⟨by rw [krows_length, ml], rfl, rfl, by simp⟩ fun G2 v1 v2 v3 => ?_
              simp only [AV.cells, setMany, List.set_cons_zero, List.set_cons_succ] at v2
              rw [show (krows (mid more s.st j)).set j [I s.st[j].1, I s.st[j].2.1, AV.int IntKind.i64 (s.st[j].2.2.1 + more), I s.st[j].2.2.2.1, I s.st[j].2.2.2.2] = krows (mid more s.st (j + 1)) by rw [← mid_set hlt]; exact krow_set (k := bump more s.st[j])] at v2
              simp only [walkS, wl, rgets, retv, argsEnv, ev, cst, cst1, cstL, AEnv.get, AEnv.trim, envput, qstep, abin, aun, evs, evo, deref, qload, target, if_true, if_false, Nat.reduceEqDiff, reduceIte, Nat.reduceAdd, AV.cells, AV.isTuple, setMany, alen, aiaddr, afill, Nat.reduceLeDiff, Nat.reduceMul, Nat.reduceLT, afillE, List.replicate, w1']
              refine loop_end (j + 1) hlt (by omega) rfl ⟨by omega, (v3 0 (by omega)).trans p0, (v3 1 (by omega)).trans p1, (v3 2 (by omega)).trans p2, (v3 H.length (by omega)).trans px, v2⟩
          · exact out_bool
        · have hk' : j = s.st.length := by simp at hb; omega
          subst hk'
          rw [mid_end] at pq
          simp only [walkS, wl, rgets, retv, argsEnv, ev, cst, cst1, cstL, AEnv.get, AEnv.trim, envput, qstep, abin, aun, evs, evo, deref, qload, target, if_true, if_false, Nat.reduceEqDiff, reduceIte, Nat.reduceAdd, AV.cells, AV.isTuple, setMany, alen, aiaddr, afill, Nat.reduceLeDiff, Nat.reduceMul, Nat.reduceLT, afillE, List.replicate, p1]
          refine call_pure (CheckSheet_ok s) (frzL_of' (d := 4) (carL_cons car_sh rfl)) ?_
          simp only [walkS, wl, rgets, retv, argsEnv, ev, cst, cst1, cstL, AEnv.get, AEnv.trim, envput, qstep, abin, aun, evs, evo, deref, qload, target, if_true, if_false, Nat.reduceEqDiff, reduceIte, Nat.reduceAdd, AV.cells, AV.isTuple, setMany, alen, aiaddr, afill, Nat.reduceLeDiff, Nat.reduceMul, Nat.reduceLT, afillE, List.replicate]
          refine withGuard_intro ?_ ?_ <;> intro g5 <;> simp only [walkS, wl, rgets, retv, argsEnv, ev, cst, cst1, cstL, AEnv.get, AEnv.trim, envput, qstep, abin, aun, evs, evo, deref, qload, target, if_true, if_false, Nat.reduceEqDiff, reduceIte, Nat.reduceAdd, AV.cells, AV.isTuple, setMany, alen, aiaddr, afill, Nat.reduceLeDiff, Nat.reduceMul, Nat.reduceLT, afillE, List.replicate, g5]
          · have hs := chkSh_zero (s := s) (by simpa using g5)
            have hemp := (shp hs).1
            have hem' : em = s.empty + more := by rw [hem]; exact wrap_id (by omega) (by omega)
            obtain ⟨y, hy⟩ : ∃ y : Sht, y = ⟨s.no, s.cell, s.day, s.known, s.scale, s.mouth, em, s.emptyDay, s.st.map (bump more)⟩ := ⟨_, rfl⟩
            have hyl : y.st.length = s.st.length := by rw [hy]; simp
            have hcar : ∀ d, carry false G (d + 3) (.agg [I s.no, I s.cell, I s.day, I s.known, I s.scale, I s.mouth, I em, I s.emptyDay, .own q s.st.length 0 s.st.length]) = some (sh y) := fun d => by
              have := car_shown (H := G) (d := d) (q := q) (n := s.st.length) (x := y) (by rw [hy]; exact pq) hyl
              rw [hy] at this ⊢; exact this
            simp only [walkS, wl, rgets, retv, argsEnv, ev, cst, cst1, cstL, AEnv.get, AEnv.trim, envput, qstep, abin, aun, evs, evo, deref, qload, target, if_true, if_false, Nat.reduceEqDiff, reduceIte, Nat.reduceAdd, AV.cells, AV.isTuple, setMany, alen, aiaddr, afill, Nat.reduceLeDiff, Nat.reduceMul, Nat.reduceLT, afillE, List.replicate, px]
            refine call_pure (CheckSheet_ok y) (frzL_of' (d := 4) (carL_cons (hcar 1) rfl)) ?_
            simp only [walkS, wl, rgets, retv, argsEnv, ev, cst, cst1, cstL, AEnv.get, AEnv.trim, envput, qstep, abin, aun, evs, evo, deref, qload, target, if_true, if_false, Nat.reduceEqDiff, reduceIte, Nat.reduceAdd, AV.cells, AV.isTuple, setMany, alen, aiaddr, afill, Nat.reduceLeDiff, Nat.reduceMul, Nat.reduceLT, afillE, List.replicate]
            refine withBool_intro ?_ ?_ <;> intro g6 <;> simp only [walkS, wl, rgets, retv, argsEnv, ev, cst, cst1, cstL, AEnv.get, AEnv.trim, envput, qstep, abin, aun, evs, evo, deref, qload, target, if_true, if_false, Nat.reduceEqDiff, reduceIte, Nat.reduceAdd, AV.cells, AV.isTuple, setMany, alen, aiaddr, afill, Nat.reduceLeDiff, Nat.reduceMul, Nat.reduceLT, afillE, List.replicate]
            · exact out_bool
            · have hyk := chkSh_zero (s := y) (by simpa using g6)
              obtain ⟨L1, L2⟩ := shift_same (no := no) (rate := rate) (known := known) (ts := ts) hs hyk (more := more) (by rw [hy]; exact hem') (by rw [hy]) (by rw [hy]) (by rw [hy]) (by rw [hy]) (by rw [hy])
              simp only [walkS, wl, rgets, retv, argsEnv, ev, cst, cst1, cstL, AEnv.get, AEnv.trim, envput, qstep, abin, aun, evs, evo, deref, qload, target, if_true, if_false, Nat.reduceEqDiff, reduceIte, Nat.reduceAdd, AV.cells, AV.isTuple, setMany, alen, aiaddr, afill, Nat.reduceLeDiff, Nat.reduceMul, Nat.reduceLT, afillE, List.replicate, p0, px]
              refine call_pure (Course_ok no rate ts y known) (frzL_of' (d := 4) (carL_cons car_sc (carL_cons (hcar 1) rfl))) ?_
              rw [L1, L2, ← hx, ← he]
              simp only [walkS, wl, rgets, retv, argsEnv, ev, cst, cst1, cstL, AEnv.get, AEnv.trim, envput, qstep, abin, aun, evs, evo, deref, qload, target, if_true, if_false, Nat.reduceEqDiff, reduceIte, Nat.reduceAdd, AV.cells, AV.isTuple, setMany, alen, aiaddr, afill, Nat.reduceLeDiff, Nat.reduceMul, Nat.reduceLT, afillE, List.replicate]
              refine storeR rfl rfl AHeap.obj_push_eq rfl ⟨rfl, rfl, rfl, by simp⟩ fun G2 v1 v2 v3 => ?_
              simp only [AV.cells, setMany, List.set_cons_zero, List.set_cons_succ] at v2
              have p2' := (v3 2 (by omega)).trans (obj_keep p2)
              simp only [walkS, wl, rgets, retv, argsEnv, ev, cst, cst1, cstL, AEnv.get, AEnv.trim, envput, qstep, abin, aun, evs, evo, deref, qload, target, if_true, if_false, Nat.reduceEqDiff, reduceIte, Nat.reduceAdd, AV.cells, AV.isTuple, setMany, alen, aiaddr, afill, Nat.reduceLeDiff, Nat.reduceMul, Nat.reduceLT, afillE, List.replicate, v2, p2', aeqO, Nat.reduceAdd, beq_self_eq_true, Bool.and_self, Bool.and_true]
              exact out_bool
          · exact out_bool
  · exact out_bool
end Go.Proofs.YtgadlckkmhhmbaaDoor
/- CourseAdds holds. -/
namespace Go.Proofs.YtgadlckkmhhmbaaDoor
open Go.Awp Go.Grams
set_option linter.unusedSimpArgs false
set_option linter.unusedVariables false
set_option linter.unusedSectionVars false
set_option maxRecDepth 10000
theorem lookE_any {no rate known at_ : Int} {ts : List Tst} {s : Sht} (h : lookE no rate ts s 0 known = 0) (h2 : 0 ≤ at_ ∧ at_ < s.st.length) : lookE no rate ts s at_ known = 0 := by
  obtain ⟨g1, g2, g3⟩ := lookE_zero h
  unfold lookE
  rw [if_neg (by simp [g1]), if_neg (by omega), if_neg (by omega)]
theorem sumW_app {s : Sht} {t : Sp} {k : Stk} : ∀ (a : List Stk), sumW s t (a ++ [k]) = ((sumW s t a).1 + (waterS s k t).1, (sumW s t a).2 + (waterS s k t).2)
  | [] => by simp [sumW]
  | u :: a => by
    simp only [List.cons_append, sumW, sumW_app a]
    congr 1 <;> omega
theorem sumW_take {s : Sht} {t : Sp} {st : List Stk} {j : Nat} (h : j < st.length) : sumW s t (st.take (j + 1)) = ((sumW s t (st.take j)).1 + (waterS s st[j] t).1, (sumW s t (st.take j)).2 + (waterS s st[j] t).2) := by
  rw [List.take_succ_eq_append_getElem h, sumW_app]
theorem water_bd {s : Sht} {k : Stk} {t : Sp} (he : 0 ≤ s.empty ∧ s.empty ≤ 1048576) (hm : 1 ≤ s.mouth ∧ s.mouth ≤ 1000) (hk : okK k = true) (ht : Tn t) (hp : 0 ≤ (snowV s k t).2) : 0 ≤ (waterS s k t).1 ∧ (waterS s k t).1 ≤ 100000000 ∧ 0 ≤ (waterS s k t).2 ∧ (waterS s k t).2 ≤ 200000000 := by
  have sb := snow_bd he hm hk ht
  have h1 := Int.ediv_nonneg sb.1 (show (0 : Int) ≤ 20 * s.mouth by omega)
  have h2 := Int.ediv_le_self (20 * s.mouth) sb.1
  have h3 := Int.ediv_nonneg (show (0 : Int) ≤ (snowV s k t).2 + s.mouth - 1 by omega) (show (0 : Int) ≤ s.mouth by omega)
  have h4 := Int.ediv_le_self s.mouth (show (0 : Int) ≤ (snowV s k t).2 + s.mouth - 1 by omega)
  simp only [waterS, upV]; omega
theorem sumW_bd {s : Sht} {t : Sp} : ∀ (a : List Stk), (∀ k, k ∈ a → 0 ≤ (waterS s k t).1 ∧ (waterS s k t).1 ≤ 100000000 ∧ 0 ≤ (waterS s k t).2 ∧ (waterS s k t).2 ≤ 200000000) → 0 ≤ (sumW s t a).1 ∧ (sumW s t a).1 ≤ 100000000 * a.length ∧ 0 ≤ (sumW s t a).2 ∧ (sumW s t a).2 ≤ 200000000 * a.length
  | [], _ => by simp [sumW]
  | k :: r, h => by
    have h1 := sumW_bd r fun q hq => h q (by simp [hq])
    have h2 := h k (by simp)
    simp only [sumW, List.length_cons]; omega
theorem CourseAdds_ok (no rate : Int) (ts : List Tst) (s : Sht) (known more : Int) : PCall Tryd.prog 8 [sc no rate ts, sh s, I known, I more] (.bool true) := by
  refine PCall.intro text8 (by simp) ?_
  unfold ir8
  simp only [walk, wl, rgets, retv, argsEnv, ev, cst, cst1, cstL, AEnv.get, AEnv.trim, envput, qstep, abin, aun, evs, evo, deref, qload, target, if_true, if_false, Nat.reduceEqDiff, reduceIte, Nat.reduceAdd, AV.cells, AV.isTuple, setMany, alen, aiaddr, afill, Nat.reduceLeDiff, Nat.reduceMul, Nat.reduceLT, afillE, List.replicate]
  refine call_pure sane_ok .nil ?_
  simp only [walk, wl, rgets, retv, argsEnv, ev, cst, cst1, cstL, AEnv.get, AEnv.trim, envput, qstep, abin, aun, evs, evo, deref, qload, target, if_true, if_false, Nat.reduceEqDiff, reduceIte, Nat.reduceAdd, AV.cells, AV.isTuple, setMany, alen, aiaddr, afill, Nat.reduceLeDiff, Nat.reduceMul, Nat.reduceLT, afillE, List.replicate, trows_length]
  refine withGuard_intro ?_ ?_ <;> intro f1 <;> simp only [walk, wl, rgets, retv, argsEnv, ev, cst, cst1, cstL, AEnv.get, AEnv.trim, envput, qstep, abin, aun, evs, evo, deref, qload, target, if_true, if_false, Nat.reduceEqDiff, reduceIte, Nat.reduceAdd, AV.cells, AV.isTuple, setMany, alen, aiaddr, afill, Nat.reduceLeDiff, Nat.reduceMul, Nat.reduceLT, afillE, List.replicate, f1, krows_length]
  · refine withBool_intro ?_ ?_ <;> intro f2 <;> simp only [walk, wl, rgets, retv, argsEnv, ev, cst, cst1, cstL, AEnv.get, AEnv.trim, envput, qstep, abin, aun, evs, evo, deref, qload, target, if_true, if_false, Nat.reduceEqDiff, reduceIte, Nat.reduceAdd, AV.cells, AV.isTuple, setMany, alen, aiaddr, afill, Nat.reduceLeDiff, Nat.reduceMul, Nat.reduceLT, afillE, List.replicate]
    · exact out_bool
    · have hl : s.st.length ≤ 100 := by simp at f2; omega
      refine call_pure (Course_ok no rate ts s known) (frzL_of' (d := 4) (carL_cons car_sc (carL_cons car_sh rfl))) ?_
      simp only [walk, wl, rgets, retv, argsEnv, ev, cst, cst1, cstL, AEnv.get, AEnv.trim, envput, qstep, abin, aun, evs, evo, deref, qload, target, if_true, if_false, Nat.reduceEqDiff, reduceIte, Nat.reduceAdd, AV.cells, AV.isTuple, setMany, alen, aiaddr, afill, Nat.reduceLeDiff, Nat.reduceMul, Nat.reduceLT, afillE, List.replicate]
      refine withBool_intro ?_ ?_ <;> intro f3 <;> simp only [walk, wl, rgets, retv, argsEnv, ev, cst, cst1, cstL, AEnv.get, AEnv.trim, envput, qstep, abin, aun, evs, evo, deref, qload, target, if_true, if_false, Nat.reduceEqDiff, reduceIte, Nat.reduceAdd, AV.cells, AV.isTuple, setMany, alen, aiaddr, afill, Nat.reduceLeDiff, Nat.reduceMul, Nat.reduceLT, afillE, List.replicate, krows_length]
      · have h0 : lookE no rate ts s 0 known = 0 := by simpa using f3
        obtain ⟨g1, g2, g3⟩ := lookE_zero h0
        obtain ⟨hw, hc, hs, -, -⟩ := sofE_zero g1
        obtain ⟨-, hr, hlen, hok, -⟩ := well_iff.1 hw
        obtain ⟨he, hm, hn, hk⟩ := shp hs
        have tb := turns_box (known := known) hr.1 hok hc hs
        obtain ⟨T, hT⟩ : ∃ T, T = turnsV rate ts s known := ⟨_, rfl⟩
        have tl : ∀ k, k ∈ s.st → T.2 ≤ k.2.2.1 - s.empty := fun k hk => by rw [hT]; exact turns_le hk
        rw [← hT] at tb g3
        have hR : couR no rate ts s known = courseS s T := by unfold couR ifL; rw [if_pos h0, hT]
        have ps : ∀ k, k ∈ s.st → 0 ≤ (snowV s k T).1 ∧ 0 ≤ (snowV s k T).2 ∧ (snowV s k T).1 ≤ 20 * (snowV s k T).2 := fun k hq => snow_pos hm (hk k hq) g3 (tl k hq)
        have wb : ∀ k, k ∈ s.st → _ := fun k hq => water_bd he hm (hk k hq) tb (ps k hq).2.1
        refine awp_loop (σ := Nat) (fun j => [(2, I known), (3, I more), (4, .ptr 0 1 0 0), (5, .ptr 1 1 0 0), (9, .ptr 2 1 0 0), (10, I (lookE no rate ts s 0 known)), (11, I (sumW s T (s.st.take j)).1), (12, I (sumW s T (s.st.take j)).2), (44, I s.st.length), (45, I j)]) (fun j H => AHeap.obj H 0 = some ⟨24, 3, [[I no, I rate, .ro false (trows ts)]]⟩ ∧ AHeap.obj H 1 = some ⟨47, 9, [shR false s]⟩ ∧ AHeap.obj H 2 = some ⟨40, 2, [[I (couR no rate ts s known).1, I (couR no rate ts s known).2]]⟩) (fun j => j ≤ s.st.length) (fun j => s.st.length - j) 0 (Nat.zero_le _) rfl ⟨rfl, rfl, rfl⟩ ?_
        rintro j H hj ⟨o0, o1, o2⟩
        simp only [walkS, wl, rgets, retv, argsEnv, ev, cst, cst1, cstL, AEnv.get, AEnv.trim, envput, qstep, abin, aun, evs, evo, deref, qload, target, if_true, if_false, Nat.reduceEqDiff, reduceIte, Nat.reduceAdd, AV.cells, AV.isTuple, setMany, alen, aiaddr, afill, Nat.reduceLeDiff, Nat.reduceMul, Nat.reduceLT, afillE, List.replicate]
        refine withBool_intro ?_ ?_ <;> intro hb <;> simp only [walkS, wl, rgets, retv, argsEnv, ev, cst, cst1, cstL, AEnv.get, AEnv.trim, envput, qstep, abin, aun, evs, evo, deref, qload, target, if_true, if_false, Nat.reduceEqDiff, reduceIte, Nat.reduceAdd, AV.cells, AV.isTuple, setMany, alen, aiaddr, afill, Nat.reduceLeDiff, Nat.reduceMul, Nat.reduceLT, afillE, List.replicate]
        · have hlt : j < s.st.length := by simpa using hb
          have w1 := w_succ (k := j) (by omega)
          have bw := wb s.st[j] (List.getElem_mem hlt)
          have bd := sumW_bd (s := s) (t := T) (s.st.take j) fun q hq => wb q (List.mem_of_mem_take hq)
          rw [List.length_take] at bd
          have l2 := AHeap.obj_lt o2
          have e1 : IntKind.i64.wrap ((sumW s T (s.st.take j)).1 + (waterS s s.st[j] T).1) = (sumW s T (s.st.take j)).1 + (waterS s s.st[j] T).1 := wrap_id (by omega) (by omega)
          have e2 : IntKind.i64.wrap ((sumW s T (s.st.take j)).2 + (waterS s s.st[j] T).2) = (sumW s T (s.st.take j)).2 + (waterS s s.st[j] T).2 := wrap_id (by omega) (by omega)
          have hj0 := lookE_any (at_ := (j : Int)) h0 (by omega)
          have hW : watR no rate ts s (j : Int) known = waterS s s.st[j] T := by
            unfold watR ifL; rw [if_pos hj0, ← hT]
            congr 1
            have := stAt_eq (s := s) (at_ := (j : Int)) (by simpa using hlt)
            simpa using this
          simp only [walkS, wl, rgets, retv, argsEnv, ev, cst, cst1, cstL, AEnv.get, AEnv.trim, envput, qstep, abin, aun, evs, evo, deref, qload, target, if_true, if_false, Nat.reduceEqDiff, reduceIte, Nat.reduceAdd, AV.cells, AV.isTuple, setMany, alen, aiaddr, afill, Nat.reduceLeDiff, Nat.reduceMul, Nat.reduceLT, afillE, List.replicate, o0, o1]
          refine call_pure (Water_ok no rate ts s (j : Int) known) (frzL_of' (d := 4) (carL_cons car_sc (carL_cons car_sh rfl))) ?_
          rw [hj0, hW]
          simp only [walkS, wl, rgets, retv, argsEnv, ev, cst, cst1, cstL, AEnv.get, AEnv.trim, envput, qstep, abin, aun, evs, evo, deref, qload, target, if_true, if_false, Nat.reduceEqDiff, reduceIte, Nat.reduceAdd, AV.cells, AV.isTuple, setMany, alen, aiaddr, afill, Nat.reduceLeDiff, Nat.reduceMul, Nat.reduceLT, afillE, List.replicate]
          refine storeR rfl rfl AHeap.obj_push_eq rfl ⟨rfl, rfl, rfl, by simp⟩ fun H1 y1 y2 y3 => ?_
          simp only [AV.cells, setMany, List.set_cons_zero, List.set_cons_succ] at y2
          have r0 := (y3 0 (by omega)).trans (obj_keep o0)
          have r1 := (y3 1 (by omega)).trans (obj_keep o1)
          have r2 := (y3 2 (by omega)).trans (obj_keep o2)
          simp only [walkS, wl, rgets, retv, argsEnv, ev, cst, cst1, cstL, AEnv.get, AEnv.trim, envput, qstep, abin, aun, evs, evo, deref, qload, target, if_true, if_false, Nat.reduceEqDiff, reduceIte, Nat.reduceAdd, AV.cells, AV.isTuple, setMany, alen, aiaddr, afill, Nat.reduceLeDiff, Nat.reduceMul, Nat.reduceLT, afillE, List.replicate, bne_self_eq_false, y2, e1, e2, w1]
          refine loop_end (j + 1) hlt (by omega) (by rw [sumW_take hlt]) ⟨r0, r1, r2⟩
        · have hk' : j = s.st.length := by simp at hb; omega
          subst hk'
          rw [List.take_length]
          obtain ⟨n1, n2, n3, n4⟩ := sumW_near (s := s) (t := T) hm.1 s.st
          have n5 := (sums_some (s := s) (t := T) s.st fun k hq => ⟨(ps k hq).1, (ps k hq).2.2⟩).2
          obtain ⟨m1, m2, m3, m4, m5⟩ := adds_law (M := s.mouth) (n := (s.st.length : Int)) (by omega) (by omega) n1 (by omega) n3 (by omega) n5
          have bd := sumW_bd (s := s) (t := T) s.st wb
          have A0 : 0 ≤ (courseS s T).1 := Int.ediv_nonneg (sums_some (s := s) (t := T) s.st fun k hq => ⟨(ps k hq).1, (ps k hq).2.2⟩).1 (by have := Int.mul_nonneg (show 0 ≤ s.mouth by omega) (show (0 : Int) ≤ (s.st.length : Int) by omega); omega)
          obtain ⟨A, hA⟩ : ∃ A, A = (courseS s T).1 := ⟨_, rfl⟩
          obtain ⟨B, hB⟩ : ∃ B, B = (courseS s T).2 := ⟨_, rfl⟩
          have m1' : A * (s.st.length : Int) ≤ (sumW s T s.st).1 + (s.st.length : Int) := by rw [hA]; exact m1
          have m2' : (sumW s T s.st).1 / (s.st.length : Int) ≤ A := by rw [hA]; exact m2
          have m3' : (sumW s T s.st).2 - (s.st.length : Int) ≤ B * (s.st.length : Int) := by rw [hB]; exact m3
          have m4' : B ≤ ((sumW s T s.st).2 + (s.st.length : Int) - 1) / (s.st.length : Int) := by rw [hB]; exact m4
          have m5' : A ≤ B := by rw [hA, hB]; exact m5
          rw [← hA] at A0
          clear m1 m2 m3 m4 m5 n1 n2 n3 n4 n5
          have l2 := AHeap.obj_lt o2
          have o2' := o2
          rw [hR, ← hA, ← hB] at o2
          obtain ⟨lo, hlo⟩ : ∃ lo, lo = (sumW s T s.st).1 := ⟨_, rfl⟩
          obtain ⟨hi, hhi⟩ : ∃ hi, hi = (sumW s T s.st).2 := ⟨_, rfl⟩
          rw [← hlo] at m1' m2' bd ⊢
          rw [← hhi] at m3' m4' bd ⊢
          have hn' : 1 ≤ (s.st.length : Int) ∧ (s.st.length : Int) ≤ 32 := by omega
          generalize hnn : (s.st.length : Int) = n at *
          have AB : A * n ≤ B * n := Int.mul_le_mul_of_nonneg_right m5' (by omega)
          have An : 0 ≤ A * n := Int.mul_nonneg A0 (by omega)
          have Bn : B * n ≤ hi + n - 1 := by
            have h1 := Int.mul_le_mul_of_nonneg_right m4' (show 0 ≤ n by omega)
            have h2 := (floor_between (a := hi + n - 1) (c := n) (by omega)).1
            rw [Int.mul_comm n] at h2
            omega
          have e1 : IntKind.i64.wrap (A * n) = A * n := wrap_id (by omega) (by omega)
          have e2 : IntKind.i64.wrap (lo + n) = lo + n := wrap_id (by omega) (by omega)
          have e3 : IntKind.i64.wrap (lo.tdiv n) = lo / n := quo_wrap (by omega) (by omega)
          have e4 : IntKind.i64.wrap (B * n) = B * n := wrap_id (by omega) (by omega)
          have e5 : IntKind.i64.wrap (hi - n) = hi - n := wrap_id (by omega) (by omega)
          have e6 : IntKind.i64.wrap (hi + n) = hi + n := wrap_id (by omega) (by omega)
          have e7 : IntKind.i64.wrap (hi + n - 1) = hi + n - 1 := wrap_id (by omega) (by omega)
          have e8 : IntKind.i64.wrap ((hi + n - 1).tdiv n) = (hi + n - 1) / n := quo_wrap (by omega) (by omega)
          have z : ¬ n = 0 := by omega
          have d0 : (n == 0) = false := by simp; omega
          have d1 : decide (A * n > lo + n) = false := decide_eq_false (by omega)
          have d2 : decide (A < lo / n) = false := decide_eq_false (by omega)
          have d3 : decide (B * n < hi - n) = false := decide_eq_false (by omega)
          have d4 : decide (B > (hi + n - 1) / n) = false := decide_eq_false (by omega)
          have d5 : decide (A > B) = false := decide_eq_false (by omega)
          simp only [walkS, wl, rgets, retv, argsEnv, ev, cst, cst1, cstL, AEnv.get, AEnv.trim, envput, qstep, abin, aun, evs, evo, deref, qload, target, if_true, if_false, Nat.reduceEqDiff, reduceIte, Nat.reduceAdd, AV.cells, AV.isTuple, setMany, alen, aiaddr, afill, Nat.reduceLeDiff, Nat.reduceMul, Nat.reduceLT, afillE, List.replicate, o1, krows_length, hnn, d0, o2, e1, e2, d1, z, e3, d2, e4, e5, d3, e6, e7, e8, d4, d5]
          exact tail8 (x := couR no rate ts s known) hl rfl rfl o0 o1 o2'
      · exact tail8 hl rfl rfl rfl rfl rfl
  · exact out_bool
end Go.Proofs.YtgadlckkmhhmbaaDoor
