/- CourseHelly: the pairs of one of the given drifts with the earlier ones. -/
import Derived.Test.YtgadlckkmhhmbaaDoorQT11
import Derived.Test.YtgadlckkmhhmbaaDoorQE0
import Derived.Test.YtgadlckkmhhmbaaDoorQG9
set_option linter.unusedVariables false
set_option linter.unusedSimpArgs false
set_option linter.unusedSectionVars false
namespace Go.Proofs.YtgadlckkmhhmbaaDoor
open Go.Awp Go.Grams
set_option linter.unusedSimpArgs false
set_option linter.unusedVariables false
set_option linter.unusedSectionVars false
set_option maxRecDepth 10000
theorem hisE_of {no rate known : Int} {ts : List Tst} {days grams d g : List Int} (h : hisE no rate ts known days grams = 0) (hl : d.length = g.length) (hr : risingV d = true) : hisE no rate ts known d g = 0 := by
  have h1 := hisE_zero h
  have hc : chkS no rate ts = 0 := by
    unfold hisE at h; split at h
    · omega
    · rename_i h0; simpa using h0
  unfold hisE; rw [if_neg (by simp [hc]), if_pos ⟨h1.2.2.1, hl, hr⟩]
theorem hisB_of {no rate known : Int} {ts : List Tst} {d g : List Int} (h : hisE no rate ts known d g = 0) : hisB no rate ts known d g = histB rate ts known (d.zip g) := by
  unfold hisB; rw [h]; simp
theorem rising_mem {l : List Int} (h : risingV l = true) {k : Nat} (hk : k < l.length) : okDay l[k] = true := (risingV_iff.1 h).1 _ (List.getElem_mem hk)
theorem rising_two {l : List Int} (h : risingV l = true) {i k : Nat} (hi : i < l.length) (hk : k < i) : risingV [l[k], l[i]] = true := by
  rw [risingV_iff]
  refine ⟨fun d hd => ?_, ?_, by simp⟩
  · rcases List.mem_cons.1 hd with rfl | hd
    · exact rising_mem h (by omega)
    · rw [List.mem_singleton.1 hd]; exact rising_mem h hi
  · have := upI_pairs (risingV_iff.1 h).2.1 k i (by omega) hi hk
    simp [upI, this]
theorem rising_one {l : List Int} (h : risingV l = true) {i : Nat} (hi : i < l.length) : risingV [l[i]] = true := by
  rw [risingV_iff]
  refine ⟨fun d hd => ?_, rfl, by simp⟩
  rw [List.mem_singleton.1 hd]; exact rising_mem h hi
theorem aslice_ic {H : AHeap} {b : Bool} {l : List Int} {i : Nat} (h : i < l.length) : aslice H 1 (.ro b (ic l)) (some (I (i : Int))) (some (I ((i + 1 : Nat) : Int))) = some (.ro b (ic [l[i]])) := by
  have h1 : ((ic l).all fun e => e.length == 1) = true := by simp [ic]
  unfold aslice
  simp only [h1, if_true, ic_length, abnds_h (show i + 1 ≤ l.length by omega) (show i ≤ i + 1 by omega)]
  congr 2
  simp only [ic, ← List.map_take, ← List.map_drop]
  rw [List.take_succ_eq_append_getElem h, List.drop_left' (by simp; omega)]
theorem inner11 {no rate day fr : Int} {ts : List Tst} {days grams : List Int} {i n : Nat} {is : Bool} {H : AHeap} {Q : AX → AEnv → AHeap → Prop} (hE : hisE no rate ts day days grams = 0) (hl : days.length ≤ 8) (hi : i < days.length) (p0 : AHeap.obj H 0 = some ⟨24, 3, [[I no, I rate, .ro false (trows ts)]]⟩)
    (hK : ∀ (G : AHeap) (X : AEnv), AHeap.obj G 0 = some ⟨24, 3, [[I no, I rate, .ro false (trows ts)]]⟩ → Q .normal ((1, I day) :: (2, .ro false (ic days)) :: (3, .ro false (ic grams)) :: (4, I fr) :: (5, .ptr 0 1 0 0) :: (11, .bool is) :: (13, .bool (palB rate ts day days grams (i + 1))) :: (57, I n) :: (58, I i) :: X) G) :
    awp Tryd.prog ir11e Q [(1, I day), (2, .ro false (ic days)), (3, .ro false (ic grams)), (4, I fr), (5, .ptr 0 1 0 0), (11, .bool is), (13, .bool (palB rate ts day days grams i)), (14, I i), (57, I n), (58, I i)] H := by
  unfold ir11e
  obtain ⟨hw, hc, hd, hlen, hris⟩ := hisE_zero hE
  simp only [walkS, wl, rgets, retv, argsEnv, ev, cst, cst1, cstL, AEnv.get, AEnv.trim, envput, qstep, abin, aun, evs, evo, deref, qload, target, if_true, if_false, Nat.reduceEqDiff, reduceIte, Nat.reduceAdd, AV.cells, AV.isTuple, setMany, alen, aiaddr, afill, Nat.reduceLeDiff, Nat.reduceMul, Nat.reduceLT, afillE, List.replicate]
  refine awp_loop (σ := Nat) (fun m => [(1, I day), (2, .ro false (ic days)), (3, .ro false (ic grams)), (4, I fr), (5, .ptr 0 1 0 0), (11, .bool is), (13, .bool (palB rate ts day days grams i && inB rate ts day days grams i m)), (14, I i), (57, I n), (58, I i), (61, I i), (62, I m)]) (fun m G => AHeap.obj G 0 = some ⟨24, 3, [[I no, I rate, .ro false (trows ts)]]⟩) (fun m => m ≤ i) (fun m => i - m) 0 (Nat.zero_le _) (by simp [inB]) p0 ?_
  rintro m G hm o0
  simp only [walkS, wl, rgets, retv, argsEnv, ev, cst, cst1, cstL, AEnv.get, AEnv.trim, envput, qstep, abin, aun, evs, evo, deref, qload, target, if_true, if_false, Nat.reduceEqDiff, reduceIte, Nat.reduceAdd, AV.cells, AV.isTuple, setMany, alen, aiaddr, afill, Nat.reduceLeDiff, Nat.reduceMul, Nat.reduceLT, afillE, List.replicate]
  refine withBool_intro ?_ ?_ <;> intro hb <;> simp only [walkS, wl, rgets, retv, argsEnv, ev, cst, cst1, cstL, AEnv.get, AEnv.trim, envput, qstep, abin, aun, evs, evo, deref, qload, target, if_true, if_false, Nat.reduceEqDiff, reduceIte, Nat.reduceAdd, AV.cells, AV.isTuple, setMany, alen, aiaddr, afill, Nat.reduceLeDiff, Nat.reduceMul, Nat.reduceLT, afillE, List.replicate]
  · have hmi : m < i := by simpa using hb
    have hml : m < days.length := by omega
    have hmg : m < grams.length := by omega
    have hig : i < grams.length := by omega
    have w1 := w_succ (k := m) (by omega)
    simp only [walkS, wl, rgets, retv, argsEnv, ev, cst, cst1, cstL, AEnv.get, AEnv.trim, envput, qstep, abin, aun, evs, evo, deref, qload, target, if_true, if_false, Nat.reduceEqDiff, reduceIte, Nat.reduceAdd, AV.cells, AV.isTuple, setMany, alen, aiaddr, afill, Nat.reduceLeDiff, Nat.reduceMul, Nat.reduceLT, afillE, List.replicate, o0, ic_get hml, ic_get hi, ic_get hmg, ic_get hig]
    have oa : AHeap.obj (G ++ [some ⟨3, 1, ic [days[m], days[i]]⟩, some ⟨3, 1, ic [grams[m], grams[i]]⟩]) G.length = some ⟨3, 1, ic [days[m], days[i]]⟩ := (obj_app_add (k := 0)).trans rfl
    have ob : AHeap.obj (G ++ [some ⟨3, 1, ic [days[m], days[i]]⟩, some ⟨3, 1, ic [grams[m], grams[i]]⟩]) (G.length + 1) = some ⟨3, 1, ic [grams[m], grams[i]]⟩ := (obj_app_add (k := 1)).trans rfl
    have hE2 := hisE_of (d := [days[m], days[i]]) (g := [grams[m], grams[i]]) hE rfl (rising_two hris hi hmi)
    have hP : histB rate ts day ([days[m], days[i]].zip [grams[m], grams[i]]) = pairB rate ts day days grams i m := by
      unfold pairB; rw [at0_eq hml, at0_eq hmg, at0_eq hi, at0_eq hig]; rfl
    refine dcall_pure (History_ok no rate day ts [days[m], days[i]] [grams[m], grams[i]] (by simp)) (fun X => frzL_of (d := 4) (carL_cons car_sc (carL_cons car_int (carL_cons (car_ownN oa rfl (ic_simple _)) (carL_cons (car_ownN ob rfl (ic_simple _)) rfl)))) X) ?_
    unfold hisV
    rw [hisB_of hE2, hE2, hP]
    simp only [walkS, wl, rgets, retv, argsEnv, ev, cst, cst1, cstL, AEnv.get, AEnv.trim, envput, qstep, abin, aun, evs, evo, deref, qload, target, if_true, if_false, Nat.reduceEqDiff, reduceIte, Nat.reduceAdd, AV.cells, AV.isTuple, setMany, alen, aiaddr, afill, Nat.reduceLeDiff, Nat.reduceMul, Nat.reduceLT, afillE, List.replicate, o0, ic_get hml, ic_get hi, ic_get hmg, ic_get hig, bne_self_eq_false]
    refine withGuard_intro ?_ ?_ <;> intro g1 <;> simp only [walkS, wl, rgets, retv, argsEnv, ev, cst, cst1, cstL, AEnv.get, AEnv.trim, envput, qstep, abin, aun, evs, evo, deref, qload, target, if_true, if_false, Nat.reduceEqDiff, reduceIte, Nat.reduceAdd, AV.cells, AV.isTuple, setMany, alen, aiaddr, afill, Nat.reduceLeDiff, Nat.reduceMul, Nat.reduceLT, afillE, List.replicate, g1, w1]
    · refine loop_end (m + 1) hmi (by omega) (by rw [inB_succ, ← Bool.and_assoc, g1, Bool.true_and]) (obj_keep o0)
    · refine loop_end (m + 1) hmi (by omega) (by rw [inB_succ, ← Bool.and_assoc, g1]; rfl) (obj_keep o0)
  · have hm' : m = i := by simp at hb; omega
    subst hm'
    have w1 := w_succ (k := m) (by omega)
    have hig : m < grams.length := by omega
    simp only [walkS, wl, rgets, retv, argsEnv, ev, cst, cst1, cstL, AEnv.get, AEnv.trim, envput, qstep, abin, aun, evs, evo, deref, qload, target, if_true, if_false, Nat.reduceEqDiff, reduceIte, Nat.reduceAdd, AV.cells, AV.isTuple, setMany, alen, aiaddr, afill, Nat.reduceLeDiff, Nat.reduceMul, Nat.reduceLT, afillE, List.replicate, o0, w1, ic_length, aslice_ic hi, aslice_ic hig]
    have hE2 := hisE_of (d := [days[m]]) (g := [grams[m]]) hE rfl (rising_one hris hi)
    have hP : histB rate ts day ([days[m]].zip [grams[m]]) = oneB rate ts day days grams m := by
      unfold oneB; rw [at0_eq hi, at0_eq hig]; rfl
    refine dcall_pure (History_ok no rate day ts [days[m]] [grams[m]] (by simp)) (fun X => frzL_of (d := 4) (carL_cons car_sc (carL_cons car_int (carL_cons car_ic (carL_cons car_ic rfl)))) X) ?_
    unfold hisV
    rw [hisB_of hE2, hE2, hP]
    simp only [walkS, wl, rgets, retv, argsEnv, ev, cst, cst1, cstL, AEnv.get, AEnv.trim, envput, qstep, abin, aun, evs, evo, deref, qload, target, if_true, if_false, Nat.reduceEqDiff, reduceIte, Nat.reduceAdd, AV.cells, AV.isTuple, setMany, alen, aiaddr, afill, Nat.reduceLeDiff, Nat.reduceMul, Nat.reduceLT, afillE, List.replicate, o0, w1, ic_length, aslice_ic hi, aslice_ic hig, bne_self_eq_false]
    refine withGuard_intro ?_ ?_ <;> intro g1 <;> simp only [walkS, wl, rgets, retv, argsEnv, ev, cst, cst1, cstL, AEnv.get, AEnv.trim, envput, qstep, abin, aun, evs, evo, deref, qload, target, if_true, if_false, Nat.reduceEqDiff, reduceIte, Nat.reduceAdd, AV.cells, AV.isTuple, setMany, alen, aiaddr, afill, Nat.reduceLeDiff, Nat.reduceMul, Nat.reduceLT, afillE, List.replicate, g1, w1]
    · have := hK G [] o0
      rw [palB_succ, ← Bool.and_assoc, g1] at this
      simpa only [Bool.true_and, Bool.false_and, Bool.not_true, Bool.not_false] using this
    · have := hK G [] o0
      rw [palB_succ, ← Bool.and_assoc, g1] at this
      simpa only [Bool.true_and, Bool.false_and, Bool.not_true, Bool.not_false] using this
end Go.Proofs.YtgadlckkmhhmbaaDoor
/- CourseHelly: lists that are cloned and inserted into. -/
namespace Go.Proofs.YtgadlckkmhhmbaaDoor
open Go.Awp Go.Grams
set_option linter.unusedSimpArgs false
set_option linter.unusedVariables false
set_option linter.unusedSectionVars false
set_option maxRecDepth 10000
def homeOf : AV → Option Nat
  | .own h _ _ _ => some h
  | _ => none
def IsL (H : AHeap) (x : AV) (l : List Int) : Prop := (l = [] ∧ x = .nilSlice) ∨ ∃ h, x = .own h l.length 0 l.length ∧ AHeap.obj H h = some ⟨3, 1, ic l⟩
theorem IsL.keep {H H' : AHeap} {x : AV} {l : List Int} (h : IsL H x l) (hk : ∀ q, homeOf x = some q → AHeap.obj H' q = AHeap.obj H q) : IsL H' x l := by
  rcases h with h | ⟨q, rfl, h2⟩
  · exact .inl h
  · exact .inr ⟨q, rfl, (hk q rfl).trans h2⟩
theorem iclone_b {b : Bool} (l : List Int) (hl : l.length ≤ 1000) (H : AHeap) : ACall Tryd.prog 56 [.ro b (ic l)] H fun x H' => IsL H' x l ∧ (∀ h, homeOf x = some h → H.length ≤ h ∧ h < H'.length) ∧ H.length ≤ H'.length ∧ ∀ i, i < H.length → AHeap.obj H' i = AHeap.obj H i :=
  (iclone_a l hl H).mono fun x H' ⟨h1, h2, h3⟩ => by
    rcases h1 with ⟨g1, rfl⟩ | ⟨h, g1, rfl, g3⟩
    · have hno : ∀ h, homeOf .nilSlice = some h → H.length ≤ h ∧ h < H'.length := by intro h e; cases e
      exact ⟨.inl ⟨by simpa [ic] using g1, rfl⟩, hno, h2, h3⟩
    · refine ⟨.inr ⟨h, by rw [ic_length], g3⟩, fun q e => ?_, h2, h3⟩
      cases e
      exact ⟨g1, AHeap.obj_lt g3⟩
theorem insert_b {H : AHeap} {a : AV} {l : List Int} {i m : Nat} {v : Int} (ha : IsL H a l) (hm : AHeap.obj H m = some ⟨3, 1, ic [v]⟩) (hne : homeOf a ≠ some m) (hi : i ≤ l.length) (hl : l.length ≤ 1000) :
    ACall Tryd.prog 55 [a, I i, .own m 1 0 1] H fun x H' => ∃ q, x = .own q (ins l i v).length 0 (ins l i v).length ∧ AHeap.obj H' q = some ⟨3, 1, ic (ins l i v)⟩ ∧ (homeOf a = some q ∨ q = H.length) ∧ H.length ≤ H'.length ∧ ∀ j, j < H.length → homeOf a ≠ some j → AHeap.obj H' j = AHeap.obj H j := by
  rcases ha with ⟨rfl, rfl⟩ | ⟨h, rfl, ho⟩
  · have hi0 : i = 0 := by simpa using hi
    subst hi0
    refine (Insert_nil (h := H.length) hm).mono fun x H' ⟨q, h1, h2, h3, h4, h5⟩ => ⟨q, h1, h2, .inr (by rcases h3 with h | h <;> exact h), h4, fun j hj _ => h5 j hj (by omega)⟩
  · refine (Insert_own hi hl ho hm (fun e => hne (by rw [← e]; rfl))).mono fun x H' ⟨q, h1, h2, h3, h4, h5⟩ => ⟨q, h1, h2, ?_, h4, fun j hj hn => h5 j hj (fun e => hn (by rw [e]; rfl))⟩
    rcases h3 with h | h
    · exact .inl (by rw [h]; rfl)
    · exact .inr h
theorem mor_at {fr : Int} {n k : Nat} (h : k < n) : (ic (mor fr n))[k]? = some [I (fr + (k : Int))] := by
  rw [ic_get (by rw [mor_len]; exact h), mor_get]
theorem region11 {no rate day fr g : Int} {ts : List Tst} {days grams L : List Int} {kk p hm q5 qi : Nat} {H : AHeap} {Q : AX → AEnv → AHeap → Prop} (hdl : days.length ≤ 8) (hgl : grams.length = days.length) (hp : p ≤ days.length) (hk : kk < 64) (hL : L.length = 64) (hg : L[kk]'(by omega) = g) (hgb : -1048576 ≤ g ∧ g ≤ 1048576)
    (hE : hisE no rate ts day (ins days p (fr + kk)) (ins grams p (g + 1)) = 0) (hB : histB rate ts day ((ins days p (fr + kk)).zip (ins grams p (g + 1))) = false)
    (o0 : AHeap.obj H 0 = some ⟨24, 3, [[I no, I rate, .ro false (trows ts)]]⟩) (om : AHeap.obj H hm = some ⟨3, 1, ic (mor fr 64)⟩) (o5 : AHeap.obj H q5 = some ⟨3, 1, ic [0, 20, 63]⟩)
    (hK : ∀ G : AHeap, AHeap.obj G 0 = some ⟨24, 3, [[I no, I rate, .ro false (trows ts)]]⟩ → AHeap.obj G hm = some ⟨3, 1, ic (mor fr 64)⟩ → AHeap.obj G q5 = some ⟨3, 1, ic [0, 20, 63]⟩ → 
      Q .normal [(1, I day), (2, .ro false (ic days)), (3, .ro false (ic grams)), (5, .ptr 0 1 0 0), (20, .own hm 64 0 64), (22, .ro true (ic L)), (31, .bool false), (32, I 0), (205, .own q5 3 0 3), (206, I 3), (207, I qi)] G) :
    awp Tryd.prog ir11f Q [(1, I day), (2, .ro false (ic days)), (3, .ro false (ic grams)), (5, .ptr 0 1 0 0), (20, .own hm 64 0 64), (22, .ro true (ic L)), (28, I kk), (29, I p), (205, .own q5 3 0 3), (206, I 3), (207, I qi)] H := by
  unfold ir11f
  have hki : ((kk : Int) < ((64 : Nat) : Int)) := by omega
  have hkL : kk < L.length := by omega
  have e1 : IntKind.i64.wrap (g + 1) = g + 1 := wrap_id (by omega) (by omega)
  have m64 := mor_len (fr := fr) (n := 64)
  have gL : (ic L)[kk]? = some [I g] := by rw [ic_get hkL, hg]
  have b0 := AHeap.obj_lt o0
  have bm := AHeap.obj_lt om
  have b5 := AHeap.obj_lt o5
  have nD := ins_length (v := fr + (kk : Int)) hp
  have nE := ins_length (l := grams) (i := p) (v := g + 1) (by omega)
  have k0 : ∀ X, AHeap.obj (H ++ X) 0 = some ⟨24, 3, [[I no, I rate, .ro false (trows ts)]]⟩ := fun X => obj_keep o0
  have km : ∀ X, AHeap.obj (H ++ X) hm = some ⟨3, 1, ic (mor fr 64)⟩ := fun X => obj_keep om
  simp only [walkS, wl, rgets, retv, argsEnv, ev, cst, cst1, cstL, AEnv.get, AEnv.trim, envput, qstep, abin, aun, evs, evo, deref, qload, target, if_true, if_false, Nat.reduceEqDiff, reduceIte, Nat.reduceAdd, AV.cells, AV.isTuple, setMany, alen, aiaddr, afill, Nat.reduceLeDiff, Nat.reduceMul, Nat.reduceLT, afillE, List.replicate, o0, om, k0, km, hki, gL, e1, mor_at hk, m64, ic_length, List.contains_cons, List.contains_nil, Nat.reduceBEq, Bool.or_true, Bool.true_or, Bool.or_false, ite_self, true_and, and_true, List.append_assoc, List.cons_append, List.nil_append]
  refine ⟨?_, ?_⟩
  · skip
    refine (iclone_b days (by omega) H).mono ?_
    rintro aD G1 ⟨iD, bD, lG1, keep⟩
    have o0 := (keep _ (AHeap.obj_lt o0)).trans o0
    have om := (keep _ (AHeap.obj_lt om)).trans om
    have o5 := (keep _ (AHeap.obj_lt o5)).trans o5
    have k0 : ∀ X, AHeap.obj (G1 ++ X) 0 = some ⟨24, 3, [[I no, I rate, .ro false (trows ts)]]⟩ := fun X => obj_keep o0
    have km : ∀ X, AHeap.obj (G1 ++ X) hm = some ⟨3, 1, ic (mor fr 64)⟩ := fun X => obj_keep om
    simp only [walkS, wl, rgets, retv, argsEnv, ev, cst, cst1, cstL, AEnv.get, AEnv.trim, envput, qstep, abin, aun, evs, evo, deref, qload, target, if_true, if_false, Nat.reduceEqDiff, reduceIte, Nat.reduceAdd, AV.cells, AV.isTuple, setMany, alen, aiaddr, afill, Nat.reduceLeDiff, Nat.reduceMul, Nat.reduceLT, afillE, List.replicate, o0, om, k0, km, hki, gL, e1, mor_at hk, m64, ic_length, List.contains_cons, List.contains_nil, Nat.reduceBEq, Bool.or_true, Bool.true_or, Bool.or_false, ite_self, true_and, and_true, List.append_assoc, List.cons_append, List.nil_append]
    refine ⟨?_, ?_⟩
    · skip
      refine ⟨?_, ?_⟩
      · skip
        obtain ⟨P2, hP2⟩ : ∃ P2 : AHeap, P2 = G1 ++ [some ⟨3, 1, [[I (fr + (kk : Int))]]⟩] := ⟨_, rfl⟩
        rw [← hP2]
        have lP2 : P2.length = G1.length + 1 := by rw [hP2]; simp
        have o0 := (congrArg (fun X => AHeap.obj X _) hP2).trans (obj_keep o0)
        have om := (congrArg (fun X => AHeap.obj X _) hP2).trans (obj_keep om)
        have o5 := (congrArg (fun X => AHeap.obj X _) hP2).trans (obj_keep o5)
        have iD := iD.keep (H' := P2) fun q e => by rw [hP2]; exact AHeap.obj_push_lt (by have := bD q e; omega)
        have oM1 : AHeap.obj P2 (G1.length + 0) = some ⟨3, 1, ic [fr + (kk : Int)]⟩ := (congrArg (fun X => AHeap.obj X _) hP2).trans ((obj_app_add (k := 0)).trans rfl)
        refine (insert_b (l := days) (i := p) (v := fr + (kk : Int)) iD oM1 (fun e => by have := bD _ e; omega) (by omega) (by omega)).mono ?_
        rintro _ G2 ⟨qD, rfl, sD, dD, lG2, keep⟩
        have o0 := (keep _ (AHeap.obj_lt o0) (fun e => by have := bD _ e; omega)).trans o0
        have om := (keep _ (AHeap.obj_lt om) (fun e => by have := bD _ e; omega)).trans om
        have o5 := (keep _ (AHeap.obj_lt o5) (fun e => by have := bD _ e; omega)).trans o5
        have uD := AHeap.obj_lt sD
        have k0 : ∀ X, AHeap.obj (G2 ++ X) 0 = some ⟨24, 3, [[I no, I rate, .ro false (trows ts)]]⟩ := fun X => obj_keep o0
        have km : ∀ X, AHeap.obj (G2 ++ X) hm = some ⟨3, 1, ic (mor fr 64)⟩ := fun X => obj_keep om
        simp only [walkS, wl, rgets, retv, argsEnv, ev, cst, cst1, cstL, AEnv.get, AEnv.trim, envput, qstep, abin, aun, evs, evo, deref, qload, target, if_true, if_false, Nat.reduceEqDiff, reduceIte, Nat.reduceAdd, AV.cells, AV.isTuple, setMany, alen, aiaddr, afill, Nat.reduceLeDiff, Nat.reduceMul, Nat.reduceLT, afillE, List.replicate, o0, om, k0, km, hki, gL, e1, mor_at hk, m64, ic_length, List.contains_cons, List.contains_nil, Nat.reduceBEq, Bool.or_true, Bool.true_or, Bool.or_false, ite_self, true_and, and_true, List.append_assoc, List.cons_append, List.nil_append]
        refine ⟨?_, ?_⟩
        · skip
          refine (iclone_b grams (by omega) G2).mono ?_
          rintro aE G3 ⟨iE, bE, lG3, keep⟩
          have o0 := (keep _ (AHeap.obj_lt o0)).trans o0
          have om := (keep _ (AHeap.obj_lt om)).trans om
          have o5 := (keep _ (AHeap.obj_lt o5)).trans o5
          have sD := (keep _ (AHeap.obj_lt sD)).trans sD
          have k0 : ∀ X, AHeap.obj (G3 ++ X) 0 = some ⟨24, 3, [[I no, I rate, .ro false (trows ts)]]⟩ := fun X => obj_keep o0
          have km : ∀ X, AHeap.obj (G3 ++ X) hm = some ⟨3, 1, ic (mor fr 64)⟩ := fun X => obj_keep om
          simp only [walkS, wl, rgets, retv, argsEnv, ev, cst, cst1, cstL, AEnv.get, AEnv.trim, envput, qstep, abin, aun, evs, evo, deref, qload, target, if_true, if_false, Nat.reduceEqDiff, reduceIte, Nat.reduceAdd, AV.cells, AV.isTuple, setMany, alen, aiaddr, afill, Nat.reduceLeDiff, Nat.reduceMul, Nat.reduceLT, afillE, List.replicate, o0, om, k0, km, hki, gL, e1, mor_at hk, m64, ic_length, List.contains_cons, List.contains_nil, Nat.reduceBEq, Bool.or_true, Bool.true_or, Bool.or_false, ite_self, true_and, and_true, List.append_assoc, List.cons_append, List.nil_append]
          obtain ⟨P4, hP4⟩ : ∃ P4 : AHeap, P4 = G3 ++ [some ⟨3, 1, [[I (g + 1)]]⟩] := ⟨_, rfl⟩
          rw [← hP4]
          have lP4 : P4.length = G3.length + 1 := by rw [hP4]; simp
          have o0 := (congrArg (fun X => AHeap.obj X _) hP4).trans (obj_keep o0)
          have om := (congrArg (fun X => AHeap.obj X _) hP4).trans (obj_keep om)
          have o5 := (congrArg (fun X => AHeap.obj X _) hP4).trans (obj_keep o5)
          have sD := (congrArg (fun X => AHeap.obj X _) hP4).trans (obj_keep sD)
          have iE := iE.keep (H' := P4) fun q e => by rw [hP4]; exact AHeap.obj_push_lt (by have := bE q e; omega)
          have oM2 : AHeap.obj P4 (G3.length + 0) = some ⟨3, 1, ic [g + 1]⟩ := (congrArg (fun X => AHeap.obj X _) hP4).trans ((obj_app_add (k := 0)).trans rfl)
          refine (insert_b (l := grams) (i := p) (v := g + 1) iE oM2 (fun e => by have := bE _ e; omega) (by omega) (by omega)).mono ?_
          rintro _ G4 ⟨qE, rfl, sE, dE, lG4, keep⟩
          have o0 := (keep _ (AHeap.obj_lt o0) (fun e => by have := bE _ e; omega)).trans o0
          have om := (keep _ (AHeap.obj_lt om) (fun e => by have := bE _ e; omega)).trans om
          have o5 := (keep _ (AHeap.obj_lt o5) (fun e => by have := bE _ e; omega)).trans o5
          have sD := (keep _ (AHeap.obj_lt sD) (fun e => by have h1 := bE _ e; omega)).trans sD
          have uE := AHeap.obj_lt sE
          have k0 : ∀ X, AHeap.obj (G4 ++ X) 0 = some ⟨24, 3, [[I no, I rate, .ro false (trows ts)]]⟩ := fun X => obj_keep o0
          have km : ∀ X, AHeap.obj (G4 ++ X) hm = some ⟨3, 1, ic (mor fr 64)⟩ := fun X => obj_keep om
          simp only [walkS, wl, rgets, retv, argsEnv, ev, cst, cst1, cstL, AEnv.get, AEnv.trim, envput, qstep, abin, aun, evs, evo, deref, qload, target, if_true, if_false, Nat.reduceEqDiff, reduceIte, Nat.reduceAdd, AV.cells, AV.isTuple, setMany, alen, aiaddr, afill, Nat.reduceLeDiff, Nat.reduceMul, Nat.reduceLT, afillE, List.replicate, o0, om, k0, km, hki, gL, e1, mor_at hk, m64, ic_length, List.contains_cons, List.contains_nil, Nat.reduceBEq, Bool.or_true, Bool.true_or, Bool.or_false, ite_self, true_and, and_true, List.append_assoc, List.cons_append, List.nil_append]
          refine call_pure (History_ok no rate day ts (ins days p (fr + (kk : Int))) (ins grams p (g + 1)) (by omega)) (frzL_of' (d := 4) (carL_cons car_sc (carL_cons car_int (carL_cons (car_ownN sD (ic_length _) (ic_simple _)) (carL_cons (car_ownN sE (ic_length _) (ic_simple _)) rfl))))) ?_
          unfold hisV; rw [hisB_of hE, hB, hE]
          simp only [walkS, wl, rgets, retv, argsEnv, ev, cst, cst1, cstL, AEnv.get, AEnv.trim, envput, qstep, abin, aun, evs, evo, deref, qload, target, if_true, if_false, Nat.reduceEqDiff, reduceIte, Nat.reduceAdd, AV.cells, AV.isTuple, setMany, alen, aiaddr, afill, Nat.reduceLeDiff, Nat.reduceMul, Nat.reduceLT, afillE, List.replicate, hki, gL, e1, mor_at hk, m64, ic_length, List.contains_cons, List.contains_nil, Nat.reduceBEq, Bool.or_true, Bool.true_or, Bool.or_false, ite_self, true_and, and_true, List.append_assoc, List.cons_append, List.nil_append]
          exact hK _ o0 om o5
        obtain ⟨P6, hP6⟩ : ∃ P6 : AHeap, P6 = G2 ++ [some ⟨3, 1, [[I (g + 1)]]⟩] := ⟨_, rfl⟩
        rw [← hP6]
        have lP6 : P6.length = G2.length + 1 := by rw [hP6]; simp
        have o0 := (congrArg (fun X => AHeap.obj X _) hP6).trans (obj_keep o0)
        have om := (congrArg (fun X => AHeap.obj X _) hP6).trans (obj_keep om)
        have o5 := (congrArg (fun X => AHeap.obj X _) hP6).trans (obj_keep o5)
        have sD := (congrArg (fun X => AHeap.obj X _) hP6).trans (obj_keep sD)
        have oM2 : AHeap.obj P6 (G2.length + 0) = some ⟨3, 1, ic [g + 1]⟩ := (congrArg (fun X => AHeap.obj X _) hP6).trans ((obj_app_add (k := 0)).trans rfl)
        refine (iclone_b grams (by omega) P6).mono ?_
        rintro aE G6 ⟨iE, bE, lG6, keep⟩
        have o0 := (keep _ (AHeap.obj_lt o0)).trans o0
        have om := (keep _ (AHeap.obj_lt om)).trans om
        have o5 := (keep _ (AHeap.obj_lt o5)).trans o5
        have sD := (keep _ (AHeap.obj_lt sD)).trans sD
        have oM2 := (keep _ (AHeap.obj_lt oM2)).trans oM2
        have k0 : ∀ X, AHeap.obj (G6 ++ X) 0 = some ⟨24, 3, [[I no, I rate, .ro false (trows ts)]]⟩ := fun X => obj_keep o0
        have km : ∀ X, AHeap.obj (G6 ++ X) hm = some ⟨3, 1, ic (mor fr 64)⟩ := fun X => obj_keep om
        simp only [walkS, wl, rgets, retv, argsEnv, ev, cst, cst1, cstL, AEnv.get, AEnv.trim, envput, qstep, abin, aun, evs, evo, deref, qload, target, if_true, if_false, Nat.reduceEqDiff, reduceIte, Nat.reduceAdd, AV.cells, AV.isTuple, setMany, alen, aiaddr, afill, Nat.reduceLeDiff, Nat.reduceMul, Nat.reduceLT, afillE, List.replicate, o0, om, k0, km, hki, gL, e1, mor_at hk, m64, ic_length, List.contains_cons, List.contains_nil, Nat.reduceBEq, Bool.or_true, Bool.true_or, Bool.or_false, ite_self, true_and, and_true, List.append_assoc, List.cons_append, List.nil_append]
        refine (insert_b (l := grams) (i := p) (v := g + 1) iE oM2 (fun e => by have := bE _ e; omega) (by omega) (by omega)).mono ?_
        rintro _ G7 ⟨qE, rfl, sE, dE, lG7, keep⟩
        have o0 := (keep _ (AHeap.obj_lt o0) (fun e => by have := bE _ e; omega)).trans o0
        have om := (keep _ (AHeap.obj_lt om) (fun e => by have := bE _ e; omega)).trans om
        have o5 := (keep _ (AHeap.obj_lt o5) (fun e => by have := bE _ e; omega)).trans o5
        have sD := (keep _ (AHeap.obj_lt sD) (fun e => by have h1 := bE _ e; omega)).trans sD
        have uE := AHeap.obj_lt sE
        have k0 : ∀ X, AHeap.obj (G7 ++ X) 0 = some ⟨24, 3, [[I no, I rate, .ro false (trows ts)]]⟩ := fun X => obj_keep o0
        have km : ∀ X, AHeap.obj (G7 ++ X) hm = some ⟨3, 1, ic (mor fr 64)⟩ := fun X => obj_keep om
        simp only [walkS, wl, rgets, retv, argsEnv, ev, cst, cst1, cstL, AEnv.get, AEnv.trim, envput, qstep, abin, aun, evs, evo, deref, qload, target, if_true, if_false, Nat.reduceEqDiff, reduceIte, Nat.reduceAdd, AV.cells, AV.isTuple, setMany, alen, aiaddr, afill, Nat.reduceLeDiff, Nat.reduceMul, Nat.reduceLT, afillE, List.replicate, o0, om, k0, km, hki, gL, e1, mor_at hk, m64, ic_length, List.contains_cons, List.contains_nil, Nat.reduceBEq, Bool.or_true, Bool.true_or, Bool.or_false, ite_self, true_and, and_true, List.append_assoc, List.cons_append, List.nil_append]
        refine call_pure (History_ok no rate day ts (ins days p (fr + (kk : Int))) (ins grams p (g + 1)) (by omega)) (frzL_of' (d := 4) (carL_cons car_sc (carL_cons car_int (carL_cons (car_ownN sD (ic_length _) (ic_simple _)) (carL_cons (car_ownN sE (ic_length _) (ic_simple _)) rfl))))) ?_
        unfold hisV; rw [hisB_of hE, hB, hE]
        simp only [walkS, wl, rgets, retv, argsEnv, ev, cst, cst1, cstL, AEnv.get, AEnv.trim, envput, qstep, abin, aun, evs, evo, deref, qload, target, if_true, if_false, Nat.reduceEqDiff, reduceIte, Nat.reduceAdd, AV.cells, AV.isTuple, setMany, alen, aiaddr, afill, Nat.reduceLeDiff, Nat.reduceMul, Nat.reduceLT, afillE, List.replicate, hki, gL, e1, mor_at hk, m64, ic_length, List.contains_cons, List.contains_nil, Nat.reduceBEq, Bool.or_true, Bool.true_or, Bool.or_false, ite_self, true_and, and_true, List.append_assoc, List.cons_append, List.nil_append]
        exact hK _ o0 om o5
      obtain ⟨P9, hP9⟩ : ∃ P9 : AHeap, P9 = G1 ++ [some ⟨3, 1, [[I (fr + (kk : Int))]]⟩, some ⟨3, 1, [[I (g + 1)]]⟩] := ⟨_, rfl⟩
      rw [← hP9]
      have lP9 : P9.length = G1.length + 2 := by rw [hP9]; simp
      have o0 := (congrArg (fun X => AHeap.obj X _) hP9).trans (obj_keep o0)
      have om := (congrArg (fun X => AHeap.obj X _) hP9).trans (obj_keep om)
      have o5 := (congrArg (fun X => AHeap.obj X _) hP9).trans (obj_keep o5)
      have iD := iD.keep (H' := P9) fun q e => by rw [hP9]; exact AHeap.obj_push_lt (by have := bD q e; omega)
      have oM1 : AHeap.obj P9 (G1.length + 0) = some ⟨3, 1, ic [fr + (kk : Int)]⟩ := (congrArg (fun X => AHeap.obj X _) hP9).trans ((obj_app_add (k := 0)).trans rfl)
      have oM2 : AHeap.obj P9 (G1.length + 1) = some ⟨3, 1, ic [g + 1]⟩ := (congrArg (fun X => AHeap.obj X _) hP9).trans ((obj_app_add (k := 1)).trans rfl)
      refine (insert_b (l := days) (i := p) (v := fr + (kk : Int)) iD oM1 (fun e => by have := bD _ e; omega) (by omega) (by omega)).mono ?_
      rintro _ G9 ⟨qD, rfl, sD, dD, lG9, keep⟩
      have o0 := (keep _ (AHeap.obj_lt o0) (fun e => by have := bD _ e; omega)).trans o0
      have om := (keep _ (AHeap.obj_lt om) (fun e => by have := bD _ e; omega)).trans om
      have o5 := (keep _ (AHeap.obj_lt o5) (fun e => by have := bD _ e; omega)).trans o5
      have oM2 := (keep _ (AHeap.obj_lt oM2) (fun e => by have := bD _ e; omega)).trans oM2
      have uD := AHeap.obj_lt sD
      have k0 : ∀ X, AHeap.obj (G9 ++ X) 0 = some ⟨24, 3, [[I no, I rate, .ro false (trows ts)]]⟩ := fun X => obj_keep o0
      have km : ∀ X, AHeap.obj (G9 ++ X) hm = some ⟨3, 1, ic (mor fr 64)⟩ := fun X => obj_keep om
      simp only [walkS, wl, rgets, retv, argsEnv, ev, cst, cst1, cstL, AEnv.get, AEnv.trim, envput, qstep, abin, aun, evs, evo, deref, qload, target, if_true, if_false, Nat.reduceEqDiff, reduceIte, Nat.reduceAdd, AV.cells, AV.isTuple, setMany, alen, aiaddr, afill, Nat.reduceLeDiff, Nat.reduceMul, Nat.reduceLT, afillE, List.replicate, o0, om, k0, km, hki, gL, e1, mor_at hk, m64, ic_length, List.contains_cons, List.contains_nil, Nat.reduceBEq, Bool.or_true, Bool.true_or, Bool.or_false, ite_self, true_and, and_true, List.append_assoc, List.cons_append, List.nil_append]
      refine (iclone_b grams (by omega) G9).mono ?_
      rintro aE G10 ⟨iE, bE, lG10, keep⟩
      have o0 := (keep _ (AHeap.obj_lt o0)).trans o0
      have om := (keep _ (AHeap.obj_lt om)).trans om
      have o5 := (keep _ (AHeap.obj_lt o5)).trans o5
      have oM2 := (keep _ (AHeap.obj_lt oM2)).trans oM2
      have sD := (keep _ (AHeap.obj_lt sD)).trans sD
      have k0 : ∀ X, AHeap.obj (G10 ++ X) 0 = some ⟨24, 3, [[I no, I rate, .ro false (trows ts)]]⟩ := fun X => obj_keep o0
      have km : ∀ X, AHeap.obj (G10 ++ X) hm = some ⟨3, 1, ic (mor fr 64)⟩ := fun X => obj_keep om
      simp only [walkS, wl, rgets, retv, argsEnv, ev, cst, cst1, cstL, AEnv.get, AEnv.trim, envput, qstep, abin, aun, evs, evo, deref, qload, target, if_true, if_false, Nat.reduceEqDiff, reduceIte, Nat.reduceAdd, AV.cells, AV.isTuple, setMany, alen, aiaddr, afill, Nat.reduceLeDiff, Nat.reduceMul, Nat.reduceLT, afillE, List.replicate, o0, om, k0, km, hki, gL, e1, mor_at hk, m64, ic_length, List.contains_cons, List.contains_nil, Nat.reduceBEq, Bool.or_true, Bool.true_or, Bool.or_false, ite_self, true_and, and_true, List.append_assoc, List.cons_append, List.nil_append]
      refine (insert_b (l := grams) (i := p) (v := g + 1) iE oM2 (fun e => by have := bE _ e; omega) (by omega) (by omega)).mono ?_
      rintro _ G11 ⟨qE, rfl, sE, dE, lG11, keep⟩
      have o0 := (keep _ (AHeap.obj_lt o0) (fun e => by have := bE _ e; omega)).trans o0
      have om := (keep _ (AHeap.obj_lt om) (fun e => by have := bE _ e; omega)).trans om
      have o5 := (keep _ (AHeap.obj_lt o5) (fun e => by have := bE _ e; omega)).trans o5
      have sD := (keep _ (AHeap.obj_lt sD) (fun e => by have h1 := bE _ e; omega)).trans sD
      have uE := AHeap.obj_lt sE
      have k0 : ∀ X, AHeap.obj (G11 ++ X) 0 = some ⟨24, 3, [[I no, I rate, .ro false (trows ts)]]⟩ := fun X => obj_keep o0
      have km : ∀ X, AHeap.obj (G11 ++ X) hm = some ⟨3, 1, ic (mor fr 64)⟩ := fun X => obj_keep om
      simp only [walkS, wl, rgets, retv, argsEnv, ev, cst, cst1, cstL, AEnv.get, AEnv.trim, envput, qstep, abin, aun, evs, evo, deref, qload, target, if_true, if_false, Nat.reduceEqDiff, reduceIte, Nat.reduceAdd, AV.cells, AV.isTuple, setMany, alen, aiaddr, afill, Nat.reduceLeDiff, Nat.reduceMul, Nat.reduceLT, afillE, List.replicate, o0, om, k0, km, hki, gL, e1, mor_at hk, m64, ic_length, List.contains_cons, List.contains_nil, Nat.reduceBEq, Bool.or_true, Bool.true_or, Bool.or_false, ite_self, true_and, and_true, List.append_assoc, List.cons_append, List.nil_append]
      refine call_pure (History_ok no rate day ts (ins days p (fr + (kk : Int))) (ins grams p (g + 1)) (by omega)) (frzL_of' (d := 4) (carL_cons car_sc (carL_cons car_int (carL_cons (car_ownN sD (ic_length _) (ic_simple _)) (carL_cons (car_ownN sE (ic_length _) (ic_simple _)) rfl))))) ?_
      unfold hisV; rw [hisB_of hE, hB, hE]
      simp only [walkS, wl, rgets, retv, argsEnv, ev, cst, cst1, cstL, AEnv.get, AEnv.trim, envput, qstep, abin, aun, evs, evo, deref, qload, target, if_true, if_false, Nat.reduceEqDiff, reduceIte, Nat.reduceAdd, AV.cells, AV.isTuple, setMany, alen, aiaddr, afill, Nat.reduceLeDiff, Nat.reduceMul, Nat.reduceLT, afillE, List.replicate, hki, gL, e1, mor_at hk, m64, ic_length, List.contains_cons, List.contains_nil, Nat.reduceBEq, Bool.or_true, Bool.true_or, Bool.or_false, ite_self, true_and, and_true, List.append_assoc, List.cons_append, List.nil_append]
      exact hK _ o0 om o5
    obtain ⟨P13, hP13⟩ : ∃ P13 : AHeap, P13 = G1 ++ [some ⟨3, 1, [[I (g + 1)]]⟩, some ⟨3, 1, [[I (fr + (kk : Int))]]⟩] := ⟨_, rfl⟩
    rw [← hP13]
    have lP13 : P13.length = G1.length + 2 := by rw [hP13]; simp
    have o0 := (congrArg (fun X => AHeap.obj X _) hP13).trans (obj_keep o0)
    have om := (congrArg (fun X => AHeap.obj X _) hP13).trans (obj_keep om)
    have o5 := (congrArg (fun X => AHeap.obj X _) hP13).trans (obj_keep o5)
    have iD := iD.keep (H' := P13) fun q e => by rw [hP13]; exact AHeap.obj_push_lt (by have := bD q e; omega)
    have oM2 : AHeap.obj P13 (G1.length + 0) = some ⟨3, 1, ic [g + 1]⟩ := (congrArg (fun X => AHeap.obj X _) hP13).trans ((obj_app_add (k := 0)).trans rfl)
    have oM1 : AHeap.obj P13 (G1.length + 1) = some ⟨3, 1, ic [fr + (kk : Int)]⟩ := (congrArg (fun X => AHeap.obj X _) hP13).trans ((obj_app_add (k := 1)).trans rfl)
    refine (insert_b (l := days) (i := p) (v := fr + (kk : Int)) iD oM1 (fun e => by have := bD _ e; omega) (by omega) (by omega)).mono ?_
    rintro _ G13 ⟨qD, rfl, sD, dD, lG13, keep⟩
    have o0 := (keep _ (AHeap.obj_lt o0) (fun e => by have := bD _ e; omega)).trans o0
    have om := (keep _ (AHeap.obj_lt om) (fun e => by have := bD _ e; omega)).trans om
    have o5 := (keep _ (AHeap.obj_lt o5) (fun e => by have := bD _ e; omega)).trans o5
    have oM2 := (keep _ (AHeap.obj_lt oM2) (fun e => by have := bD _ e; omega)).trans oM2
    have uD := AHeap.obj_lt sD
    have k0 : ∀ X, AHeap.obj (G13 ++ X) 0 = some ⟨24, 3, [[I no, I rate, .ro false (trows ts)]]⟩ := fun X => obj_keep o0
    have km : ∀ X, AHeap.obj (G13 ++ X) hm = some ⟨3, 1, ic (mor fr 64)⟩ := fun X => obj_keep om
    simp only [walkS, wl, rgets, retv, argsEnv, ev, cst, cst1, cstL, AEnv.get, AEnv.trim, envput, qstep, abin, aun, evs, evo, deref, qload, target, if_true, if_false, Nat.reduceEqDiff, reduceIte, Nat.reduceAdd, AV.cells, AV.isTuple, setMany, alen, aiaddr, afill, Nat.reduceLeDiff, Nat.reduceMul, Nat.reduceLT, afillE, List.replicate, o0, om, k0, km, hki, gL, e1, mor_at hk, m64, ic_length, List.contains_cons, List.contains_nil, Nat.reduceBEq, Bool.or_true, Bool.true_or, Bool.or_false, ite_self, true_and, and_true, List.append_assoc, List.cons_append, List.nil_append]
    refine (iclone_b grams (by omega) G13).mono ?_
    rintro aE G14 ⟨iE, bE, lG14, keep⟩
    have o0 := (keep _ (AHeap.obj_lt o0)).trans o0
    have om := (keep _ (AHeap.obj_lt om)).trans om
    have o5 := (keep _ (AHeap.obj_lt o5)).trans o5
    have oM2 := (keep _ (AHeap.obj_lt oM2)).trans oM2
    have sD := (keep _ (AHeap.obj_lt sD)).trans sD
    have k0 : ∀ X, AHeap.obj (G14 ++ X) 0 = some ⟨24, 3, [[I no, I rate, .ro false (trows ts)]]⟩ := fun X => obj_keep o0
    have km : ∀ X, AHeap.obj (G14 ++ X) hm = some ⟨3, 1, ic (mor fr 64)⟩ := fun X => obj_keep om
    simp only [walkS, wl, rgets, retv, argsEnv, ev, cst, cst1, cstL, AEnv.get, AEnv.trim, envput, qstep, abin, aun, evs, evo, deref, qload, target, if_true, if_false, Nat.reduceEqDiff, reduceIte, Nat.reduceAdd, AV.cells, AV.isTuple, setMany, alen, aiaddr, afill, Nat.reduceLeDiff, Nat.reduceMul, Nat.reduceLT, afillE, List.replicate, o0, om, k0, km, hki, gL, e1, mor_at hk, m64, ic_length, List.contains_cons, List.contains_nil, Nat.reduceBEq, Bool.or_true, Bool.true_or, Bool.or_false, ite_self, true_and, and_true, List.append_assoc, List.cons_append, List.nil_append]
    refine (insert_b (l := grams) (i := p) (v := g + 1) iE oM2 (fun e => by have := bE _ e; omega) (by omega) (by omega)).mono ?_
    rintro _ G15 ⟨qE, rfl, sE, dE, lG15, keep⟩
    have o0 := (keep _ (AHeap.obj_lt o0) (fun e => by have := bE _ e; omega)).trans o0
    have om := (keep _ (AHeap.obj_lt om) (fun e => by have := bE _ e; omega)).trans om
    have o5 := (keep _ (AHeap.obj_lt o5) (fun e => by have := bE _ e; omega)).trans o5
    have sD := (keep _ (AHeap.obj_lt sD) (fun e => by have h1 := bE _ e; omega)).trans sD
    have uE := AHeap.obj_lt sE
    have k0 : ∀ X, AHeap.obj (G15 ++ X) 0 = some ⟨24, 3, [[I no, I rate, .ro false (trows ts)]]⟩ := fun X => obj_keep o0
    have km : ∀ X, AHeap.obj (G15 ++ X) hm = some ⟨3, 1, ic (mor fr 64)⟩ := fun X => obj_keep om
    simp only [walkS, wl, rgets, retv, argsEnv, ev, cst, cst1, cstL, AEnv.get, AEnv.trim, envput, qstep, abin, aun, evs, evo, deref, qload, target, if_true, if_false, Nat.reduceEqDiff, reduceIte, Nat.reduceAdd, AV.cells, AV.isTuple, setMany, alen, aiaddr, afill, Nat.reduceLeDiff, Nat.reduceMul, Nat.reduceLT, afillE, List.replicate, o0, om, k0, km, hki, gL, e1, mor_at hk, m64, ic_length, List.contains_cons, List.contains_nil, Nat.reduceBEq, Bool.or_true, Bool.true_or, Bool.or_false, ite_self, true_and, and_true, List.append_assoc, List.cons_append, List.nil_append]
    refine call_pure (History_ok no rate day ts (ins days p (fr + (kk : Int))) (ins grams p (g + 1)) (by omega)) (frzL_of' (d := 4) (carL_cons car_sc (carL_cons car_int (carL_cons (car_ownN sD (ic_length _) (ic_simple _)) (carL_cons (car_ownN sE (ic_length _) (ic_simple _)) rfl))))) ?_
    unfold hisV; rw [hisB_of hE, hB, hE]
    simp only [walkS, wl, rgets, retv, argsEnv, ev, cst, cst1, cstL, AEnv.get, AEnv.trim, envput, qstep, abin, aun, evs, evo, deref, qload, target, if_true, if_false, Nat.reduceEqDiff, reduceIte, Nat.reduceAdd, AV.cells, AV.isTuple, setMany, alen, aiaddr, afill, Nat.reduceLeDiff, Nat.reduceMul, Nat.reduceLT, afillE, List.replicate, hki, gL, e1, mor_at hk, m64, ic_length, List.contains_cons, List.contains_nil, Nat.reduceBEq, Bool.or_true, Bool.true_or, Bool.or_false, ite_self, true_and, and_true, List.append_assoc, List.cons_append, List.nil_append]
    exact hK _ o0 om o5
  refine ⟨?_, ?_⟩
  · skip
    refine ⟨?_, ?_⟩
    · skip
      obtain ⟨P17, hP17⟩ : ∃ P17 : AHeap, P17 = H ++ [some ⟨3, 1, [[I (fr + (kk : Int))]]⟩] := ⟨_, rfl⟩
      rw [← hP17]
      have lP17 : P17.length = H.length + 1 := by rw [hP17]; simp
      have o0 := (congrArg (fun X => AHeap.obj X _) hP17).trans (obj_keep o0)
      have om := (congrArg (fun X => AHeap.obj X _) hP17).trans (obj_keep om)
      have o5 := (congrArg (fun X => AHeap.obj X _) hP17).trans (obj_keep o5)
      have oM1 : AHeap.obj P17 (H.length + 0) = some ⟨3, 1, ic [fr + (kk : Int)]⟩ := (congrArg (fun X => AHeap.obj X _) hP17).trans ((obj_app_add (k := 0)).trans rfl)
      refine (iclone_b days (by omega) P17).mono ?_
      rintro aD G17 ⟨iD, bD, lG17, keep⟩
      have o0 := (keep _ (AHeap.obj_lt o0)).trans o0
      have om := (keep _ (AHeap.obj_lt om)).trans om
      have o5 := (keep _ (AHeap.obj_lt o5)).trans o5
      have oM1 := (keep _ (AHeap.obj_lt oM1)).trans oM1
      have k0 : ∀ X, AHeap.obj (G17 ++ X) 0 = some ⟨24, 3, [[I no, I rate, .ro false (trows ts)]]⟩ := fun X => obj_keep o0
      have km : ∀ X, AHeap.obj (G17 ++ X) hm = some ⟨3, 1, ic (mor fr 64)⟩ := fun X => obj_keep om
      simp only [walkS, wl, rgets, retv, argsEnv, ev, cst, cst1, cstL, AEnv.get, AEnv.trim, envput, qstep, abin, aun, evs, evo, deref, qload, target, if_true, if_false, Nat.reduceEqDiff, reduceIte, Nat.reduceAdd, AV.cells, AV.isTuple, setMany, alen, aiaddr, afill, Nat.reduceLeDiff, Nat.reduceMul, Nat.reduceLT, afillE, List.replicate, o0, om, k0, km, hki, gL, e1, mor_at hk, m64, ic_length, List.contains_cons, List.contains_nil, Nat.reduceBEq, Bool.or_true, Bool.true_or, Bool.or_false, ite_self, true_and, and_true, List.append_assoc, List.cons_append, List.nil_append]
      refine ⟨?_, ?_⟩
      · skip
        refine (insert_b (l := days) (i := p) (v := fr + (kk : Int)) iD oM1 (fun e => by have := bD _ e; omega) (by omega) (by omega)).mono ?_
        rintro _ G18 ⟨qD, rfl, sD, dD, lG18, keep⟩
        have o0 := (keep _ (AHeap.obj_lt o0) (fun e => by have := bD _ e; omega)).trans o0
        have om := (keep _ (AHeap.obj_lt om) (fun e => by have := bD _ e; omega)).trans om
        have o5 := (keep _ (AHeap.obj_lt o5) (fun e => by have := bD _ e; omega)).trans o5
        have uD := AHeap.obj_lt sD
        have k0 : ∀ X, AHeap.obj (G18 ++ X) 0 = some ⟨24, 3, [[I no, I rate, .ro false (trows ts)]]⟩ := fun X => obj_keep o0
        have km : ∀ X, AHeap.obj (G18 ++ X) hm = some ⟨3, 1, ic (mor fr 64)⟩ := fun X => obj_keep om
        simp only [walkS, wl, rgets, retv, argsEnv, ev, cst, cst1, cstL, AEnv.get, AEnv.trim, envput, qstep, abin, aun, evs, evo, deref, qload, target, if_true, if_false, Nat.reduceEqDiff, reduceIte, Nat.reduceAdd, AV.cells, AV.isTuple, setMany, alen, aiaddr, afill, Nat.reduceLeDiff, Nat.reduceMul, Nat.reduceLT, afillE, List.replicate, o0, om, k0, km, hki, gL, e1, mor_at hk, m64, ic_length, List.contains_cons, List.contains_nil, Nat.reduceBEq, Bool.or_true, Bool.true_or, Bool.or_false, ite_self, true_and, and_true, List.append_assoc, List.cons_append, List.nil_append]
        refine ⟨?_, ?_⟩
        · skip
          refine (iclone_b grams (by omega) G18).mono ?_
          rintro aE G19 ⟨iE, bE, lG19, keep⟩
          have o0 := (keep _ (AHeap.obj_lt o0)).trans o0
          have om := (keep _ (AHeap.obj_lt om)).trans om
          have o5 := (keep _ (AHeap.obj_lt o5)).trans o5
          have sD := (keep _ (AHeap.obj_lt sD)).trans sD
          have k0 : ∀ X, AHeap.obj (G19 ++ X) 0 = some ⟨24, 3, [[I no, I rate, .ro false (trows ts)]]⟩ := fun X => obj_keep o0
          have km : ∀ X, AHeap.obj (G19 ++ X) hm = some ⟨3, 1, ic (mor fr 64)⟩ := fun X => obj_keep om
          simp only [walkS, wl, rgets, retv, argsEnv, ev, cst, cst1, cstL, AEnv.get, AEnv.trim, envput, qstep, abin, aun, evs, evo, deref, qload, target, if_true, if_false, Nat.reduceEqDiff, reduceIte, Nat.reduceAdd, AV.cells, AV.isTuple, setMany, alen, aiaddr, afill, Nat.reduceLeDiff, Nat.reduceMul, Nat.reduceLT, afillE, List.replicate, o0, om, k0, km, hki, gL, e1, mor_at hk, m64, ic_length, List.contains_cons, List.contains_nil, Nat.reduceBEq, Bool.or_true, Bool.true_or, Bool.or_false, ite_self, true_and, and_true, List.append_assoc, List.cons_append, List.nil_append]
          obtain ⟨P20, hP20⟩ : ∃ P20 : AHeap, P20 = G19 ++ [some ⟨3, 1, [[I (g + 1)]]⟩] := ⟨_, rfl⟩
          rw [← hP20]
          have lP20 : P20.length = G19.length + 1 := by rw [hP20]; simp
          have o0 := (congrArg (fun X => AHeap.obj X _) hP20).trans (obj_keep o0)
          have om := (congrArg (fun X => AHeap.obj X _) hP20).trans (obj_keep om)
          have o5 := (congrArg (fun X => AHeap.obj X _) hP20).trans (obj_keep o5)
          have sD := (congrArg (fun X => AHeap.obj X _) hP20).trans (obj_keep sD)
          have iE := iE.keep (H' := P20) fun q e => by rw [hP20]; exact AHeap.obj_push_lt (by have := bE q e; omega)
          have oM2 : AHeap.obj P20 (G19.length + 0) = some ⟨3, 1, ic [g + 1]⟩ := (congrArg (fun X => AHeap.obj X _) hP20).trans ((obj_app_add (k := 0)).trans rfl)
          refine (insert_b (l := grams) (i := p) (v := g + 1) iE oM2 (fun e => by have := bE _ e; omega) (by omega) (by omega)).mono ?_
          rintro _ G20 ⟨qE, rfl, sE, dE, lG20, keep⟩
          have o0 := (keep _ (AHeap.obj_lt o0) (fun e => by have := bE _ e; omega)).trans o0
          have om := (keep _ (AHeap.obj_lt om) (fun e => by have := bE _ e; omega)).trans om
          have o5 := (keep _ (AHeap.obj_lt o5) (fun e => by have := bE _ e; omega)).trans o5
          have sD := (keep _ (AHeap.obj_lt sD) (fun e => by have h1 := bE _ e; omega)).trans sD
          have uE := AHeap.obj_lt sE
          have k0 : ∀ X, AHeap.obj (G20 ++ X) 0 = some ⟨24, 3, [[I no, I rate, .ro false (trows ts)]]⟩ := fun X => obj_keep o0
          have km : ∀ X, AHeap.obj (G20 ++ X) hm = some ⟨3, 1, ic (mor fr 64)⟩ := fun X => obj_keep om
          simp only [walkS, wl, rgets, retv, argsEnv, ev, cst, cst1, cstL, AEnv.get, AEnv.trim, envput, qstep, abin, aun, evs, evo, deref, qload, target, if_true, if_false, Nat.reduceEqDiff, reduceIte, Nat.reduceAdd, AV.cells, AV.isTuple, setMany, alen, aiaddr, afill, Nat.reduceLeDiff, Nat.reduceMul, Nat.reduceLT, afillE, List.replicate, o0, om, k0, km, hki, gL, e1, mor_at hk, m64, ic_length, List.contains_cons, List.contains_nil, Nat.reduceBEq, Bool.or_true, Bool.true_or, Bool.or_false, ite_self, true_and, and_true, List.append_assoc, List.cons_append, List.nil_append]
          refine call_pure (History_ok no rate day ts (ins days p (fr + (kk : Int))) (ins grams p (g + 1)) (by omega)) (frzL_of' (d := 4) (carL_cons car_sc (carL_cons car_int (carL_cons (car_ownN sD (ic_length _) (ic_simple _)) (carL_cons (car_ownN sE (ic_length _) (ic_simple _)) rfl))))) ?_
          unfold hisV; rw [hisB_of hE, hB, hE]
          simp only [walkS, wl, rgets, retv, argsEnv, ev, cst, cst1, cstL, AEnv.get, AEnv.trim, envput, qstep, abin, aun, evs, evo, deref, qload, target, if_true, if_false, Nat.reduceEqDiff, reduceIte, Nat.reduceAdd, AV.cells, AV.isTuple, setMany, alen, aiaddr, afill, Nat.reduceLeDiff, Nat.reduceMul, Nat.reduceLT, afillE, List.replicate, hki, gL, e1, mor_at hk, m64, ic_length, List.contains_cons, List.contains_nil, Nat.reduceBEq, Bool.or_true, Bool.true_or, Bool.or_false, ite_self, true_and, and_true, List.append_assoc, List.cons_append, List.nil_append]
          exact hK _ o0 om o5
        obtain ⟨P22, hP22⟩ : ∃ P22 : AHeap, P22 = G18 ++ [some ⟨3, 1, [[I (g + 1)]]⟩] := ⟨_, rfl⟩
        rw [← hP22]
        have lP22 : P22.length = G18.length + 1 := by rw [hP22]; simp
        have o0 := (congrArg (fun X => AHeap.obj X _) hP22).trans (obj_keep o0)
        have om := (congrArg (fun X => AHeap.obj X _) hP22).trans (obj_keep om)
        have o5 := (congrArg (fun X => AHeap.obj X _) hP22).trans (obj_keep o5)
        have sD := (congrArg (fun X => AHeap.obj X _) hP22).trans (obj_keep sD)
        have oM2 : AHeap.obj P22 (G18.length + 0) = some ⟨3, 1, ic [g + 1]⟩ := (congrArg (fun X => AHeap.obj X _) hP22).trans ((obj_app_add (k := 0)).trans rfl)
        refine (iclone_b grams (by omega) P22).mono ?_
        rintro aE G22 ⟨iE, bE, lG22, keep⟩
        have o0 := (keep _ (AHeap.obj_lt o0)).trans o0
        have om := (keep _ (AHeap.obj_lt om)).trans om
        have o5 := (keep _ (AHeap.obj_lt o5)).trans o5
        have sD := (keep _ (AHeap.obj_lt sD)).trans sD
        have oM2 := (keep _ (AHeap.obj_lt oM2)).trans oM2
        have k0 : ∀ X, AHeap.obj (G22 ++ X) 0 = some ⟨24, 3, [[I no, I rate, .ro false (trows ts)]]⟩ := fun X => obj_keep o0
        have km : ∀ X, AHeap.obj (G22 ++ X) hm = some ⟨3, 1, ic (mor fr 64)⟩ := fun X => obj_keep om
        simp only [walkS, wl, rgets, retv, argsEnv, ev, cst, cst1, cstL, AEnv.get, AEnv.trim, envput, qstep, abin, aun, evs, evo, deref, qload, target, if_true, if_false, Nat.reduceEqDiff, reduceIte, Nat.reduceAdd, AV.cells, AV.isTuple, setMany, alen, aiaddr, afill, Nat.reduceLeDiff, Nat.reduceMul, Nat.reduceLT, afillE, List.replicate, o0, om, k0, km, hki, gL, e1, mor_at hk, m64, ic_length, List.contains_cons, List.contains_nil, Nat.reduceBEq, Bool.or_true, Bool.true_or, Bool.or_false, ite_self, true_and, and_true, List.append_assoc, List.cons_append, List.nil_append]
        refine (insert_b (l := grams) (i := p) (v := g + 1) iE oM2 (fun e => by have := bE _ e; omega) (by omega) (by omega)).mono ?_
        rintro _ G23 ⟨qE, rfl, sE, dE, lG23, keep⟩
        have o0 := (keep _ (AHeap.obj_lt o0) (fun e => by have := bE _ e; omega)).trans o0
        have om := (keep _ (AHeap.obj_lt om) (fun e => by have := bE _ e; omega)).trans om
        have o5 := (keep _ (AHeap.obj_lt o5) (fun e => by have := bE _ e; omega)).trans o5
        have sD := (keep _ (AHeap.obj_lt sD) (fun e => by have h1 := bE _ e; omega)).trans sD
        have uE := AHeap.obj_lt sE
        have k0 : ∀ X, AHeap.obj (G23 ++ X) 0 = some ⟨24, 3, [[I no, I rate, .ro false (trows ts)]]⟩ := fun X => obj_keep o0
        have km : ∀ X, AHeap.obj (G23 ++ X) hm = some ⟨3, 1, ic (mor fr 64)⟩ := fun X => obj_keep om
        simp only [walkS, wl, rgets, retv, argsEnv, ev, cst, cst1, cstL, AEnv.get, AEnv.trim, envput, qstep, abin, aun, evs, evo, deref, qload, target, if_true, if_false, Nat.reduceEqDiff, reduceIte, Nat.reduceAdd, AV.cells, AV.isTuple, setMany, alen, aiaddr, afill, Nat.reduceLeDiff, Nat.reduceMul, Nat.reduceLT, afillE, List.replicate, o0, om, k0, km, hki, gL, e1, mor_at hk, m64, ic_length, List.contains_cons, List.contains_nil, Nat.reduceBEq, Bool.or_true, Bool.true_or, Bool.or_false, ite_self, true_and, and_true, List.append_assoc, List.cons_append, List.nil_append]
        refine call_pure (History_ok no rate day ts (ins days p (fr + (kk : Int))) (ins grams p (g + 1)) (by omega)) (frzL_of' (d := 4) (carL_cons car_sc (carL_cons car_int (carL_cons (car_ownN sD (ic_length _) (ic_simple _)) (carL_cons (car_ownN sE (ic_length _) (ic_simple _)) rfl))))) ?_
        unfold hisV; rw [hisB_of hE, hB, hE]
        simp only [walkS, wl, rgets, retv, argsEnv, ev, cst, cst1, cstL, AEnv.get, AEnv.trim, envput, qstep, abin, aun, evs, evo, deref, qload, target, if_true, if_false, Nat.reduceEqDiff, reduceIte, Nat.reduceAdd, AV.cells, AV.isTuple, setMany, alen, aiaddr, afill, Nat.reduceLeDiff, Nat.reduceMul, Nat.reduceLT, afillE, List.replicate, hki, gL, e1, mor_at hk, m64, ic_length, List.contains_cons, List.contains_nil, Nat.reduceBEq, Bool.or_true, Bool.true_or, Bool.or_false, ite_self, true_and, and_true, List.append_assoc, List.cons_append, List.nil_append]
        exact hK _ o0 om o5
      obtain ⟨P25, hP25⟩ : ∃ P25 : AHeap, P25 = G17 ++ [some ⟨3, 1, [[I (g + 1)]]⟩] := ⟨_, rfl⟩
      rw [← hP25]
      have lP25 : P25.length = G17.length + 1 := by rw [hP25]; simp
      have o0 := (congrArg (fun X => AHeap.obj X _) hP25).trans (obj_keep o0)
      have om := (congrArg (fun X => AHeap.obj X _) hP25).trans (obj_keep om)
      have o5 := (congrArg (fun X => AHeap.obj X _) hP25).trans (obj_keep o5)
      have oM1 := (congrArg (fun X => AHeap.obj X _) hP25).trans (obj_keep oM1)
      have iD := iD.keep (H' := P25) fun q e => by rw [hP25]; exact AHeap.obj_push_lt (by have := bD q e; omega)
      have oM2 : AHeap.obj P25 (G17.length + 0) = some ⟨3, 1, ic [g + 1]⟩ := (congrArg (fun X => AHeap.obj X _) hP25).trans ((obj_app_add (k := 0)).trans rfl)
      refine (insert_b (l := days) (i := p) (v := fr + (kk : Int)) iD oM1 (fun e => by have := bD _ e; omega) (by omega) (by omega)).mono ?_
      rintro _ G25 ⟨qD, rfl, sD, dD, lG25, keep⟩
      have o0 := (keep _ (AHeap.obj_lt o0) (fun e => by have := bD _ e; omega)).trans o0
      have om := (keep _ (AHeap.obj_lt om) (fun e => by have := bD _ e; omega)).trans om
      have o5 := (keep _ (AHeap.obj_lt o5) (fun e => by have := bD _ e; omega)).trans o5
      have oM2 := (keep _ (AHeap.obj_lt oM2) (fun e => by have := bD _ e; omega)).trans oM2
      have uD := AHeap.obj_lt sD
      have k0 : ∀ X, AHeap.obj (G25 ++ X) 0 = some ⟨24, 3, [[I no, I rate, .ro false (trows ts)]]⟩ := fun X => obj_keep o0
      have km : ∀ X, AHeap.obj (G25 ++ X) hm = some ⟨3, 1, ic (mor fr 64)⟩ := fun X => obj_keep om
      simp only [walkS, wl, rgets, retv, argsEnv, ev, cst, cst1, cstL, AEnv.get, AEnv.trim, envput, qstep, abin, aun, evs, evo, deref, qload, target, if_true, if_false, Nat.reduceEqDiff, reduceIte, Nat.reduceAdd, AV.cells, AV.isTuple, setMany, alen, aiaddr, afill, Nat.reduceLeDiff, Nat.reduceMul, Nat.reduceLT, afillE, List.replicate, o0, om, k0, km, hki, gL, e1, mor_at hk, m64, ic_length, List.contains_cons, List.contains_nil, Nat.reduceBEq, Bool.or_true, Bool.true_or, Bool.or_false, ite_self, true_and, and_true, List.append_assoc, List.cons_append, List.nil_append]
      refine (iclone_b grams (by omega) G25).mono ?_
      rintro aE G26 ⟨iE, bE, lG26, keep⟩
      have o0 := (keep _ (AHeap.obj_lt o0)).trans o0
      have om := (keep _ (AHeap.obj_lt om)).trans om
      have o5 := (keep _ (AHeap.obj_lt o5)).trans o5
      have oM2 := (keep _ (AHeap.obj_lt oM2)).trans oM2
      have sD := (keep _ (AHeap.obj_lt sD)).trans sD
      have k0 : ∀ X, AHeap.obj (G26 ++ X) 0 = some ⟨24, 3, [[I no, I rate, .ro false (trows ts)]]⟩ := fun X => obj_keep o0
      have km : ∀ X, AHeap.obj (G26 ++ X) hm = some ⟨3, 1, ic (mor fr 64)⟩ := fun X => obj_keep om
      simp only [walkS, wl, rgets, retv, argsEnv, ev, cst, cst1, cstL, AEnv.get, AEnv.trim, envput, qstep, abin, aun, evs, evo, deref, qload, target, if_true, if_false, Nat.reduceEqDiff, reduceIte, Nat.reduceAdd, AV.cells, AV.isTuple, setMany, alen, aiaddr, afill, Nat.reduceLeDiff, Nat.reduceMul, Nat.reduceLT, afillE, List.replicate, o0, om, k0, km, hki, gL, e1, mor_at hk, m64, ic_length, List.contains_cons, List.contains_nil, Nat.reduceBEq, Bool.or_true, Bool.true_or, Bool.or_false, ite_self, true_and, and_true, List.append_assoc, List.cons_append, List.nil_append]
      refine (insert_b (l := grams) (i := p) (v := g + 1) iE oM2 (fun e => by have := bE _ e; omega) (by omega) (by omega)).mono ?_
      rintro _ G27 ⟨qE, rfl, sE, dE, lG27, keep⟩
      have o0 := (keep _ (AHeap.obj_lt o0) (fun e => by have := bE _ e; omega)).trans o0
      have om := (keep _ (AHeap.obj_lt om) (fun e => by have := bE _ e; omega)).trans om
      have o5 := (keep _ (AHeap.obj_lt o5) (fun e => by have := bE _ e; omega)).trans o5
      have sD := (keep _ (AHeap.obj_lt sD) (fun e => by have h1 := bE _ e; omega)).trans sD
      have uE := AHeap.obj_lt sE
      have k0 : ∀ X, AHeap.obj (G27 ++ X) 0 = some ⟨24, 3, [[I no, I rate, .ro false (trows ts)]]⟩ := fun X => obj_keep o0
      have km : ∀ X, AHeap.obj (G27 ++ X) hm = some ⟨3, 1, ic (mor fr 64)⟩ := fun X => obj_keep om
      simp only [walkS, wl, rgets, retv, argsEnv, ev, cst, cst1, cstL, AEnv.get, AEnv.trim, envput, qstep, abin, aun, evs, evo, deref, qload, target, if_true, if_false, Nat.reduceEqDiff, reduceIte, Nat.reduceAdd, AV.cells, AV.isTuple, setMany, alen, aiaddr, afill, Nat.reduceLeDiff, Nat.reduceMul, Nat.reduceLT, afillE, List.replicate, o0, om, k0, km, hki, gL, e1, mor_at hk, m64, ic_length, List.contains_cons, List.contains_nil, Nat.reduceBEq, Bool.or_true, Bool.true_or, Bool.or_false, ite_self, true_and, and_true, List.append_assoc, List.cons_append, List.nil_append]
      refine call_pure (History_ok no rate day ts (ins days p (fr + (kk : Int))) (ins grams p (g + 1)) (by omega)) (frzL_of' (d := 4) (carL_cons car_sc (carL_cons car_int (carL_cons (car_ownN sD (ic_length _) (ic_simple _)) (carL_cons (car_ownN sE (ic_length _) (ic_simple _)) rfl))))) ?_
      unfold hisV; rw [hisB_of hE, hB, hE]
      simp only [walkS, wl, rgets, retv, argsEnv, ev, cst, cst1, cstL, AEnv.get, AEnv.trim, envput, qstep, abin, aun, evs, evo, deref, qload, target, if_true, if_false, Nat.reduceEqDiff, reduceIte, Nat.reduceAdd, AV.cells, AV.isTuple, setMany, alen, aiaddr, afill, Nat.reduceLeDiff, Nat.reduceMul, Nat.reduceLT, afillE, List.replicate, hki, gL, e1, mor_at hk, m64, ic_length, List.contains_cons, List.contains_nil, Nat.reduceBEq, Bool.or_true, Bool.true_or, Bool.or_false, ite_self, true_and, and_true, List.append_assoc, List.cons_append, List.nil_append]
      exact hK _ o0 om o5
    obtain ⟨P29, hP29⟩ : ∃ P29 : AHeap, P29 = H ++ [some ⟨3, 1, [[I (fr + (kk : Int))]]⟩, some ⟨3, 1, [[I (g + 1)]]⟩] := ⟨_, rfl⟩
    rw [← hP29]
    have lP29 : P29.length = H.length + 2 := by rw [hP29]; simp
    have o0 := (congrArg (fun X => AHeap.obj X _) hP29).trans (obj_keep o0)
    have om := (congrArg (fun X => AHeap.obj X _) hP29).trans (obj_keep om)
    have o5 := (congrArg (fun X => AHeap.obj X _) hP29).trans (obj_keep o5)
    have oM1 : AHeap.obj P29 (H.length + 0) = some ⟨3, 1, ic [fr + (kk : Int)]⟩ := (congrArg (fun X => AHeap.obj X _) hP29).trans ((obj_app_add (k := 0)).trans rfl)
    have oM2 : AHeap.obj P29 (H.length + 1) = some ⟨3, 1, ic [g + 1]⟩ := (congrArg (fun X => AHeap.obj X _) hP29).trans ((obj_app_add (k := 1)).trans rfl)
    refine (iclone_b days (by omega) P29).mono ?_
    rintro aD G29 ⟨iD, bD, lG29, keep⟩
    have o0 := (keep _ (AHeap.obj_lt o0)).trans o0
    have om := (keep _ (AHeap.obj_lt om)).trans om
    have o5 := (keep _ (AHeap.obj_lt o5)).trans o5
    have oM1 := (keep _ (AHeap.obj_lt oM1)).trans oM1
    have oM2 := (keep _ (AHeap.obj_lt oM2)).trans oM2
    have k0 : ∀ X, AHeap.obj (G29 ++ X) 0 = some ⟨24, 3, [[I no, I rate, .ro false (trows ts)]]⟩ := fun X => obj_keep o0
    have km : ∀ X, AHeap.obj (G29 ++ X) hm = some ⟨3, 1, ic (mor fr 64)⟩ := fun X => obj_keep om
    simp only [walkS, wl, rgets, retv, argsEnv, ev, cst, cst1, cstL, AEnv.get, AEnv.trim, envput, qstep, abin, aun, evs, evo, deref, qload, target, if_true, if_false, Nat.reduceEqDiff, reduceIte, Nat.reduceAdd, AV.cells, AV.isTuple, setMany, alen, aiaddr, afill, Nat.reduceLeDiff, Nat.reduceMul, Nat.reduceLT, afillE, List.replicate, o0, om, k0, km, hki, gL, e1, mor_at hk, m64, ic_length, List.contains_cons, List.contains_nil, Nat.reduceBEq, Bool.or_true, Bool.true_or, Bool.or_false, ite_self, true_and, and_true, List.append_assoc, List.cons_append, List.nil_append]
    refine (insert_b (l := days) (i := p) (v := fr + (kk : Int)) iD oM1 (fun e => by have := bD _ e; omega) (by omega) (by omega)).mono ?_
    rintro _ G30 ⟨qD, rfl, sD, dD, lG30, keep⟩
    have o0 := (keep _ (AHeap.obj_lt o0) (fun e => by have := bD _ e; omega)).trans o0
    have om := (keep _ (AHeap.obj_lt om) (fun e => by have := bD _ e; omega)).trans om
    have o5 := (keep _ (AHeap.obj_lt o5) (fun e => by have := bD _ e; omega)).trans o5
    have oM2 := (keep _ (AHeap.obj_lt oM2) (fun e => by have := bD _ e; omega)).trans oM2
    have uD := AHeap.obj_lt sD
    have k0 : ∀ X, AHeap.obj (G30 ++ X) 0 = some ⟨24, 3, [[I no, I rate, .ro false (trows ts)]]⟩ := fun X => obj_keep o0
    have km : ∀ X, AHeap.obj (G30 ++ X) hm = some ⟨3, 1, ic (mor fr 64)⟩ := fun X => obj_keep om
    simp only [walkS, wl, rgets, retv, argsEnv, ev, cst, cst1, cstL, AEnv.get, AEnv.trim, envput, qstep, abin, aun, evs, evo, deref, qload, target, if_true, if_false, Nat.reduceEqDiff, reduceIte, Nat.reduceAdd, AV.cells, AV.isTuple, setMany, alen, aiaddr, afill, Nat.reduceLeDiff, Nat.reduceMul, Nat.reduceLT, afillE, List.replicate, o0, om, k0, km, hki, gL, e1, mor_at hk, m64, ic_length, List.contains_cons, List.contains_nil, Nat.reduceBEq, Bool.or_true, Bool.true_or, Bool.or_false, ite_self, true_and, and_true, List.append_assoc, List.cons_append, List.nil_append]
    refine (iclone_b grams (by omega) G30).mono ?_
    rintro aE G31 ⟨iE, bE, lG31, keep⟩
    have o0 := (keep _ (AHeap.obj_lt o0)).trans o0
    have om := (keep _ (AHeap.obj_lt om)).trans om
    have o5 := (keep _ (AHeap.obj_lt o5)).trans o5
    have oM2 := (keep _ (AHeap.obj_lt oM2)).trans oM2
    have sD := (keep _ (AHeap.obj_lt sD)).trans sD
    have k0 : ∀ X, AHeap.obj (G31 ++ X) 0 = some ⟨24, 3, [[I no, I rate, .ro false (trows ts)]]⟩ := fun X => obj_keep o0
    have km : ∀ X, AHeap.obj (G31 ++ X) hm = some ⟨3, 1, ic (mor fr 64)⟩ := fun X => obj_keep om
    simp only [walkS, wl, rgets, retv, argsEnv, ev, cst, cst1, cstL, AEnv.get, AEnv.trim, envput, qstep, abin, aun, evs, evo, deref, qload, target, if_true, if_false, Nat.reduceEqDiff, reduceIte, Nat.reduceAdd, AV.cells, AV.isTuple, setMany, alen, aiaddr, afill, Nat.reduceLeDiff, Nat.reduceMul, Nat.reduceLT, afillE, List.replicate, o0, om, k0, km, hki, gL, e1, mor_at hk, m64, ic_length, List.contains_cons, List.contains_nil, Nat.reduceBEq, Bool.or_true, Bool.true_or, Bool.or_false, ite_self, true_and, and_true, List.append_assoc, List.cons_append, List.nil_append]
    refine (insert_b (l := grams) (i := p) (v := g + 1) iE oM2 (fun e => by have := bE _ e; omega) (by omega) (by omega)).mono ?_
    rintro _ G32 ⟨qE, rfl, sE, dE, lG32, keep⟩
    have o0 := (keep _ (AHeap.obj_lt o0) (fun e => by have := bE _ e; omega)).trans o0
    have om := (keep _ (AHeap.obj_lt om) (fun e => by have := bE _ e; omega)).trans om
    have o5 := (keep _ (AHeap.obj_lt o5) (fun e => by have := bE _ e; omega)).trans o5
    have sD := (keep _ (AHeap.obj_lt sD) (fun e => by have h1 := bE _ e; omega)).trans sD
    have uE := AHeap.obj_lt sE
    have k0 : ∀ X, AHeap.obj (G32 ++ X) 0 = some ⟨24, 3, [[I no, I rate, .ro false (trows ts)]]⟩ := fun X => obj_keep o0
    have km : ∀ X, AHeap.obj (G32 ++ X) hm = some ⟨3, 1, ic (mor fr 64)⟩ := fun X => obj_keep om
    simp only [walkS, wl, rgets, retv, argsEnv, ev, cst, cst1, cstL, AEnv.get, AEnv.trim, envput, qstep, abin, aun, evs, evo, deref, qload, target, if_true, if_false, Nat.reduceEqDiff, reduceIte, Nat.reduceAdd, AV.cells, AV.isTuple, setMany, alen, aiaddr, afill, Nat.reduceLeDiff, Nat.reduceMul, Nat.reduceLT, afillE, List.replicate, o0, om, k0, km, hki, gL, e1, mor_at hk, m64, ic_length, List.contains_cons, List.contains_nil, Nat.reduceBEq, Bool.or_true, Bool.true_or, Bool.or_false, ite_self, true_and, and_true, List.append_assoc, List.cons_append, List.nil_append]
    refine call_pure (History_ok no rate day ts (ins days p (fr + (kk : Int))) (ins grams p (g + 1)) (by omega)) (frzL_of' (d := 4) (carL_cons car_sc (carL_cons car_int (carL_cons (car_ownN sD (ic_length _) (ic_simple _)) (carL_cons (car_ownN sE (ic_length _) (ic_simple _)) rfl))))) ?_
    unfold hisV; rw [hisB_of hE, hB, hE]
    simp only [walkS, wl, rgets, retv, argsEnv, ev, cst, cst1, cstL, AEnv.get, AEnv.trim, envput, qstep, abin, aun, evs, evo, deref, qload, target, if_true, if_false, Nat.reduceEqDiff, reduceIte, Nat.reduceAdd, AV.cells, AV.isTuple, setMany, alen, aiaddr, afill, Nat.reduceLeDiff, Nat.reduceMul, Nat.reduceLT, afillE, List.replicate, hki, gL, e1, mor_at hk, m64, ic_length, List.contains_cons, List.contains_nil, Nat.reduceBEq, Bool.or_true, Bool.true_or, Bool.or_false, ite_self, true_and, and_true, List.append_assoc, List.cons_append, List.nil_append]
    exact hK _ o0 om o5
  refine ⟨?_, ?_⟩
  · skip
    obtain ⟨P34, hP34⟩ : ∃ P34 : AHeap, P34 = H ++ [some ⟨3, 1, [[I (g + 1)]]⟩] := ⟨_, rfl⟩
    rw [← hP34]
    have lP34 : P34.length = H.length + 1 := by rw [hP34]; simp
    have o0 := (congrArg (fun X => AHeap.obj X _) hP34).trans (obj_keep o0)
    have om := (congrArg (fun X => AHeap.obj X _) hP34).trans (obj_keep om)
    have o5 := (congrArg (fun X => AHeap.obj X _) hP34).trans (obj_keep o5)
    have oM2 : AHeap.obj P34 (H.length + 0) = some ⟨3, 1, ic [g + 1]⟩ := (congrArg (fun X => AHeap.obj X _) hP34).trans ((obj_app_add (k := 0)).trans rfl)
    refine (iclone_b days (by omega) P34).mono ?_
    rintro aD G34 ⟨iD, bD, lG34, keep⟩
    have o0 := (keep _ (AHeap.obj_lt o0)).trans o0
    have om := (keep _ (AHeap.obj_lt om)).trans om
    have o5 := (keep _ (AHeap.obj_lt o5)).trans o5
    have oM2 := (keep _ (AHeap.obj_lt oM2)).trans oM2
    have k0 : ∀ X, AHeap.obj (G34 ++ X) 0 = some ⟨24, 3, [[I no, I rate, .ro false (trows ts)]]⟩ := fun X => obj_keep o0
    have km : ∀ X, AHeap.obj (G34 ++ X) hm = some ⟨3, 1, ic (mor fr 64)⟩ := fun X => obj_keep om
    simp only [walkS, wl, rgets, retv, argsEnv, ev, cst, cst1, cstL, AEnv.get, AEnv.trim, envput, qstep, abin, aun, evs, evo, deref, qload, target, if_true, if_false, Nat.reduceEqDiff, reduceIte, Nat.reduceAdd, AV.cells, AV.isTuple, setMany, alen, aiaddr, afill, Nat.reduceLeDiff, Nat.reduceMul, Nat.reduceLT, afillE, List.replicate, o0, om, k0, km, hki, gL, e1, mor_at hk, m64, ic_length, List.contains_cons, List.contains_nil, Nat.reduceBEq, Bool.or_true, Bool.true_or, Bool.or_false, ite_self, true_and, and_true, List.append_assoc, List.cons_append, List.nil_append]
    obtain ⟨P35, hP35⟩ : ∃ P35 : AHeap, P35 = G34 ++ [some ⟨3, 1, [[I (fr + (kk : Int))]]⟩] := ⟨_, rfl⟩
    rw [← hP35]
    have lP35 : P35.length = G34.length + 1 := by rw [hP35]; simp
    have o0 := (congrArg (fun X => AHeap.obj X _) hP35).trans (obj_keep o0)
    have om := (congrArg (fun X => AHeap.obj X _) hP35).trans (obj_keep om)
    have o5 := (congrArg (fun X => AHeap.obj X _) hP35).trans (obj_keep o5)
    have oM2 := (congrArg (fun X => AHeap.obj X _) hP35).trans (obj_keep oM2)
    have iD := iD.keep (H' := P35) fun q e => by rw [hP35]; exact AHeap.obj_push_lt (by have := bD q e; omega)
    have oM1 : AHeap.obj P35 (G34.length + 0) = some ⟨3, 1, ic [fr + (kk : Int)]⟩ := (congrArg (fun X => AHeap.obj X _) hP35).trans ((obj_app_add (k := 0)).trans rfl)
    refine (insert_b (l := days) (i := p) (v := fr + (kk : Int)) iD oM1 (fun e => by have := bD _ e; omega) (by omega) (by omega)).mono ?_
    rintro _ G35 ⟨qD, rfl, sD, dD, lG35, keep⟩
    have o0 := (keep _ (AHeap.obj_lt o0) (fun e => by have := bD _ e; omega)).trans o0
    have om := (keep _ (AHeap.obj_lt om) (fun e => by have := bD _ e; omega)).trans om
    have o5 := (keep _ (AHeap.obj_lt o5) (fun e => by have := bD _ e; omega)).trans o5
    have oM2 := (keep _ (AHeap.obj_lt oM2) (fun e => by have := bD _ e; omega)).trans oM2
    have uD := AHeap.obj_lt sD
    have k0 : ∀ X, AHeap.obj (G35 ++ X) 0 = some ⟨24, 3, [[I no, I rate, .ro false (trows ts)]]⟩ := fun X => obj_keep o0
    have km : ∀ X, AHeap.obj (G35 ++ X) hm = some ⟨3, 1, ic (mor fr 64)⟩ := fun X => obj_keep om
    simp only [walkS, wl, rgets, retv, argsEnv, ev, cst, cst1, cstL, AEnv.get, AEnv.trim, envput, qstep, abin, aun, evs, evo, deref, qload, target, if_true, if_false, Nat.reduceEqDiff, reduceIte, Nat.reduceAdd, AV.cells, AV.isTuple, setMany, alen, aiaddr, afill, Nat.reduceLeDiff, Nat.reduceMul, Nat.reduceLT, afillE, List.replicate, o0, om, k0, km, hki, gL, e1, mor_at hk, m64, ic_length, List.contains_cons, List.contains_nil, Nat.reduceBEq, Bool.or_true, Bool.true_or, Bool.or_false, ite_self, true_and, and_true, List.append_assoc, List.cons_append, List.nil_append]
    refine (iclone_b grams (by omega) G35).mono ?_
    rintro aE G36 ⟨iE, bE, lG36, keep⟩
    have o0 := (keep _ (AHeap.obj_lt o0)).trans o0
    have om := (keep _ (AHeap.obj_lt om)).trans om
    have o5 := (keep _ (AHeap.obj_lt o5)).trans o5
    have oM2 := (keep _ (AHeap.obj_lt oM2)).trans oM2
    have sD := (keep _ (AHeap.obj_lt sD)).trans sD
    have k0 : ∀ X, AHeap.obj (G36 ++ X) 0 = some ⟨24, 3, [[I no, I rate, .ro false (trows ts)]]⟩ := fun X => obj_keep o0
    have km : ∀ X, AHeap.obj (G36 ++ X) hm = some ⟨3, 1, ic (mor fr 64)⟩ := fun X => obj_keep om
    simp only [walkS, wl, rgets, retv, argsEnv, ev, cst, cst1, cstL, AEnv.get, AEnv.trim, envput, qstep, abin, aun, evs, evo, deref, qload, target, if_true, if_false, Nat.reduceEqDiff, reduceIte, Nat.reduceAdd, AV.cells, AV.isTuple, setMany, alen, aiaddr, afill, Nat.reduceLeDiff, Nat.reduceMul, Nat.reduceLT, afillE, List.replicate, o0, om, k0, km, hki, gL, e1, mor_at hk, m64, ic_length, List.contains_cons, List.contains_nil, Nat.reduceBEq, Bool.or_true, Bool.true_or, Bool.or_false, ite_self, true_and, and_true, List.append_assoc, List.cons_append, List.nil_append]
    refine (insert_b (l := grams) (i := p) (v := g + 1) iE oM2 (fun e => by have := bE _ e; omega) (by omega) (by omega)).mono ?_
    rintro _ G37 ⟨qE, rfl, sE, dE, lG37, keep⟩
    have o0 := (keep _ (AHeap.obj_lt o0) (fun e => by have := bE _ e; omega)).trans o0
    have om := (keep _ (AHeap.obj_lt om) (fun e => by have := bE _ e; omega)).trans om
    have o5 := (keep _ (AHeap.obj_lt o5) (fun e => by have := bE _ e; omega)).trans o5
    have sD := (keep _ (AHeap.obj_lt sD) (fun e => by have h1 := bE _ e; omega)).trans sD
    have uE := AHeap.obj_lt sE
    have k0 : ∀ X, AHeap.obj (G37 ++ X) 0 = some ⟨24, 3, [[I no, I rate, .ro false (trows ts)]]⟩ := fun X => obj_keep o0
    have km : ∀ X, AHeap.obj (G37 ++ X) hm = some ⟨3, 1, ic (mor fr 64)⟩ := fun X => obj_keep om
    simp only [walkS, wl, rgets, retv, argsEnv, ev, cst, cst1, cstL, AEnv.get, AEnv.trim, envput, qstep, abin, aun, evs, evo, deref, qload, target, if_true, if_false, Nat.reduceEqDiff, reduceIte, Nat.reduceAdd, AV.cells, AV.isTuple, setMany, alen, aiaddr, afill, Nat.reduceLeDiff, Nat.reduceMul, Nat.reduceLT, afillE, List.replicate, o0, om, k0, km, hki, gL, e1, mor_at hk, m64, ic_length, List.contains_cons, List.contains_nil, Nat.reduceBEq, Bool.or_true, Bool.true_or, Bool.or_false, ite_self, true_and, and_true, List.append_assoc, List.cons_append, List.nil_append]
    refine call_pure (History_ok no rate day ts (ins days p (fr + (kk : Int))) (ins grams p (g + 1)) (by omega)) (frzL_of' (d := 4) (carL_cons car_sc (carL_cons car_int (carL_cons (car_ownN sD (ic_length _) (ic_simple _)) (carL_cons (car_ownN sE (ic_length _) (ic_simple _)) rfl))))) ?_
    unfold hisV; rw [hisB_of hE, hB, hE]
    simp only [walkS, wl, rgets, retv, argsEnv, ev, cst, cst1, cstL, AEnv.get, AEnv.trim, envput, qstep, abin, aun, evs, evo, deref, qload, target, if_true, if_false, Nat.reduceEqDiff, reduceIte, Nat.reduceAdd, AV.cells, AV.isTuple, setMany, alen, aiaddr, afill, Nat.reduceLeDiff, Nat.reduceMul, Nat.reduceLT, afillE, List.replicate, hki, gL, e1, mor_at hk, m64, ic_length, List.contains_cons, List.contains_nil, Nat.reduceBEq, Bool.or_true, Bool.true_or, Bool.or_false, ite_self, true_and, and_true, List.append_assoc, List.cons_append, List.nil_append]
    exact hK _ o0 om o5
  obtain ⟨P39, hP39⟩ : ∃ P39 : AHeap, P39 = H ++ [some ⟨3, 1, [[I (g + 1)]]⟩, some ⟨3, 1, [[I (fr + (kk : Int))]]⟩] := ⟨_, rfl⟩
  rw [← hP39]
  have lP39 : P39.length = H.length + 2 := by rw [hP39]; simp
  have o0 := (congrArg (fun X => AHeap.obj X _) hP39).trans (obj_keep o0)
  have om := (congrArg (fun X => AHeap.obj X _) hP39).trans (obj_keep om)
  have o5 := (congrArg (fun X => AHeap.obj X _) hP39).trans (obj_keep o5)
  have oM2 : AHeap.obj P39 (H.length + 0) = some ⟨3, 1, ic [g + 1]⟩ := (congrArg (fun X => AHeap.obj X _) hP39).trans ((obj_app_add (k := 0)).trans rfl)
  have oM1 : AHeap.obj P39 (H.length + 1) = some ⟨3, 1, ic [fr + (kk : Int)]⟩ := (congrArg (fun X => AHeap.obj X _) hP39).trans ((obj_app_add (k := 1)).trans rfl)
  refine (iclone_b days (by omega) P39).mono ?_
  rintro aD G39 ⟨iD, bD, lG39, keep⟩
  have o0 := (keep _ (AHeap.obj_lt o0)).trans o0
  have om := (keep _ (AHeap.obj_lt om)).trans om
  have o5 := (keep _ (AHeap.obj_lt o5)).trans o5
  have oM2 := (keep _ (AHeap.obj_lt oM2)).trans oM2
  have oM1 := (keep _ (AHeap.obj_lt oM1)).trans oM1
  have k0 : ∀ X, AHeap.obj (G39 ++ X) 0 = some ⟨24, 3, [[I no, I rate, .ro false (trows ts)]]⟩ := fun X => obj_keep o0
  have km : ∀ X, AHeap.obj (G39 ++ X) hm = some ⟨3, 1, ic (mor fr 64)⟩ := fun X => obj_keep om
  simp only [walkS, wl, rgets, retv, argsEnv, ev, cst, cst1, cstL, AEnv.get, AEnv.trim, envput, qstep, abin, aun, evs, evo, deref, qload, target, if_true, if_false, Nat.reduceEqDiff, reduceIte, Nat.reduceAdd, AV.cells, AV.isTuple, setMany, alen, aiaddr, afill, Nat.reduceLeDiff, Nat.reduceMul, Nat.reduceLT, afillE, List.replicate, o0, om, k0, km, hki, gL, e1, mor_at hk, m64, ic_length, List.contains_cons, List.contains_nil, Nat.reduceBEq, Bool.or_true, Bool.true_or, Bool.or_false, ite_self, true_and, and_true, List.append_assoc, List.cons_append, List.nil_append]
  refine (insert_b (l := days) (i := p) (v := fr + (kk : Int)) iD oM1 (fun e => by have := bD _ e; omega) (by omega) (by omega)).mono ?_
  rintro _ G40 ⟨qD, rfl, sD, dD, lG40, keep⟩
  have o0 := (keep _ (AHeap.obj_lt o0) (fun e => by have := bD _ e; omega)).trans o0
  have om := (keep _ (AHeap.obj_lt om) (fun e => by have := bD _ e; omega)).trans om
  have o5 := (keep _ (AHeap.obj_lt o5) (fun e => by have := bD _ e; omega)).trans o5
  have oM2 := (keep _ (AHeap.obj_lt oM2) (fun e => by have := bD _ e; omega)).trans oM2
  have uD := AHeap.obj_lt sD
  have k0 : ∀ X, AHeap.obj (G40 ++ X) 0 = some ⟨24, 3, [[I no, I rate, .ro false (trows ts)]]⟩ := fun X => obj_keep o0
  have km : ∀ X, AHeap.obj (G40 ++ X) hm = some ⟨3, 1, ic (mor fr 64)⟩ := fun X => obj_keep om
  simp only [walkS, wl, rgets, retv, argsEnv, ev, cst, cst1, cstL, AEnv.get, AEnv.trim, envput, qstep, abin, aun, evs, evo, deref, qload, target, if_true, if_false, Nat.reduceEqDiff, reduceIte, Nat.reduceAdd, AV.cells, AV.isTuple, setMany, alen, aiaddr, afill, Nat.reduceLeDiff, Nat.reduceMul, Nat.reduceLT, afillE, List.replicate, o0, om, k0, km, hki, gL, e1, mor_at hk, m64, ic_length, List.contains_cons, List.contains_nil, Nat.reduceBEq, Bool.or_true, Bool.true_or, Bool.or_false, ite_self, true_and, and_true, List.append_assoc, List.cons_append, List.nil_append]
  refine (iclone_b grams (by omega) G40).mono ?_
  rintro aE G41 ⟨iE, bE, lG41, keep⟩
  have o0 := (keep _ (AHeap.obj_lt o0)).trans o0
  have om := (keep _ (AHeap.obj_lt om)).trans om
  have o5 := (keep _ (AHeap.obj_lt o5)).trans o5
  have oM2 := (keep _ (AHeap.obj_lt oM2)).trans oM2
  have sD := (keep _ (AHeap.obj_lt sD)).trans sD
  have k0 : ∀ X, AHeap.obj (G41 ++ X) 0 = some ⟨24, 3, [[I no, I rate, .ro false (trows ts)]]⟩ := fun X => obj_keep o0
  have km : ∀ X, AHeap.obj (G41 ++ X) hm = some ⟨3, 1, ic (mor fr 64)⟩ := fun X => obj_keep om
  simp only [walkS, wl, rgets, retv, argsEnv, ev, cst, cst1, cstL, AEnv.get, AEnv.trim, envput, qstep, abin, aun, evs, evo, deref, qload, target, if_true, if_false, Nat.reduceEqDiff, reduceIte, Nat.reduceAdd, AV.cells, AV.isTuple, setMany, alen, aiaddr, afill, Nat.reduceLeDiff, Nat.reduceMul, Nat.reduceLT, afillE, List.replicate, o0, om, k0, km, hki, gL, e1, mor_at hk, m64, ic_length, List.contains_cons, List.contains_nil, Nat.reduceBEq, Bool.or_true, Bool.true_or, Bool.or_false, ite_self, true_and, and_true, List.append_assoc, List.cons_append, List.nil_append]
  refine (insert_b (l := grams) (i := p) (v := g + 1) iE oM2 (fun e => by have := bE _ e; omega) (by omega) (by omega)).mono ?_
  rintro _ G42 ⟨qE, rfl, sE, dE, lG42, keep⟩
  have o0 := (keep _ (AHeap.obj_lt o0) (fun e => by have := bE _ e; omega)).trans o0
  have om := (keep _ (AHeap.obj_lt om) (fun e => by have := bE _ e; omega)).trans om
  have o5 := (keep _ (AHeap.obj_lt o5) (fun e => by have := bE _ e; omega)).trans o5
  have sD := (keep _ (AHeap.obj_lt sD) (fun e => by have h1 := bE _ e; omega)).trans sD
  have uE := AHeap.obj_lt sE
  have k0 : ∀ X, AHeap.obj (G42 ++ X) 0 = some ⟨24, 3, [[I no, I rate, .ro false (trows ts)]]⟩ := fun X => obj_keep o0
  have km : ∀ X, AHeap.obj (G42 ++ X) hm = some ⟨3, 1, ic (mor fr 64)⟩ := fun X => obj_keep om
  simp only [walkS, wl, rgets, retv, argsEnv, ev, cst, cst1, cstL, AEnv.get, AEnv.trim, envput, qstep, abin, aun, evs, evo, deref, qload, target, if_true, if_false, Nat.reduceEqDiff, reduceIte, Nat.reduceAdd, AV.cells, AV.isTuple, setMany, alen, aiaddr, afill, Nat.reduceLeDiff, Nat.reduceMul, Nat.reduceLT, afillE, List.replicate, o0, om, k0, km, hki, gL, e1, mor_at hk, m64, ic_length, List.contains_cons, List.contains_nil, Nat.reduceBEq, Bool.or_true, Bool.true_or, Bool.or_false, ite_self, true_and, and_true, List.append_assoc, List.cons_append, List.nil_append]
  refine call_pure (History_ok no rate day ts (ins days p (fr + (kk : Int))) (ins grams p (g + 1)) (by omega)) (frzL_of' (d := 4) (carL_cons car_sc (carL_cons car_int (carL_cons (car_ownN sD (ic_length _) (ic_simple _)) (carL_cons (car_ownN sE (ic_length _) (ic_simple _)) rfl))))) ?_
  unfold hisV; rw [hisB_of hE, hB, hE]
  simp only [walkS, wl, rgets, retv, argsEnv, ev, cst, cst1, cstL, AEnv.get, AEnv.trim, envput, qstep, abin, aun, evs, evo, deref, qload, target, if_true, if_false, Nat.reduceEqDiff, reduceIte, Nat.reduceAdd, AV.cells, AV.isTuple, setMany, alen, aiaddr, afill, Nat.reduceLeDiff, Nat.reduceMul, Nat.reduceLT, afillE, List.replicate, hki, gL, e1, mor_at hk, m64, ic_length, List.contains_cons, List.contains_nil, Nat.reduceBEq, Bool.or_true, Bool.true_or, Bool.or_false, ite_self, true_and, and_true, List.append_assoc, List.cons_append, List.nil_append]
  exact hK _ o0 om o5
end Go.Proofs.YtgadlckkmhhmbaaDoor
/- CourseHelly: no history is greater on a day of the stretch. -/
namespace Go.Proofs.YtgadlckkmhhmbaaDoor
open Go.Awp Go.Grams
set_option linter.unusedSimpArgs false
set_option linter.unusedVariables false
set_option linter.unusedSectionVars false
set_option maxRecDepth 10000
theorem top_box {no rate day n : Int} {ts : List Tst} {days grams : List Int} (hE : hisE no rate ts day days grams = 0) (hh : hist rate ts day (days.zip grams)) : (driftV rate ts n day).1 ≤ topV rate ts day (days.zip grams) n ∧ topV rate ts day (days.zip grams) n ≤ (driftV rate ts n day).2 ∧ -1048576 ≤ topV rate ts day (days.zip grams) n ∧ topV rate ts day (days.zip grams) n ≤ 1048576 := by
  obtain ⟨hw, hc, hd, hlen, hris⟩ := hisE_zero hE
  obtain ⟨-, hr, -, hok, -⟩ := well_iff.1 hw
  have h1 := topV_low (n := n) hr.1 hok hc fun p hp => (hh.1 p hp).1
  have h2 := (topV_le.1 (Int.le_refl (topV rate ts day (days.zip grams) n))).1
  have h3 := drift_box (on := n) (known := day) hr.1 hok hc
  omega
theorem ins_rising {days : List Int} {x : Int} (h : risingV days = true) (hl : days.length ≤ 8) (hx : okDay x = true) (hn : days.contains x = false) : risingV (ins days (posI days x) x) = true := by
  obtain ⟨h1, h2, h3⟩ := risingV_iff.1 h
  rw [risingV_iff]
  refine ⟨fun d hd => ?_, ins_up h2 hn, by rw [ins_length posI_le]; omega⟩
  unfold ins at hd
  rcases List.mem_append.1 hd with hd | hd
  · exact h1 d (List.mem_of_mem_take hd)
  · rcases List.mem_cons.1 hd with rfl | hd
    · exact hx
    · exact h1 d (List.mem_of_mem_drop hd)
theorem tail11d {no rate day fr : Int} {ts : List Tst} {days grams : List Int} {hm : Nat} {H : AHeap} {X : AEnv} (hE : hisE no rate ts day days grams = 0) (hl : days.length ≤ 8) (hh : hist rate ts day (days.zip grams)) (hf : 0 ≤ fr ∧ fr ≤ 1048512)
    (o0 : AHeap.obj H 0 = some ⟨24, 3, [[I no, I rate, .ro false (trows ts)]]⟩) (om : AHeap.obj H hm = some ⟨3, 1, ic (mor fr 64)⟩) :
    awp Tryd.prog ir11d (fnPost [(.tmp 10)] fun x H' => Out H' x (.bool true)) ((1, I day) :: (2, .ro false (ic days)) :: (3, .ro false (ic grams)) :: (4, I fr) :: (5, .ptr 0 1 0 0) :: (20, .own hm 64 0 64) :: (22, .ro true (ic ((mor fr 64).map (topV rate ts day (days.zip grams))))) :: X) H := by
  unfold ir11d
  obtain ⟨hw, hc, hd, hlen, hris⟩ := hisE_zero hE
  have b0 := AHeap.obj_lt o0
  have bm := AHeap.obj_lt om
  have m64 := mor_len (fr := fr) (n := 64)
  have L64 : ((mor fr 64).map (topV rate ts day (days.zip grams))).length = 64 := by rw [List.length_map, m64]
  simp only [walkS, wl, rgets, retv, argsEnv, ev, cst, cst1, cstL, AEnv.get, AEnv.trim, envput, qstep, abin, aun, evs, evo, deref, qload, target, if_true, if_false, Nat.reduceEqDiff, reduceIte, Nat.reduceAdd, AV.cells, AV.isTuple, setMany, alen, aiaddr, afill, Nat.reduceLeDiff, Nat.reduceMul, Nat.reduceLT, afillE, List.replicate]
  refine awp_loop (σ := Nat) (fun q => [(1, I day), (2, .ro false (ic days)), (3, .ro false (ic grams)), (5, .ptr 0 1 0 0), (20, .own hm 64 0 64), (22, .ro true (ic ((mor fr 64).map (topV rate ts day (days.zip grams))))), (205, .own H.length 3 0 3), (206, I 3), (207, I q)]) (fun _ G => AHeap.obj G 0 = some ⟨24, 3, [[I no, I rate, .ro false (trows ts)]]⟩ ∧ AHeap.obj G hm = some ⟨3, 1, ic (mor fr 64)⟩ ∧ AHeap.obj G H.length = some ⟨3, 1, ic [0, 20, 63]⟩) (fun q => q ≤ 3) (fun q => 3 - q) 0 (Nat.zero_le _) rfl ⟨obj_keep o0, obj_keep om, AHeap.obj_push_eq⟩ ?_
  rintro q G hq ⟨o0, om, o5⟩
  simp only [walkS, wl, rgets, retv, argsEnv, ev, cst, cst1, cstL, AEnv.get, AEnv.trim, envput, qstep, abin, aun, evs, evo, deref, qload, target, if_true, if_false, Nat.reduceEqDiff, reduceIte, Nat.reduceAdd, AV.cells, AV.isTuple, setMany, alen, aiaddr, afill, Nat.reduceLeDiff, Nat.reduceMul, Nat.reduceLT, afillE, List.replicate]
  refine withBool_intro ?_ ?_ <;> intro hb <;> simp only [walkS, wl, rgets, retv, argsEnv, ev, cst, cst1, cstL, AEnv.get, AEnv.trim, envput, qstep, abin, aun, evs, evo, deref, qload, target, if_true, if_false, Nat.reduceEqDiff, reduceIte, Nat.reduceAdd, AV.cells, AV.isTuple, setMany, alen, aiaddr, afill, Nat.reduceLeDiff, Nat.reduceMul, Nat.reduceLT, afillE, List.replicate]
  · have hq3 : q < 3 := by simp at hb; omega
    have w1 := w_succ (k := q) (by omega)
    obtain ⟨kk, hk, e5⟩ : ∃ kk : Nat, kk < 64 ∧ (ic [0, 20, 63])[q]? = some [I (kk : Int)] := by
      match q, hq3 with
      | 0, _ => exact ⟨0, by omega, rfl⟩
      | 1, _ => exact ⟨20, by omega, rfl⟩
      | 2, _ => exact ⟨63, by omega, rfl⟩
    have hqi : ((q : Int) < ((3 : Nat) : Int)) := by omega
    have hki : ((kk : Int) < ((64 : Nat) : Int)) := by omega
    have l3 : (ic [0, 20, 63]).length = 3 := rfl
    simp only [walkS, wl, rgets, retv, argsEnv, ev, cst, cst1, cstL, AEnv.get, AEnv.trim, envput, qstep, abin, aun, evs, evo, deref, qload, target, if_true, if_false, Nat.reduceEqDiff, reduceIte, Nat.reduceAdd, AV.cells, AV.isTuple, setMany, alen, aiaddr, afill, Nat.reduceLeDiff, Nat.reduceMul, Nat.reduceLT, afillE, List.replicate, o5, hqi, e5, l3, om, ic_length, m64, hki, mor_at hk]
    refine call_pure (contains_ok days _ (by omega)) (frzL_of' (d := 4) (carL_cons car_ic rfl)) ?_
    simp only [walkS, wl, rgets, retv, argsEnv, ev, cst, cst1, cstL, AEnv.get, AEnv.trim, envput, qstep, abin, aun, evs, evo, deref, qload, target, if_true, if_false, Nat.reduceEqDiff, reduceIte, Nat.reduceAdd, AV.cells, AV.isTuple, setMany, alen, aiaddr, afill, Nat.reduceLeDiff, Nat.reduceMul, Nat.reduceLT, afillE, List.replicate]
    refine withBool_intro ?_ ?_ <;> intro hc2 <;> simp only [walkS, wl, rgets, retv, argsEnv, ev, cst, cst1, cstL, AEnv.get, AEnv.trim, envput, qstep, abin, aun, evs, evo, deref, qload, target, if_true, if_false, Nat.reduceEqDiff, reduceIte, Nat.reduceAdd, AV.cells, AV.isTuple, setMany, alen, aiaddr, afill, Nat.reduceLeDiff, Nat.reduceMul, Nat.reduceLT, afillE, List.replicate, w1]
    · exact loop_end (q + 1) (by omega) (by omega) rfl ⟨o0, om, o5⟩
    · have hcn : days.contains (fr + (kk : Int)) = false := hc2
      simp only [walkS, wl, rgets, retv, argsEnv, ev, cst, cst1, cstL, AEnv.get, AEnv.trim, envput, qstep, abin, aun, evs, evo, deref, qload, target, if_true, if_false, Nat.reduceEqDiff, reduceIte, Nat.reduceAdd, AV.cells, AV.isTuple, setMany, alen, aiaddr, afill, Nat.reduceLeDiff, Nat.reduceMul, Nat.reduceLT, afillE, List.replicate, om, ic_length, m64, hki, mor_at hk]
      obtain ⟨b, hbs⟩ := BinarySearch_ok days (fr + (kk : Int)) (by omega) (risingV_iff.1 hris).2.1
      refine call_pure hbs (frzL_of' (d := 4) (carL_cons car_ic rfl)) ?_
      have hL : ((mor fr 64).map (topV rate ts day (days.zip grams)))[kk]'(by rw [L64]; exact hk) = topV rate ts day (days.zip grams) (fr + kk) := by
        rw [List.getElem_map, mor_get]
      have tb := top_box (n := fr + kk) hE hh
      have hp := posI_le (l := days) (x := fr + kk)
      have hE2 := hisE_of (d := ins days (posI days (fr + kk)) (fr + kk)) (g := ins grams (posI days (fr + kk)) (topV rate ts day (days.zip grams) (fr + kk) + 1)) hE (by rw [ins_length hp, ins_length (by omega), hlen]) (ins_rising hris hl (by unfold okDay; rw [decide_eq_true_iff]; omega) hcn)
      simp only [walkS, wl, rgets, retv, argsEnv, ev, cst, cst1, cstL, AEnv.get, AEnv.trim, envput, qstep, abin, aun, evs, evo, deref, qload, target, if_true, if_false, Nat.reduceEqDiff, reduceIte, Nat.reduceAdd, AV.cells, AV.isTuple, setMany, alen, aiaddr, afill, Nat.reduceLeDiff, Nat.reduceMul, Nat.reduceLT, afillE, List.replicate]
      refine region11 (no := no) (rate := rate) (g := topV rate ts day (days.zip grams) (fr + kk)) (fr := fr) (L := (mor fr 64).map (topV rate ts day (days.zip grams))) hl hlen.symm hp hk L64 hL ⟨tb.2.2.1, tb.2.2.2⟩ hE2 (no_greater hlen hp (by omega)) o0 om o5 fun G2 o0 om o5 => ?_
      simp only [walkS, wl, rgets, retv, argsEnv, ev, cst, cst1, cstL, AEnv.get, AEnv.trim, envput, qstep, abin, aun, evs, evo, deref, qload, target, if_true, if_false, Nat.reduceEqDiff, reduceIte, Nat.reduceAdd, AV.cells, AV.isTuple, setMany, alen, aiaddr, afill, Nat.reduceLeDiff, Nat.reduceMul, Nat.reduceLT, afillE, List.replicate, bne_self_eq_false, w1]
      exact loop_end (q + 1) (by omega) (by omega) rfl ⟨o0, om, o5⟩
  · exact out_bool
end Go.Proofs.YtgadlckkmhhmbaaDoor
/- CourseHelly: the stretch is a history, and has the given drifts. -/
namespace Go.Proofs.YtgadlckkmhhmbaaDoor
open Go.Awp Go.Grams
set_option linter.unusedSimpArgs false
set_option linter.unusedVariables false
set_option linter.unusedSectionVars false
set_option maxRecDepth 10000
theorem mem_kept {day : Int} {ts : List Tst} {t : Tst} : t ∈ kept day ts ↔ t ∈ ts ∧ t.2.1 ≤ day := by
  unfold kept late
  simp [List.mem_filter]
theorem top_tests {no rate day : Int} {ts : List Tst} {days grams : List Int} {t : Tst} (hE : hisE no rate ts day days grams = 0) (hh : hist rate ts day (days.zip grams)) (ht : t ∈ kept day ts) : t.2.2.1 ≤ topV rate ts day (days.zip grams) t.1 ∧ topV rate ts day (days.zip grams) t.1 ≤ t.2.2.2 := by
  obtain ⟨h1, h2⟩ := mem_kept.1 ht
  have tb := top_box (n := t.1) hE hh
  have := ((drift_in (rate := rate) (on := t.1) (known := day) (x := topV rate ts day (days.zip grams) t.1) ts allS).1 ⟨tb.1, tb.2.1⟩).2 t h1 h2
  simp only [room, far_self, Int.mul_zero, Int.sub_zero, Int.add_zero] at this
  exact this
theorem top_step {no rate day a : Int} {ts : List Tst} {days grams : List Int} (hr : 0 ≤ rate) : topV rate ts day (days.zip grams) (a + 1) - topV rate ts day (days.zip grams) a ≤ rate ∧ topV rate ts day (days.zip grams) a - topV rate ts day (days.zip grams) (a + 1) ≤ rate := by
  have h1 := topV_near (a := a) (b := a + 1) (known := day) (ts := ts) (l := days.zip grams) hr
  have h2 := topV_near (a := a + 1) (b := a) (known := day) (ts := ts) (l := days.zip grams) hr
  have f1 : far a (a + 1) = 1 := by unfold far; omega
  have f2 : far (a + 1) a = 1 := by unfold far; omega
  rw [f1, Int.mul_one] at h1
  rw [f2, Int.mul_one] at h2
  omega
theorem tail11c {no rate day fr : Int} {ts : List Tst} {days grams LL : List Int} {is : Bool} {hm : Nat} {H : AHeap} {X : AEnv} (hE : hisE no rate ts day days grams = 0) (hl : days.length ≤ 8) (his : is = histB rate ts day (days.zip grams)) (hLL : LL = if is = true then (mor fr 64).map (topV rate ts day (days.zip grams)) else []) (hf : 0 ≤ fr ∧ fr ≤ 1048512)
    (o0 : AHeap.obj H 0 = some ⟨24, 3, [[I no, I rate, .ro false (trows ts)]]⟩) (om : AHeap.obj H hm = some ⟨3, 1, ic (mor fr 64)⟩) :
    awp Tryd.prog ir11c (fnPost [(.tmp 10)] fun x H' => Out H' x (.bool true)) ((1, I day) :: (2, .ro false (ic days)) :: (3, .ro false (ic grams)) :: (4, I fr) :: (5, .ptr 0 1 0 0) :: (11, .bool is) :: (20, .own hm 64 0 64) :: (22, .ro true (ic LL)) :: X) H := by
  unfold ir11c
  obtain ⟨hw, hc, hd, hlen, hris⟩ := hisE_zero hE
  obtain ⟨-, hr, htl, hok, -⟩ := well_iff.1 hw
  simp only [walkS, wl, rgets, retv, argsEnv, ev, cst, cst1, cstL, AEnv.get, AEnv.trim, envput, qstep, abin, aun, evs, evo, deref, qload, target, if_true, if_false, Nat.reduceEqDiff, reduceIte, Nat.reduceAdd, AV.cells, AV.isTuple, setMany, alen, aiaddr, afill, Nat.reduceLeDiff, Nat.reduceMul, Nat.reduceLT, afillE, List.replicate]
  refine withBool_intro ?_ ?_ <;> intro h1 <;> simp only [walkS, wl, rgets, retv, argsEnv, ev, cst, cst1, cstL, AEnv.get, AEnv.trim, envput, qstep, abin, aun, evs, evo, deref, qload, target, if_true, if_false, Nat.reduceEqDiff, reduceIte, Nat.reduceAdd, AV.cells, AV.isTuple, setMany, alen, aiaddr, afill, Nat.reduceLeDiff, Nat.reduceMul, Nat.reduceLT, afillE, List.replicate, ic_length]
  · have : LL = [] := by rw [hLL, if_neg (by simpa using h1)]
    rw [this]; exact out_boolE (by simp)
  · have hi : is = true := by simpa using h1
    have hh : hist rate ts day (days.zip grams) := histB_iff.1 (his ▸ hi)
    rw [hLL, if_pos hi]
    have m64 := mor_len (fr := fr) (n := 64)
    have L64 : ((mor fr 64).map (topV rate ts day (days.zip grams))).length = 64 := by rw [List.length_map, m64]
    obtain ⟨T, hT⟩ : ∃ T, T = (mor fr 64).map (topV rate ts day (days.zip grams)) := ⟨_, rfl⟩
    have hget : ∀ i (h : i < T.length), T[i] = topV rate ts day (days.zip grams) (fr + (i : Int)) := fun i h => by
      simp only [hT, List.getElem_map, mor_get]
    rw [← hT] at L64 ⊢
    have c64 : (((T.length : Nat) : Int) != 64) = false := by rw [L64]; rfl
    simp only [walkS, wl, rgets, retv, argsEnv, ev, cst, cst1, cstL, AEnv.get, AEnv.trim, envput, qstep, abin, aun, evs, evo, deref, qload, target, if_true, if_false, Nat.reduceEqDiff, reduceIte, Nat.reduceAdd, AV.cells, AV.isTuple, setMany, alen, aiaddr, afill, Nat.reduceLeDiff, Nat.reduceMul, Nat.reduceLT, afillE, List.replicate, c64, o0]
    refine call_pure (known_ok no rate day ts (by omega)) (frzL_of' (d := 4) (carL_cons car_sc (carL_cons car_int rfl))) ?_
    simp only [walkS, wl, rgets, retv, argsEnv, ev, cst, cst1, cstL, AEnv.get, AEnv.trim, envput, qstep, abin, aun, evs, evo, deref, qload, target, if_true, if_false, Nat.reduceEqDiff, reduceIte, Nat.reduceAdd, AV.cells, AV.isTuple, setMany, alen, aiaddr, afill, Nat.reduceLeDiff, Nat.reduceMul, Nat.reduceLT, afillE, List.replicate]
    refine call_pure (holds_ok (no := no) (rate := rate) (fr := fr) (ts := kept day ts) (l := T) (by omega) (fun t ht => hok t (mem_kept.1 ht).1) (by have := kept_len (day := day) (ts := ts); omega) (by omega) hr (fun i h => ?_) (fun i h => ?_) fun t ht i h e => ?_) (frzL_of' (d := 4) (carL_cons car_sc (carL_cons car_int (carL_cons car_ic rfl)))) ?_
    · rw [hget i h]
      have := top_box (n := fr + i) hE hh
      exact ⟨this.2.2.1, this.2.2.2⟩
    · rw [hget i (by omega), hget (i + 1) h]
      have := top_step (no := no) (a := fr + i) (day := day) (ts := ts) (days := days) (grams := grams) hr.1
      rw [show fr + ((i + 1 : Nat) : Int) = fr + (i : Int) + 1 by omega]
      exact this
    · rw [hget i h]
      have := top_tests hE hh ht
      rw [show fr + (i : Int) = t.1 by omega]
      exact this
    · simp only [walkS, wl, rgets, retv, argsEnv, ev, cst, cst1, cstL, AEnv.get, AEnv.trim, envput, qstep, abin, aun, evs, evo, deref, qload, target, if_true, if_false, Nat.reduceEqDiff, reduceIte, Nat.reduceAdd, AV.cells, AV.isTuple, setMany, alen, aiaddr, afill, Nat.reduceLeDiff, Nat.reduceMul, Nat.reduceLT, afillE, List.replicate, ic_length]
      refine awp_loop (σ := Nat) (fun q => [(1, I day), (2, .ro false (ic days)), (3, .ro false (ic grams)), (4, I fr), (5, .ptr 0 1 0 0), (20, .own hm 64 0 64), (22, .ro true (ic T)), (177, .ro false (ic days)), (178, I days.length), (179, I q)]) (fun _ G => AHeap.obj G 0 = some ⟨24, 3, [[I no, I rate, .ro false (trows ts)]]⟩ ∧ AHeap.obj G hm = some ⟨3, 1, ic (mor fr 64)⟩) (fun q => q ≤ days.length) (fun q => days.length - q) 0 (Nat.zero_le _) rfl ⟨o0, om⟩ ?_
      rintro q G hq ⟨o0, om⟩
      simp only [walkS, wl, rgets, retv, argsEnv, ev, cst, cst1, cstL, AEnv.get, AEnv.trim, envput, qstep, abin, aun, evs, evo, deref, qload, target, if_true, if_false, Nat.reduceEqDiff, reduceIte, Nat.reduceAdd, AV.cells, AV.isTuple, setMany, alen, aiaddr, afill, Nat.reduceLeDiff, Nat.reduceMul, Nat.reduceLT, afillE, List.replicate]
      refine withBool_intro ?_ ?_ <;> intro hb <;> simp only [walkS, wl, rgets, retv, argsEnv, ev, cst, cst1, cstL, AEnv.get, AEnv.trim, envput, qstep, abin, aun, evs, evo, deref, qload, target, if_true, if_false, Nat.reduceEqDiff, reduceIte, Nat.reduceAdd, AV.cells, AV.isTuple, setMany, alen, aiaddr, afill, Nat.reduceLeDiff, Nat.reduceMul, Nat.reduceLT, afillE, List.replicate]
      · have hql : q < days.length := by simpa using hb
        have hqg : q < grams.length := by omega
        have w1 := w_succ (k := q) (by omega)
        have hdq := rising_mem hris hql
        have hdq' : 0 ≤ days[q] ∧ days[q] ≤ 1048576 := by unfold okDay at hdq; rwa [decide_eq_true_iff] at hdq
        have e1 : IntKind.i64.wrap (days[q] - fr) = days[q] - fr := wrap_id (by omega) (by omega)
        simp only [walkS, wl, rgets, retv, argsEnv, ev, cst, cst1, cstL, AEnv.get, AEnv.trim, envput, qstep, abin, aun, evs, evo, deref, qload, target, if_true, if_false, Nat.reduceEqDiff, reduceIte, Nat.reduceAdd, AV.cells, AV.isTuple, setMany, alen, aiaddr, afill, Nat.reduceLeDiff, Nat.reduceMul, Nat.reduceLT, afillE, List.replicate, ic_get hql, e1]
        refine withGuard_intro ?_ ?_ <;> intro g1 <;> simp only [walkS, wl, rgets, retv, argsEnv, ev, cst, cst1, cstL, AEnv.get, AEnv.trim, envput, qstep, abin, aun, evs, evo, deref, qload, target, if_true, if_false, Nat.reduceEqDiff, reduceIte, Nat.reduceAdd, AV.cells, AV.isTuple, setMany, alen, aiaddr, afill, Nat.reduceLeDiff, Nat.reduceMul, Nat.reduceLT, afillE, List.replicate, g1]
        · refine withGuard_intro ?_ ?_ <;> intro g2 <;> simp only [walkS, wl, rgets, retv, argsEnv, ev, cst, cst1, cstL, AEnv.get, AEnv.trim, envput, qstep, abin, aun, evs, evo, deref, qload, target, if_true, if_false, Nat.reduceEqDiff, reduceIte, Nat.reduceAdd, AV.cells, AV.isTuple, setMany, alen, aiaddr, afill, Nat.reduceLeDiff, Nat.reduceMul, Nat.reduceLT, afillE, List.replicate, g2]
          · obtain ⟨i, hi2⟩ : ∃ i : Nat, days[q] - fr = (i : Int) := ⟨(days[q] - fr).toNat, by simp at g1; omega⟩
            have hiT : i < T.length := by simp at g2; omega
            have hat : T[i] = grams[q] := by
              rw [hget i hiT, show fr + (i : Int) = days[q] by omega]
              have hz : (days[q], grams[q]) ∈ days.zip grams := by
                have hqz : q < (days.zip grams).length := by simp; omega
                have := List.getElem_mem hqz
                rwa [List.getElem_zip] at this
              exact topV_at hh hz
            simp only [walkS, wl, rgets, retv, argsEnv, ev, cst, cst1, cstL, AEnv.get, AEnv.trim, envput, qstep, abin, aun, evs, evo, deref, qload, target, if_true, if_false, Nat.reduceEqDiff, reduceIte, Nat.reduceAdd, AV.cells, AV.isTuple, setMany, alen, aiaddr, afill, Nat.reduceLeDiff, Nat.reduceMul, Nat.reduceLT, afillE, List.replicate, hi2, ic_get hiT, hat, ic_get hqg, bne_self_eq_false, w1]
            exact loop_end (q + 1) hql (by omega) rfl ⟨o0, om⟩
          · simp only [walkS, wl, rgets, retv, argsEnv, ev, cst, cst1, cstL, AEnv.get, AEnv.trim, envput, qstep, abin, aun, evs, evo, deref, qload, target, if_true, if_false, Nat.reduceEqDiff, reduceIte, Nat.reduceAdd, AV.cells, AV.isTuple, setMany, alen, aiaddr, afill, Nat.reduceLeDiff, Nat.reduceMul, Nat.reduceLT, afillE, List.replicate, w1]
            exact loop_end (q + 1) hql (by omega) rfl ⟨o0, om⟩
        · simp only [walkS, wl, rgets, retv, argsEnv, ev, cst, cst1, cstL, AEnv.get, AEnv.trim, envput, qstep, abin, aun, evs, evo, deref, qload, target, if_true, if_false, Nat.reduceEqDiff, reduceIte, Nat.reduceAdd, AV.cells, AV.isTuple, setMany, alen, aiaddr, afill, Nat.reduceLeDiff, Nat.reduceMul, Nat.reduceLT, afillE, List.replicate, w1]
          exact loop_end (q + 1) hql (by omega) rfl ⟨o0, om⟩
      · rw [hT]
        exact tail11d hE hl hh hf o0 om
end Go.Proofs.YtgadlckkmhhmbaaDoor
