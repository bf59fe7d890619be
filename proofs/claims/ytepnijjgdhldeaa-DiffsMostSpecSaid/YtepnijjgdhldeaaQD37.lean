/- Contracts: CheckFlow of the specification. -/
import Derived.Test.YtepnijjgdhldeaaQD35
import Derived.Test.YtepnijjgdhldeaaQX1
import Derived.Test.YtepnijjgdhldeaaQT45
namespace Go.Proofs.Ytepnijjgdhldeaa
open Go.Awp
set_option linter.unusedSimpArgs false
set_option linter.unusedVariables false
set_option linter.unusedSectionVars false
set_option maxRecDepth 10000
set_option maxHeartbeats 8000000
theorem li_wg2 {K : Nat} {l : List Int} (h : l.length = K) : li K (wg l) = l := by
  subst h
  refine List.ext_getElem (by simp [li_length]) fun i h1 h2 => ?_
  simp [li, wg, h2]
theorem innc_succ {ds : List Df} {F : Nat → Int} {c v : Nat} : innc ds F (c + 1) v = innc ds F c v + F c * (dl (to (ed ds c)) v - dl (fr (ed ds c)) v) := rfl
theorem refCheckFlow_ok {n most : Int} {ds : List Df} {ws fl : List Int} (hlw : ws.length ≤ big) (hlf : fl.length ≤ big) (hlds : ds.length ≤ big) (hs : valid n ds = true → n ≤ 16 ∧ ds.length ≤ 60) :
    PCall Try.prog 45 [.agg [I n, .ro false (rows ds)], .ro false (ic ws), I most, .ro false (ic fl)] (I (ckFlow n ds ws most fl)) := by
  unfold big at hlf
  refine PCall.intro text45 (by simp) ?_
  unfold ir45
  simp only [walkS, wl, rgets, retv, argsEnv, ev, cst, cst1, cstL, AEnv.get, AEnv.trim, envput, qstep, abin, aun, evs, evo, deref, qload, target, if_true, if_false, Nat.reduceEqDiff, reduceIte, Nat.reduceAdd, AV.cells, AV.isTuple, setMany, alen, aiaddr, afill, Nat.reduceLeDiff, Nat.reduceMul, Nat.reduceLT, afillE, List.replicate]
  refine call_pure (refCheck_ok n ds) (frzL_of' (d := 4) (carL_cons car_netF rfl)) ?_
  simp only [walkS, wl, rgets, retv, argsEnv, ev, cst, cst1, cstL, AEnv.get, AEnv.trim, envput, qstep, abin, aun, evs, evo, deref, qload, target, if_true, if_false, Nat.reduceEqDiff, reduceIte, Nat.reduceAdd, AV.cells, AV.isTuple, setMany, alen, aiaddr, afill, Nat.reduceLeDiff, Nat.reduceMul, Nat.reduceLT, afillE, List.replicate]
  cases hv : valid n ds with
  | false =>
    have e1 : check n ds = 40 := by simp [check, hv]
    have e2 : ckFlow n ds ws most fl = 40 := by simp [ckFlow, hv]
    rw [e1, e2]
    simp only [walkS, wl, rgets, retv, argsEnv, ev, cst, cst1, cstL, AEnv.get, AEnv.trim, envput, qstep, abin, aun, evs, evo, deref, qload, target, if_true, if_false, Nat.reduceEqDiff, reduceIte, Nat.reduceAdd, AV.cells, AV.isTuple, setMany, alen, aiaddr, afill, Nat.reduceLeDiff, Nat.reduceMul, Nat.reduceLT, afillE, List.replicate, Int.reduceBNe]
    exact out_int
  | true =>
    have e1 : check n ds = 0 := by simp [check, hv]
    rw [e1]
    simp only [walkS, wl, rgets, retv, argsEnv, ev, cst, cst1, cstL, AEnv.get, AEnv.trim, envput, qstep, abin, aun, evs, evo, deref, qload, target, if_true, if_false, Nat.reduceEqDiff, reduceIte, Nat.reduceAdd, AV.cells, AV.isTuple, setMany, alen, aiaddr, afill, Nat.reduceLeDiff, Nat.reduceMul, Nat.reduceLT, afillE, List.replicate, Int.reduceBNe]
    obtain ⟨h16, hK⟩ := hs hv
    obtain ⟨m, rfl, hg, hm⟩ := good_of hv h16
    have hn1 := hg.pos
    refine call_pure (Weights_ok hlw) (frzL_of' (d := 4) (carL_cons car_netF (carL_cons car_icF rfl))) ?_
    have arg : (weightyB m ws && flowOk ds fl) = false → ckFlow m ds ws most fl = 1 := fun h => by
      simp only [ckFlow, hv, if_true, h, Bool.false_eq_true, if_false]
    cases hwt : weightyB m ws with
    | false =>
      rw [arg (by rw [hwt]; rfl)]
      simp only [walkS, wl, rgets, retv, argsEnv, ev, cst, cst1, cstL, AEnv.get, AEnv.trim, envput, qstep, abin, aun, evs, evo, deref, qload, target, if_true, if_false, Nat.reduceEqDiff, reduceIte, Nat.reduceAdd, AV.cells, AV.isTuple, setMany, alen, aiaddr, afill, Nat.reduceLeDiff, Nat.reduceMul, Nat.reduceLT, afillE, List.replicate]
      exact out_int
    | true =>
      obtain ⟨hlw', hw⟩ := weighty_w hwt
      simp only [walkS, wl, rgets, retv, argsEnv, ev, cst, cst1, cstL, AEnv.get, AEnv.trim, envput, qstep, abin, aun, evs, evo, deref, qload, target, if_true, if_false, Nat.reduceEqDiff, reduceIte, Nat.reduceAdd, AV.cells, AV.isTuple, setMany, alen, aiaddr, afill, Nat.reduceLeDiff, Nat.reduceMul, Nat.reduceLT, afillE, List.replicate, ic_length, rows_length]
      by_cases hlen : fl.length = ds.length
      · have e3 : ((fl.length : Int) != (ds.length : Int)) = false := by simp [hlen]
        simp only [walkS, wl, rgets, retv, argsEnv, ev, cst, cst1, cstL, AEnv.get, AEnv.trim, envput, qstep, abin, aun, evs, evo, deref, qload, target, if_true, if_false, Nat.reduceEqDiff, reduceIte, Nat.reduceAdd, AV.cells, AV.isTuple, setMany, alen, aiaddr, afill, Nat.reduceLeDiff, Nat.reduceMul, Nat.reduceLT, afillE, List.replicate, e3]
        refine awp_loop (σ := Nat) (fun k => [(1, .ro false (ic ws)), (2, I most), (3, .ro false (ic fl)), (4, .ptr 0 1 0 0), (9, I k)]) (fun k H => AHeap.obj H 0 = some ⟨24, 2, [[I m, .ro false (rows ds)]]⟩) (fun k => k ≤ fl.length ∧ (fl.take k).any ffar = false) (fun k => fl.length - k) 0 ⟨Nat.zero_le _, by simp⟩ rfl rfl ?_
        rintro k H ⟨hk, hc⟩ o0
        simp only [walkS, wl, rgets, retv, argsEnv, ev, cst, cst1, cstL, AEnv.get, AEnv.trim, envput, qstep, abin, aun, evs, evo, deref, qload, target, if_true, if_false, Nat.reduceEqDiff, reduceIte, Nat.reduceAdd, AV.cells, AV.isTuple, setMany, alen, aiaddr, afill, Nat.reduceLeDiff, Nat.reduceMul, Nat.reduceLT, afillE, List.replicate, ic_length]
        refine withBool_intro ?_ ?_ <;> intro hb <;> simp only [walkS, wl, rgets, retv, argsEnv, ev, cst, cst1, cstL, AEnv.get, AEnv.trim, envput, qstep, abin, aun, evs, evo, deref, qload, target, if_true, if_false, Nat.reduceEqDiff, reduceIte, Nat.reduceAdd, AV.cells, AV.isTuple, setMany, alen, aiaddr, afill, Nat.reduceLeDiff, Nat.reduceMul, Nat.reduceLT, afillE, List.replicate, ic_length]
        · have hlt : k < fl.length := by simpa using hb
          have hw1 : IntKind.i64.wrap ((k : Int) + 1) = ((k + 1 : Nat) : Int) := by rw [wrap_id (by omega) (by omega)]; simp
          have far : ffar fl[k] = true → ckFlow m ds ws most fl = 1 := fun h => by
            have : fl.any ffar = true := List.any_eq_true.2 ⟨fl[k], List.getElem_mem hlt, h⟩
            exact arg (by simp [flowOk, this])
          simp only [walkS, wl, rgets, retv, argsEnv, ev, cst, cst1, cstL, AEnv.get, AEnv.trim, envput, qstep, abin, aun, evs, evo, deref, qload, target, if_true, if_false, Nat.reduceEqDiff, reduceIte, Nat.reduceAdd, AV.cells, AV.isTuple, setMany, alen, aiaddr, afill, Nat.reduceLeDiff, Nat.reduceMul, Nat.reduceLT, afillE, List.replicate, ic_get hlt, ic_length, if_pos (show (k : Int) < fl.length by omega)]
          refine withGuard_intro ?_ ?_ <;> intro h1 <;> simp only [walkS, wl, rgets, retv, argsEnv, ev, cst, cst1, cstL, AEnv.get, AEnv.trim, envput, qstep, abin, aun, evs, evo, deref, qload, target, if_true, if_false, Nat.reduceEqDiff, reduceIte, Nat.reduceAdd, AV.cells, AV.isTuple, setMany, alen, aiaddr, afill, Nat.reduceLeDiff, Nat.reduceMul, Nat.reduceLT, afillE, List.replicate, ic_get hlt, ic_length, if_pos (show (k : Int) < fl.length by omega), h1]
          · refine withBool_intro ?_ ?_ <;> intro h2 <;> simp only [walkS, wl, rgets, retv, argsEnv, ev, cst, cst1, cstL, AEnv.get, AEnv.trim, envput, qstep, abin, aun, evs, evo, deref, qload, target, if_true, if_false, Nat.reduceEqDiff, reduceIte, Nat.reduceAdd, AV.cells, AV.isTuple, setMany, alen, aiaddr, afill, Nat.reduceLeDiff, Nat.reduceMul, Nat.reduceLT, afillE, List.replicate, h2, hw1]
            · rw [far (by simp at h2; simp [ffar]; omega)]; exact out_int
            · have : ffar fl[k] = false := by simp at h1 h2; simp [ffar]; omega
              refine loop_end (k + 1) ⟨hlt, ?_⟩ (by omega) rfl o0
              rw [List.take_succ_eq_append_getElem hlt, List.any_append, hc]
              simp [this]
          · rw [far (by simp at h1; simp [ffar]; omega)]; exact out_int
        · have hk' : k = fl.length := by simp at hb; omega
          subst hk'
          rw [List.take_length] at hc
          have hfo : flowOk ds fl = true := by simp [flowOk, hlen, hc]
          obtain ⟨_, hF⟩ := flowOk_get hfo
          have hboth : (weightyB m ws && flowOk ds fl) = true := by rw [hwt, hfo]; rfl
          have ckb : ¬ Proves m ds ws most fl → ckFlow m ds ws most fl = 43 := fun h => by
            unfold ckFlow; rw [if_pos hv, if_pos hboth, if_neg (by rw [Int.toNat_natCast]; exact h)]
          have ckg : Proves m ds ws most fl → ckFlow m ds ws most fl = 0 := fun h => by
            unfold ckFlow; rw [if_pos hv, if_pos hboth, if_pos (by rw [Int.toNat_natCast]; exact h)]
          refine awp_loop (σ := Nat) (fun v => [(1, .ro false (ic ws)), (2, I most), (3, .ro false (ic fl)), (4, .ptr 0 1 0 0), (10, I v)]) (fun v H => AHeap.obj H 0 = some ⟨24, 2, [[I m, .ro false (rows ds)]]⟩) (fun v => 1 ≤ v ∧ v ≤ m ∧ ∀ u, 0 < u → u < v → inn ds (wg fl) u = wg ws u) (fun v => m - v) 1 ⟨Nat.le_refl _, hn1, fun u h1 h2 => by omega⟩ rfl o0 ?_
          clear o0 H hb
          rintro v H ⟨hv1, hvm, hin⟩ o0
          simp only [walkS, wl, rgets, retv, argsEnv, ev, cst, cst1, cstL, AEnv.get, AEnv.trim, envput, qstep, abin, aun, evs, evo, deref, qload, target, if_true, if_false, Nat.reduceEqDiff, reduceIte, Nat.reduceAdd, AV.cells, AV.isTuple, setMany, alen, aiaddr, afill, Nat.reduceLeDiff, Nat.reduceMul, Nat.reduceLT, afillE, List.replicate, o0]
          refine withBool_intro ?_ ?_ <;> intro hb <;> simp only [walkS, wl, rgets, retv, argsEnv, ev, cst, cst1, cstL, AEnv.get, AEnv.trim, envput, qstep, abin, aun, evs, evo, deref, qload, target, if_true, if_false, Nat.reduceEqDiff, reduceIte, Nat.reduceAdd, AV.cells, AV.isTuple, setMany, alen, aiaddr, afill, Nat.reduceLeDiff, Nat.reduceMul, Nat.reduceLT, afillE, List.replicate, o0]
          · have hvl : v < m := by simpa using hb
            have hwv : IntKind.i64.wrap ((v : Int) + 1) = ((v + 1 : Nat) : Int) := by rw [wrap_id (by omega) (by omega)]; simp
            refine awp_loop (σ := Nat) (fun c => [(1, .ro false (ic ws)), (2, I most), (3, .ro false (ic fl)), (4, .ptr 0 1 0 0), (10, I v), (11, I (innc ds (wg fl) c v)), (12, I c)]) (fun c H => AHeap.obj H 0 = some ⟨24, 2, [[I m, .ro false (rows ds)]]⟩) (fun c => c ≤ ds.length) (fun c => ds.length - c) 0 (Nat.zero_le _) rfl o0 ?_
            clear o0 H hb
            rintro c H hc' o0
            simp only [walkS, wl, rgets, retv, argsEnv, ev, cst, cst1, cstL, AEnv.get, AEnv.trim, envput, qstep, abin, aun, evs, evo, deref, qload, target, if_true, if_false, Nat.reduceEqDiff, reduceIte, Nat.reduceAdd, AV.cells, AV.isTuple, setMany, alen, aiaddr, afill, Nat.reduceLeDiff, Nat.reduceMul, Nat.reduceLT, afillE, List.replicate, ic_length, hlen]
            refine withBool_intro ?_ ?_ <;> intro hb <;> simp only [walkS, wl, rgets, retv, argsEnv, ev, cst, cst1, cstL, AEnv.get, AEnv.trim, envput, qstep, abin, aun, evs, evo, deref, qload, target, if_true, if_false, Nat.reduceEqDiff, reduceIte, Nat.reduceAdd, AV.cells, AV.isTuple, setMany, alen, aiaddr, afill, Nat.reduceLeDiff, Nat.reduceMul, Nat.reduceLT, afillE, List.replicate, o0]
            · have hcl : c < ds.length := by simpa using hb
              have hwc : IntKind.i64.wrap ((c : Int) + 1) = ((c + 1 : Nat) : Int) := by rw [wrap_id (by omega) (by omega)]; simp
              have hFc := hF c hcl
              have bd := inn_bound hF v c hc'
              obtain ⟨a, b, w, hd⟩ := trip ds[c] (hg.fit.ge1 _ (List.getElem_mem hcl)) (hg.fit.ge _ (List.getElem_mem hcl))
              have hed : ed ds c = ((a : Int), (b : Int), w) := by rw [← ed_get hcl]; exact hd
              have hrow : (rows ds)[c]? = some [I a, I b, I w] := by rw [rows_get hcl, hd]
              have hgf : (ic fl)[c]? = some [I (wg fl c)] := wg_ic (by omega)
              have es : innc ds (wg fl) (c + 1) v = innc ds (wg fl) c v + wg fl c * (dl b v - dl a v) := by rw [innc_succ, hed]; simp [to, fr]
              have w1 : IntKind.i64.wrap (innc ds (wg fl) c v + wg fl c) = innc ds (wg fl) c v + wg fl c := wrap_id (by omega) (by omega)
              have w2 : IntKind.i64.wrap (innc ds (wg fl) c v - wg fl c) = innc ds (wg fl) c v - wg fl c := wrap_id (by omega) (by omega)
              have w3 : IntKind.i64.wrap (innc ds (wg fl) c v + wg fl c - wg fl c) = innc ds (wg fl) c v := by rw [wrap_id (by omega) (by omega)]; omega
              have e12 : ∀ x : Nat, ((x : Int) == (v : Int)) = decide (x = v) := fun x => by rw [Bool.eq_iff_iff]; simp; omega
              simp only [walkS, wl, rgets, retv, argsEnv, ev, cst, cst1, cstL, AEnv.get, AEnv.trim, envput, qstep, abin, aun, evs, evo, deref, qload, target, if_true, if_false, Nat.reduceEqDiff, reduceIte, Nat.reduceAdd, AV.cells, AV.isTuple, setMany, alen, aiaddr, afill, Nat.reduceLeDiff, Nat.reduceMul, Nat.reduceLT, afillE, List.replicate, o0, hrow, rows_length, ic_length, if_pos (show (c : Int) < (ds.length : Int) by omega), e12]
              by_cases hbv : b = v
              · simp only [walkS, wl, rgets, retv, argsEnv, ev, cst, cst1, cstL, AEnv.get, AEnv.trim, envput, qstep, abin, aun, evs, evo, deref, qload, target, if_true, if_false, Nat.reduceEqDiff, reduceIte, Nat.reduceAdd, AV.cells, AV.isTuple, setMany, alen, aiaddr, afill, Nat.reduceLeDiff, Nat.reduceMul, Nat.reduceLT, afillE, List.replicate, decide_eq_true hbv, hgf, ic_length, if_pos (show (c : Int) < (fl.length : Int) by omega), o0, hrow, rows_length, if_pos (show (c : Int) < (ds.length : Int) by omega), w1, e12]
                by_cases hav : a = v
                · simp only [walkS, wl, rgets, retv, argsEnv, ev, cst, cst1, cstL, AEnv.get, AEnv.trim, envput, qstep, abin, aun, evs, evo, deref, qload, target, if_true, if_false, Nat.reduceEqDiff, reduceIte, Nat.reduceAdd, AV.cells, AV.isTuple, setMany, alen, aiaddr, afill, Nat.reduceLeDiff, Nat.reduceMul, Nat.reduceLT, afillE, List.replicate, decide_eq_true hav, hgf, ic_length, if_pos (show (c : Int) < (fl.length : Int) by omega), w3, hwc]
                  refine loop_end (c + 1) hcl (by omega) ?_ o0
                  have : innc ds (wg fl) (c + 1) v = innc ds (wg fl) c v := by rw [es]; simp [dl, hbv, hav]
                  simp only [this]
                · simp only [walkS, wl, rgets, retv, argsEnv, ev, cst, cst1, cstL, AEnv.get, AEnv.trim, envput, qstep, abin, aun, evs, evo, deref, qload, target, if_true, if_false, Nat.reduceEqDiff, reduceIte, Nat.reduceAdd, AV.cells, AV.isTuple, setMany, alen, aiaddr, afill, Nat.reduceLeDiff, Nat.reduceMul, Nat.reduceLT, afillE, List.replicate, decide_eq_false hav, hwc]
                  refine loop_end (c + 1) hcl (by omega) ?_ o0
                  have : innc ds (wg fl) (c + 1) v = innc ds (wg fl) c v + wg fl c := by rw [es]; simp [dl, hbv, hav]
                  simp only [this]
              · simp only [walkS, wl, rgets, retv, argsEnv, ev, cst, cst1, cstL, AEnv.get, AEnv.trim, envput, qstep, abin, aun, evs, evo, deref, qload, target, if_true, if_false, Nat.reduceEqDiff, reduceIte, Nat.reduceAdd, AV.cells, AV.isTuple, setMany, alen, aiaddr, afill, Nat.reduceLeDiff, Nat.reduceMul, Nat.reduceLT, afillE, List.replicate, decide_eq_false hbv, hgf, ic_length, if_pos (show (c : Int) < (fl.length : Int) by omega), o0, hrow, rows_length, if_pos (show (c : Int) < (ds.length : Int) by omega), e12]
                by_cases hav : a = v
                · simp only [walkS, wl, rgets, retv, argsEnv, ev, cst, cst1, cstL, AEnv.get, AEnv.trim, envput, qstep, abin, aun, evs, evo, deref, qload, target, if_true, if_false, Nat.reduceEqDiff, reduceIte, Nat.reduceAdd, AV.cells, AV.isTuple, setMany, alen, aiaddr, afill, Nat.reduceLeDiff, Nat.reduceMul, Nat.reduceLT, afillE, List.replicate, decide_eq_true hav, hgf, ic_length, if_pos (show (c : Int) < (fl.length : Int) by omega), w2, hwc]
                  refine loop_end (c + 1) hcl (by omega) ?_ o0
                  have : innc ds (wg fl) (c + 1) v = innc ds (wg fl) c v - wg fl c := by rw [es]; simp [dl, hbv, hav]; omega
                  simp only [this]
                · simp only [walkS, wl, rgets, retv, argsEnv, ev, cst, cst1, cstL, AEnv.get, AEnv.trim, envput, qstep, abin, aun, evs, evo, deref, qload, target, if_true, if_false, Nat.reduceEqDiff, reduceIte, Nat.reduceAdd, AV.cells, AV.isTuple, setMany, alen, aiaddr, afill, Nat.reduceLeDiff, Nat.reduceMul, Nat.reduceLT, afillE, List.replicate, decide_eq_false hav, hwc]
                  refine loop_end (c + 1) hcl (by omega) ?_ o0
                  have : innc ds (wg fl) (c + 1) v = innc ds (wg fl) c v := by rw [es]; simp [dl, hbv, hav]
                  simp only [this]
            · have hc2 : c = ds.length := by simp at hb; omega
              subst hc2
              simp only [walkS, wl, rgets, retv, argsEnv, ev, cst, cst1, cstL, AEnv.get, AEnv.trim, envput, qstep, abin, aun, evs, evo, deref, qload, target, if_true, if_false, Nat.reduceEqDiff, reduceIte, Nat.reduceAdd, AV.cells, AV.isTuple, setMany, alen, aiaddr, afill, Nat.reduceLeDiff, Nat.reduceMul, Nat.reduceLT, afillE, List.replicate, wg_ic (show v < ws.length by omega), ic_length, if_pos (show (v : Int) < (ws.length : Int) by omega)]
              refine withBool_intro ?_ ?_ <;> intro hne <;> simp only [walkS, wl, rgets, retv, argsEnv, ev, cst, cst1, cstL, AEnv.get, AEnv.trim, envput, qstep, abin, aun, evs, evo, deref, qload, target, if_true, if_false, Nat.reduceEqDiff, reduceIte, Nat.reduceAdd, AV.cells, AV.isTuple, setMany, alen, aiaddr, afill, Nat.reduceLeDiff, Nat.reduceMul, Nat.reduceLT, afillE, List.replicate, hne]
              · rw [ckb fun hp => by have := hp.1 v (by omega) hvl; simp [inn] at hne this; exact hne this]
                exact out_int
              · simp only [walkS, wl, rgets, retv, argsEnv, ev, cst, cst1, cstL, AEnv.get, AEnv.trim, envput, qstep, abin, aun, evs, evo, deref, qload, target, if_true, if_false, Nat.reduceEqDiff, reduceIte, Nat.reduceAdd, AV.cells, AV.isTuple, setMany, alen, aiaddr, afill, Nat.reduceLeDiff, Nat.reduceMul, Nat.reduceLT, afillE, List.replicate, hwv]
                refine loop_end (v + 1) ⟨by omega, hvl, fun u h1 h2 => ?_⟩ (by omega) rfl o0
                by_cases e : u = v
                · subst e; simp at hne; exact hne
                · exact hin u h1 (by omega)
          · have hvm' : v = m := by simp at hb; omega
            subst hvm'
            have hcost := Cost_ok (n := v) (ds := ds) (F := wg fl) (b := false) (by omega) hF hg.w
            rw [li_wg2 hlen] at hcost
            refine call_pure hcost (frzL_of' (d := 4) (carL_cons car_netF (carL_cons car_icF rfl))) ?_
            simp only [walkS, wl, rgets, retv, argsEnv, ev, cst, cst1, cstL, AEnv.get, AEnv.trim, envput, qstep, abin, aun, evs, evo, deref, qload, target, if_true, if_false, Nat.reduceEqDiff, reduceIte, Nat.reduceAdd, AV.cells, AV.isTuple, setMany, alen, aiaddr, afill, Nat.reduceLeDiff, Nat.reduceMul, Nat.reduceLT, afillE, List.replicate]
            refine withBool_intro ?_ ?_ <;> intro hgt <;> simp only [walkS, wl, rgets, retv, argsEnv, ev, cst, cst1, cstL, AEnv.get, AEnv.trim, envput, qstep, abin, aun, evs, evo, deref, qload, target, if_true, if_false, Nat.reduceEqDiff, reduceIte, Nat.reduceAdd, AV.cells, AV.isTuple, setMany, alen, aiaddr, afill, Nat.reduceLeDiff, Nat.reduceMul, Nat.reduceLT, afillE, List.replicate]
            · rw [ckb fun hp => by have := hp.2; simp at hgt; omega]
              exact out_int
            · rw [ckg ⟨hin, by simp at hgt; omega⟩]
              exact out_int
      · have e3 : ((fl.length : Int) != (ds.length : Int)) = true := by simp; omega
        rw [arg (by simp [flowOk, hlen])]
        simp only [walkS, wl, rgets, retv, argsEnv, ev, cst, cst1, cstL, AEnv.get, AEnv.trim, envput, qstep, abin, aun, evs, evo, deref, qload, target, if_true, if_false, Nat.reduceEqDiff, reduceIte, Nat.reduceAdd, AV.cells, AV.isTuple, setMany, alen, aiaddr, afill, Nat.reduceLeDiff, Nat.reduceMul, Nat.reduceLT, afillE, List.replicate, e3]
        exact out_int
end Go.Proofs.Ytepnijjgdhldeaa
