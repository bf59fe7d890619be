/- grow: the walk. -/
import Derived.Test.YtepnijjgdhldeaaQ3
namespace Go.Proofs.Ytepnijjgdhldeaa
open Go.Awp
set_option linter.unusedSimpArgs false
set_option linter.unusedVariables false
set_option maxRecDepth 10000
def ir101r : IR := (.seq (.seq (.ops [⟨(some 10), (.mv (.const (.int .i64 (-1)))), none, [], false⟩]) (.trim [4, 6, 7, 10])) (.seq (.seq (.seq (.ops [⟨(some 38), (.mv (.tmp 6)), none, [], false⟩, ⟨(some 39), (.len (.tmp 38)), none, [], false⟩, ⟨(some 40), (.mv (.const (.int .i64 0))), none, [], false⟩]) (.trim [4, 6, 7, 10, 38, 39, 40])) (.block 2 (.loop (.seq (.seq (.ops [⟨(some 41), (.bin .lss (.tmp 40) (.tmp 39)), none, [], false⟩]) (.trim [4, 6, 7, 10, 38, 39, 40, 41])) (.seq (.cond (.tmp 41) .skip (.exit 2)) (.seq (.block 3 (.seq (.seq (.ops [⟨(some 42), (.mv (.tmp 40)), none, [], false⟩, ⟨(some 43), (.iaddr 3 (.tmp 38) (.tmp 40)), none, [], false⟩, ⟨(some 44), (.load 3 true (.tmp 43)), none, [], false⟩, ⟨(some 12), (.zero 39 3 [(.int .i64 0), (.int .i64 0), (.int .i64 0)]), none, [], false⟩, ⟨(some 11), (.mv (.tmp 42)), none, [], false⟩, ⟨none, (.store 3 true (.tmp 12) (.tmp 44)), none, [], false⟩]) (.trim [4, 6, 7, 10, 11, 12, 38, 39, 40])) (.seq (.seq (.opsD [⟨(some 45), (.faddr 1 (.tmp 7)), none, [7], false⟩, ⟨(some 46), (.load 1 false (.tmp 45)), none, [45], false⟩, ⟨(some 47), (.faddr 0 (.tmp 12)), none, [12], false⟩, ⟨(some 48), (.load 1 false (.tmp 47)), none, [47], false⟩, ⟨(some 49), (.iaddr 1 (.tmp 46) (.tmp 48)), none, [46, 48], false⟩, ⟨(some 50), (.load 1 false (.tmp 49)), none, [49], false⟩, ⟨(some 51), (.mv (.tmp 50)), none, [50], false⟩, ⟨(some 52), (.faddr 1 (.tmp 7)), (some (51, true)), [7], false⟩, ⟨(some 53), (.load 1 false (.tmp 52)), (some (51, true)), [52], false⟩, ⟨(some 54), (.faddr 1 (.tmp 12)), (some (51, true)), [12], false⟩, ⟨(some 55), (.load 1 false (.tmp 54)), (some (51, true)), [54], false⟩, ⟨(some 56), (.iaddr 1 (.tmp 53) (.tmp 55)), (some (51, true)), [53, 55], false⟩, ⟨(some 57), (.load 1 false (.tmp 56)), (some (51, true)), [56], false⟩, ⟨(some 58), (.un .not (.tmp 57)), (some (51, true)), [57], false⟩, ⟨(some 59), (.mv (.tmp 58)), (some (51, true)), [58], false⟩, ⟨(some 60), (.faddr 0 (.tmp 7)), (some (59, false)), [7], false⟩, ⟨(some 61), (.load 1 false (.tmp 60)), (some (59, false)), [60], false⟩, ⟨(some 62), (.faddr 0 (.tmp 12)), (some (59, false)), [12], false⟩, ⟨(some 63), (.load 1 false (.tmp 62)), (some (59, false)), [62], false⟩, ⟨(some 64), (.iaddr 1 (.tmp 61) (.tmp 63)), (some (59, false)), [61, 63], false⟩, ⟨(some 65), (.load 1 false (.tmp 64)), (some (59, false)), [64], false⟩, ⟨(some 66), (.faddr 2 (.tmp 12)), (some (59, false)), [12], false⟩, ⟨(some 67), (.load 1 false (.tmp 66)), (some (59, false)), [66], false⟩, ⟨(some 68), (.bin .add (.tmp 65) (.tmp 67)), (some (59, false)), [65, 67], false⟩, ⟨(some 69), (.faddr 0 (.tmp 7)), (some (59, false)), [7], false⟩, ⟨(some 70), (.load 1 false (.tmp 69)), (some (59, false)), [69], false⟩, ⟨(some 71), (.faddr 1 (.tmp 12)), (some (59, false)), [12], false⟩, ⟨(some 72), (.load 1 false (.tmp 71)), (some (59, false)), [71], false⟩, ⟨(some 73), (.iaddr 1 (.tmp 70) (.tmp 72)), (some (59, false)), [70, 72], false⟩, ⟨(some 74), (.load 1 false (.tmp 73)), (some (59, false)), [73], false⟩] [] [⟨(some 75), (.bin .lss (.tmp 68) (.tmp 74)), (some (59, false)), [], false⟩, ⟨(some 76), (.pick (.tmp 59) (.const (.bool true)) (.tmp 75)), (some (51, true)), [], false⟩, ⟨(some 77), (.pick (.tmp 51) (.tmp 76) (.const (.bool false))), none, [], false⟩]) (.trim [4, 6, 7, 10, 11, 12, 38, 39, 40, 77])) (.cond (.tmp 77) (.seq (.seq (.opsD [⟨(some 78), (.faddr 0 (.tmp 7)), none, [7], false⟩, ⟨(some 79), (.load 1 false (.tmp 78)), none, [78], false⟩, ⟨(some 80), (.faddr 1 (.tmp 12)), none, [12], false⟩, ⟨(some 81), (.load 1 false (.tmp 80)), none, [80], false⟩, ⟨(some 82), (.faddr 1 (.tmp 7)), none, [7], true⟩, ⟨(some 83), (.load 1 false (.tmp 82)), none, [82], true⟩, ⟨(some 84), (.faddr 1 (.tmp 12)), none, [12], true⟩, ⟨(some 85), (.load 1 false (.tmp 84)), none, [84], true⟩, ⟨(some 86), (.faddr 2 (.tmp 7)), none, [7], true⟩, ⟨(some 87), (.load 1 false (.tmp 86)), none, [86], true⟩, ⟨(some 88), (.faddr 1 (.tmp 12)), none, [12], true⟩, ⟨(some 89), (.load 1 false (.tmp 88)), none, [88], true⟩, ⟨(some 90), (.faddr 0 (.tmp 7)), none, [7], false⟩, ⟨(some 91), (.load 1 false (.tmp 90)), none, [90], false⟩, ⟨(some 92), (.faddr 0 (.tmp 12)), none, [12], false⟩, ⟨(some 93), (.load 1 false (.tmp 92)), none, [92], false⟩, ⟨(some 94), (.iaddr 1 (.tmp 91) (.tmp 93)), none, [91, 93], false⟩, ⟨(some 95), (.load 1 false (.tmp 94)), none, [94], false⟩, ⟨(some 96), (.faddr 2 (.tmp 12)), none, [12], false⟩, ⟨(some 97), (.load 1 false (.tmp 96)), none, [96], false⟩, ⟨(some 98), (.bin .add (.tmp 95) (.tmp 97)), none, [95, 97], false⟩, ⟨(some 99), (.mv (.tmp 11)), none, [11], true⟩, ⟨(some 100), (.iaddr 1 (.tmp 79) (.tmp 81)), none, [79, 81], false⟩] [⟨none, (.store 1 false (.tmp 100) (.tmp 98)), none, [100, 98], false⟩, ⟨(some 101), (.iaddr 1 (.tmp 83) (.tmp 85)), none, [83, 85], true⟩, ⟨none, (.store 1 false (.tmp 101) (.const (.bool true))), none, [101], false⟩] [⟨(some 102), (.iaddr 1 (.tmp 87) (.tmp 89)), none, [], false⟩, ⟨none, (.store 1 false (.tmp 102) (.tmp 99)), none, [], false⟩]) (.trim [4, 6, 7, 12, 38, 39, 40])) (.seq (.ops [⟨(some 103), (.faddr 1 (.tmp 12)), none, [], false⟩, ⟨(some 104), (.load 1 false (.tmp 103)), none, [], false⟩, ⟨(some 10), (.mv (.tmp 104)), none, [], false⟩]) (.trim [4, 6, 7, 10, 38, 39, 40]))) .skip)))) (.seq (.ops [⟨(some 105), (.bin .add (.tmp 40) (.const (.int .i64 1))), none, [], false⟩, ⟨(some 40), (.mv (.tmp 105)), none, [], false⟩]) (.trim [4, 6, 7, 10, 38, 39, 40])))))))) (.seq (.seq (.seq (.ops [⟨(some 106), (.mv (.tmp 10)), none, [], false⟩, ⟨(some 107), (.bin .lss (.tmp 106) (.const (.int .i64 0))), none, [], false⟩]) (.trim [4, 6, 7, 10, 107])) (.cond (.tmp 107) (.seq (.seq (.ops [⟨(some 108), (.load 3 true (.tmp 7)), none, [], false⟩, ⟨none, (.store 3 true (.tmp 4) (.tmp 108)), none, [], false⟩, ⟨(some 5), (.mv (.const (.int .i64 (-1)))), none, [], false⟩]) (.trim [4, 5])) .ret) .skip)) (.seq (.seq (.seq (.ops [⟨(some 109), (.load 3 true (.tmp 7)), none, [], false⟩, ⟨(some 110), (.mv (.tmp 6)), none, [], false⟩, ⟨(some 111), (.mv (.tmp 10)), none, [], false⟩, ⟨(some 112), (.call 121 [(.tmp 109), (.tmp 110), (.tmp 111)]), none, [], false⟩, ⟨(some 13), (.mv (.tmp 112)), none, [], false⟩]) (.trim [4, 6, 7, 13])) (.seq (.seq (.ops [⟨(some 113), (.mv (.tmp 13)), none, [], false⟩, ⟨(some 114), (.bin .geq (.tmp 113) (.const (.int .i64 0))), none, [], false⟩]) (.trim [4, 6, 7, 13, 114])) (.cond (.tmp 114) (.seq (.seq (.ops [⟨(some 115), (.load 3 true (.tmp 7)), none, [], false⟩, ⟨(some 116), (.mv (.tmp 13)), none, [], false⟩, ⟨none, (.store 3 true (.tmp 4) (.tmp 115)), none, [], false⟩, ⟨(some 5), (.mv (.tmp 116)), none, [], false⟩]) (.trim [4, 5])) .ret) .skip))) (.goto 0)))))
theorem ir101_eq : ir101 = (.seq (.seq (.ops [⟨(some 4), (.zero 88 3 [.nilSlice, .nilSlice, .nilSlice]), none, [], false⟩, ⟨(some 5), (.mv (.const (.int .i64 0))), none, [], false⟩]) (.trim [0, 1, 4])) (.scope (.seq (.seq (.ops [⟨(some 14), (.mv (.tmp 0)), none, [], false⟩, ⟨(some 15), (.invoke (.tmp 14) "snowline/diffs.lines" []), none, [], false⟩, ⟨(some 6), (.mv (.tmp 15)), none, [], false⟩]) (.trim [0, 1, 4, 6])) (.seq (.seq (.opsD [⟨(some 16), (.mv (.tmp 0)), none, [0], false⟩, ⟨(some 17), (.invoke (.tmp 16) "snowline/diffs.nodes" []), none, [16], false⟩, ⟨(some 18), (.mkslice 3 1 8 [(.int .i64 0)] (.tmp 17) (.tmp 17)), none, [17, 17], false⟩, ⟨(some 19), (.mv (.tmp 0)), none, [0], false⟩, ⟨(some 20), (.invoke (.tmp 19) "snowline/diffs.nodes" []), none, [19], false⟩, ⟨(some 21), (.mkslice 4 1 1 [(.bool false)] (.tmp 20) (.tmp 20)), none, [20, 20], false⟩, ⟨(some 22), (.mklit 3 1 1 [(.int .i64 0)] [(0, (.const (.int .i64 (-1))))]), none, [], false⟩, ⟨(some 23), (.mv (.tmp 0)), none, [0], false⟩, ⟨(some 24), (.invoke (.tmp 23) "snowline/diffs.nodes" []), none, [23], false⟩, ⟨(some 25), (.call 120 [(.tmp 22), (.tmp 24)]), none, [22, 24], false⟩, ⟨(some 26), (.build [.nilSlice, .nilSlice, .nilSlice] [(0, (1, (.tmp 18))), (1, (1, (.tmp 21))), (2, (1, (.tmp 25)))]), none, [18, 21, 25], false⟩, ⟨(some 7), (.zero 88 3 [.nilSlice, .nilSlice, .nilSlice]), none, [], false⟩] [] [⟨none, (.store 3 true (.tmp 7) (.tmp 26)), none, [], false⟩]) (.trim [1, 4, 6, 7])) (.seq (.seq (.seq (.ops [⟨(some 27), (.mv (.tmp 1)), none, [], false⟩, ⟨(some 28), (.len (.tmp 27)), none, [], false⟩, ⟨(some 29), (.mv (.const (.int .i64 0))), none, [], false⟩]) (.trim [4, 6, 7, 27, 28, 29])) (.block 0 (.loop (.seq (.seq (.ops [⟨(some 30), (.bin .lss (.tmp 29) (.tmp 28)), none, [], false⟩]) (.trim [4, 6, 7, 27, 28, 29, 30])) (.seq (.cond (.tmp 30) .skip (.exit 0)) (.seq (.block 1 (.seq (.seq (.ops [⟨(some 31), (.iaddr 1 (.tmp 27) (.tmp 29)), none, [], false⟩, ⟨(some 32), (.load 1 false (.tmp 31)), none, [], false⟩, ⟨(some 9), (.mv (.tmp 32)), none, [], false⟩]) (.trim [4, 6, 7, 9, 27, 28, 29])) (.seq (.ops [⟨(some 33), (.faddr 1 (.tmp 7)), none, [], false⟩, ⟨(some 34), (.load 1 false (.tmp 33)), none, [], false⟩, ⟨(some 35), (.mv (.tmp 9)), none, [], false⟩, ⟨(some 36), (.iaddr 1 (.tmp 34) (.tmp 35)), none, [], false⟩, ⟨none, (.store 1 false (.tmp 36) (.const (.bool true))), none, [], false⟩]) (.trim [4, 6, 7, 27, 28, 29])))) (.seq (.ops [⟨(some 37), (.bin .add (.tmp 29) (.const (.int .i64 1))), none, [], false⟩, ⟨(some 29), (.mv (.tmp 37)), none, [], false⟩]) (.trim [4, 6, 7, 27, 28, 29])))))))) (.seq (.seq (.ops [⟨(some 10), (.mv (.const (.int .i64 (-1)))), none, [], false⟩]) (.trim [4, 6, 7])) (.seq (.label 0) ir101r))))) 0 (.seq .skip ir101r))) := rfl
theorem trip (d : Df) (h1 : 0 ≤ d.1) (h2 : 0 ≤ d.2.1) : ∃ (u v : Nat) (w : Int), d = ((u : Int), (v : Int), w) := ⟨d.1.toNat, d.2.1.toNat, d.2.2, by
  rw [Int.toNat_of_nonneg h1, Int.toNat_of_nonneg h2]⟩
/-- The objects of a growing tree. -/
structure GF (L hb h1 h2 h3 n : Nat) (H0 : AHeap) (s : Gs) (H : AHeap) : Prop where
  t4 : AHeap.obj H L = some ⟨88, 3, [[.nilSlice, .nilSlice, .nilSlice]]⟩
  t7 : AHeap.obj H hb = some ⟨88, 3, [[.own h1 n 0 n, .own h2 n 0 n, .own h3 n 0 n]]⟩
  o1 : AHeap.obj H h1 = some ⟨3, 1, ic (li n s.long)⟩
  o2 : AHeap.obj H h2 = some ⟨4, 1, bc (lb n s.has)⟩
  o3 : AHeap.obj H h3 = some ⟨3, 1, ic (li n s.last)⟩
  keep : ∀ i, i < H0.length → AHeap.obj H i = AHeap.obj H0 i
  len : hb < H.length
structure Spots (L hb h1 h2 h3 l0 : Nat) : Prop where
  a : l0 ≤ L
  b : L < h1
  c : h1 < h2
  d : h2 < h3
  e : h3 < hb
theorem GF.other {L hb h1 h2 h3 n : Nat} {H0 : AHeap} {s : Gs} {H H1 : AHeap} (h : GF L hb h1 h2 h3 n H0 s H) (sp : Spots L hb h1 h2 h3 H0.length) (hl : H.length ≤ H1.length) (hk : ∀ q, q < H.length → AHeap.obj H1 q = AHeap.obj H q) : GF L hb h1 h2 h3 n H0 s H1 := by
  obtain ⟨a, b, c, d, e⟩ := sp
  have := h.len
  exact ⟨by rw [hk _ (by omega)]; exact h.t4, by rw [hk _ (by omega)]; exact h.t7, by rw [hk _ (by omega)]; exact h.o1, by rw [hk _ (by omega)]; exact h.o2, by rw [hk _ (by omega)]; exact h.o3, fun i hi => by rw [hk _ (by omega)]; exact h.keep i hi, by omega⟩
/-- What grow hands back. -/
def Grown (H0 : AHeap) (n : Nat) (t : Gs) (bad : Int) (x : AV) (H : AHeap) : Prop :=
  ∃ h1 h2 h3, x = .tuple [.agg [.own h1 n 0 n, .own h2 n 0 n, .own h3 n 0 n], I bad] ∧ H0.length ≤ h1 ∧ h1 < h2 ∧ h2 < h3 ∧ AHeap.obj H h1 = some ⟨3, 1, ic (li n t.long)⟩ ∧ AHeap.obj H h2 = some ⟨4, 1, bc (lb n t.has)⟩ ∧ AHeap.obj H h3 = some ⟨3, 1, ic (li n t.last)⟩ ∧ H0.length ≤ H.length ∧ ∀ i, i < H0.length → AHeap.obj H i = AHeap.obj H0 i
theorem grow_rest {n : Nat} {ds : List Df} (hg : Good n ds) {s0 : Gs} (h0 : ∀ v, s0.long v = 0) (hl0 : ∀ v, s0.last v = -1) {b : Bool} {L hb h1 h2 h3 : Nat} {H0 : AHeap} (sp : Spots L hb h1 h2 h3 H0.length) {r f : Nat} (hr : r + f = n) (hf : 0 < f) {H : AHeap} (gf : GF L hb h1 h2 h3 n H0 (iter ds s0 r) H)
    {J : AEnv → AHeap → Prop} (hJ : ∀ H', 0 < f - 1 → growR ds n s0 f r = growR ds n s0 (f - 1) (r + 1) → GF L hb h1 h2 h3 n H0 (iter ds s0 (r + 1)) H' → ∀ E : AEnv, J ((4, .ptr L 1 0 0) :: (6, .ro b (rows ds)) :: (7, .ptr hb 1 0 0) :: E) H') (E : AEnv) :
    awp Try.prog ir101r (scopeQ 0 J (fnPost [(.cell 3 true 4), (.tmp 5)] fun x H' => Grown H0 n (growR ds n s0 f r).1 (growR ds n s0 f r).2 x H')) ((4, .ptr L 1 0 0) :: (6, .ro b (rows ds)) :: (7, .ptr hb 1 0 0) :: E) H := by
  unfold ir101r
  simp only [walkS, wl, rgets, retv, argsEnv, ev, cst, cst1, cstL, AEnv.get, AEnv.trim, envput, qstep, abin, aun, evs, evo, deref, qload, target, if_true, if_false, Nat.reduceEqDiff, reduceIte, Nat.reduceAdd, AV.cells, AV.isTuple, setMany, alen, aiaddr, afill, Nat.reduceLeDiff, Nat.reduceMul, Nat.reduceLT, afillE, List.replicate, rows_length]
  refine awp_loop (σ := Nat) (fun k => [(4, .ptr L 1 0 0), (6, .ro b (rows ds)), (7, .ptr hb 1 0 0), (10, I (part ds (iter ds s0 r) k).2), (38, .ro b (rows ds)), (39, I ds.length), (40, I k)])
    (fun k H => GF L hb h1 h2 h3 n H0 (part ds (iter ds s0 r) k).1 H) (fun k => k ≤ ds.length) (fun k => ds.length - k) 0 (Nat.zero_le _) rfl gf ?_
  clear gf
  rintro k H hk gf
  have hlen := gf.len
  obtain ⟨sa, sb, sc, sd, se⟩ := sp
  simp only [walkS, wl, rgets, retv, argsEnv, ev, cst, cst1, cstL, AEnv.get, AEnv.trim, envput, qstep, abin, aun, evs, evo, deref, qload, target, if_true, if_false, Nat.reduceEqDiff, reduceIte, Nat.reduceAdd, AV.cells, AV.isTuple, setMany, alen, aiaddr, afill, Nat.reduceLeDiff, Nat.reduceMul, Nat.reduceLT, afillE, List.replicate]
  refine withBool_intro ?_ ?_ <;> intro hb' <;> simp only [walkS, wl, rgets, retv, argsEnv, ev, cst, cst1, cstL, AEnv.get, AEnv.trim, envput, qstep, abin, aun, evs, evo, deref, qload, target, if_true, if_false, Nat.reduceEqDiff, reduceIte, Nat.reduceAdd, AV.cells, AV.isTuple, setMany, alen, aiaddr, afill, Nat.reduceLeDiff, Nat.reduceMul, Nat.reduceLT, afillE, List.replicate]
  · have hlt : k < ds.length := by simpa using hb'
    have hd : ds[k]? = some ds[k] := List.getElem?_eq_getElem hlt
    obtain ⟨u, v, w, hdw⟩ := trip ds[k] (hg.fit.ge1 _ (List.getElem_mem hlt)) (hg.fit.ge _ (List.getElem_mem hlt))
    have hfu := hg.fit.fr _ (List.getElem_mem hlt)
    have hfv := hg.fit.to _ (List.getElem_mem hlt)
    have hw := hg.w _ (List.getElem_mem hlt)
    rw [hdw] at hfu hfv hw hd
    simp only [fr, to, Int.toNat_natCast] at hfu hfv hw
    have hrow : (rows ds)[k]? = some [I u, I v, I w] := by simp [rows, hd, dc]
    simp only [walkS, wl, rgets, retv, argsEnv, ev, cst, cst1, cstL, AEnv.get, AEnv.trim, envput, qstep, abin, aun, evs, evo, deref, qload, target, if_true, if_false, Nat.reduceEqDiff, reduceIte, Nat.reduceAdd, AV.cells, AV.isTuple, setMany, alen, aiaddr, afill, Nat.reduceLeDiff, Nat.reduceMul, Nat.reduceLT, afillE, List.replicate, hrow, rows_length, if_pos (show (k : Int) < ds.length by omega)]
    refine storeR rfl rfl AHeap.obj_push_eq rfl ⟨rfl, rfl, rfl, by simp⟩ fun H1 q1 q2 q3 => ?_
    have gf1 := gf.other ⟨sa, sb, sc, sd, se⟩ (H1 := H1) (by rw [q1]; simp) fun q hq => by rw [q3 q (by omega), AHeap.obj_push_lt hq]
    have hL1 : H1.length = H.length + 1 := by rw [q1]; simp
    simp only [List.set_cons_zero, setMany] at q2
    have hbd := part_bound hg.w (iter_bound hg.w h0 r) k
    have hsteps : r * ds.length + k ≤ 172032 := by
      have : r * ds.length ≤ 20 * 8192 := Nat.mul_le_mul (by have := hg.small; omega) hg.len
      have := hg.len; omega
    have hps := part_succ (s := iter ds s0 r) hd
    generalize hp : part ds (iter ds s0 r) k = p at gf1 hbd hps ⊢
    obtain ⟨p, c⟩ := p
    simp only at gf1 hbd hps
    have b1 := hbd u
    have b2 := hbd v
    obtain ⟨t4, t7, o1, o2, o3, kp, l1⟩ := gf1
    have hu' : (u : Int) < n := by omega
    have hv' : (v : Int) < n := by omega
    simp only [walkS, wl, rgets, retv, argsEnv, ev, cst, cst1, cstL, AEnv.get, AEnv.trim, envput, qstep, abin, aun, evs, evo, deref, qload, target, if_true, if_false, Nat.reduceEqDiff, reduceIte, Nat.reduceAdd, AV.cells, AV.isTuple, setMany, alen, aiaddr, afill, Nat.reduceLeDiff, Nat.reduceMul, Nat.reduceLT, afillE, List.replicate, t7, o1, o2, o3, q2, lb_get hfu, lb_get hfv, li_get hfu, li_get hfv, lb_length, bc_length, li_length, ic_length, if_pos hu', if_pos hv']
    refine withGuard_intro ?_ ?_ <;> intro hu <;> simp only [walkS, wl, rgets, retv, argsEnv, ev, cst, cst1, cstL, AEnv.get, AEnv.trim, envput, qstep, abin, aun, evs, evo, deref, qload, target, if_true, if_false, Nat.reduceEqDiff, reduceIte, Nat.reduceAdd, AV.cells, AV.isTuple, setMany, alen, aiaddr, afill, Nat.reduceLeDiff, Nat.reduceMul, Nat.reduceLT, afillE, List.replicate, hu, t7, o1, o2, o3, q2, lb_get hfu, lb_get hfv, li_get hfu, li_get hfv, lb_length, bc_length, li_length, ic_length, if_pos hu', if_pos hv']
    · refine withGuard_intro ?_ ?_ <;> intro hv <;> simp only [walkS, wl, rgets, retv, argsEnv, ev, cst, cst1, cstL, AEnv.get, AEnv.trim, envput, qstep, abin, aun, evs, evo, deref, qload, target, if_true, if_false, Nat.reduceEqDiff, reduceIte, Nat.reduceAdd, AV.cells, AV.isTuple, setMany, alen, aiaddr, afill, Nat.reduceLeDiff, Nat.reduceMul, Nat.reduceLT, afillE, List.replicate, hu, hv, t7, o1, o2, o3, q2, lb_get hfu, lb_get hfv, li_get hfu, li_get hfv, lb_length, bc_length, li_length, ic_length, if_pos hu', if_pos hv']
      · rw [wrap_id (by omega) (by omega)]
        refine withBool_intro ?_ ?_ <;> intro hc <;> simp only [walkS, wl, rgets, retv, argsEnv, ev, cst, cst1, cstL, AEnv.get, AEnv.trim, envput, qstep, abin, aun, evs, evo, deref, qload, target, if_true, if_false, Nat.reduceEqDiff, reduceIte, Nat.reduceAdd, AV.cells, AV.isTuple, setMany, alen, aiaddr, afill, Nat.reduceLeDiff, Nat.reduceMul, Nat.reduceLT, afillE, List.replicate, hu, hv, t7, o1, o2, o3, q2, lb_get hfu, lb_get hfv, li_get hfu, li_get hfv, lb_length, bc_length, li_length, ic_length, if_pos hu', if_pos hv']
        · rw [wrap_id (by omega) (by omega)]
          refine storeW rfl rfl o1 (li_get hfv) ⟨by simp [ic_length, li_length], rfl, rfl, by simp⟩ fun H2 r1 r2 r3 => ?_
          have t4' := (r3 L (by omega)).trans t4
          have t7' := (r3 hb (by omega)).trans t7
          have o2' := (r3 h2 (by omega)).trans o2
          have o3' := (r3 h3 (by omega)).trans o3
          have q2' := (r3 H.length (by omega)).trans q2
          simp only [AV.cells, setMany, List.set_cons_zero, li_set] at r2
          simp only [walkS, wl, rgets, retv, argsEnv, ev, cst, cst1, cstL, AEnv.get, AEnv.trim, envput, qstep, abin, aun, evs, evo, deref, qload, target, if_true, if_false, Nat.reduceEqDiff, reduceIte, Nat.reduceAdd, AV.cells, AV.isTuple, setMany, alen, aiaddr, afill, Nat.reduceLeDiff, Nat.reduceMul, Nat.reduceLT, afillE, List.replicate, t7, o1, o2, o3, q2, t7', r2, o2', o3', q2', lb_get hfu, lb_get hfv, lb_length, bc_length, li_length, ic_length, if_pos hu', if_pos hv']
          refine storeW rfl rfl o2' (lb_get hfv) ⟨by simp [bc_length, lb_length], rfl, rfl, by simp⟩ fun H3 x1 x2 x3 => ?_
          have t4'' := (x3 L (by omega)).trans t4'
          have t7'' := (x3 hb (by omega)).trans t7'
          have o1'' := (x3 h1 (by omega)).trans r2
          have o3'' := (x3 h3 (by omega)).trans o3'
          have q2'' := (x3 H.length (by omega)).trans q2'
          simp only [AV.cells, setMany, List.set_cons_zero, lb_set] at x2
          simp only [walkS, wl, rgets, retv, argsEnv, ev, cst, cst1, cstL, AEnv.get, AEnv.trim, envput, qstep, abin, aun, evs, evo, deref, qload, target, if_true, if_false, Nat.reduceEqDiff, reduceIte, Nat.reduceAdd, AV.cells, AV.isTuple, setMany, alen, aiaddr, afill, Nat.reduceLeDiff, Nat.reduceMul, Nat.reduceLT, afillE, List.replicate, t7', r2, o2', o3', q2', t7'', x2, o1'', o3'', q2'', lb_get hfu, lb_get hfv, lb_length, bc_length, li_length, ic_length, if_pos hu', if_pos hv']
          refine storeR rfl rfl o3'' (li_get hfv) ⟨by simp [ic_length, li_length], rfl, rfl, by simp⟩ fun H4 y1 y2 y3 => ?_
          have t4z := (y3 L (by omega)).trans t4''
          have t7z := (y3 hb (by omega)).trans t7''
          have o1z := (y3 h1 (by omega)).trans o1''
          have o2z := (y3 h2 (by omega)).trans x2
          have q2z := (y3 H.length (by omega)).trans q2''
          simp only [AV.cells, setMany, List.set_cons_zero, li_set] at y2
          simp only [walkS, wl, rgets, retv, argsEnv, ev, cst, cst1, cstL, AEnv.get, AEnv.trim, envput, qstep, abin, aun, evs, evo, deref, qload, target, if_true, if_false, Nat.reduceEqDiff, reduceIte, Nat.reduceAdd, AV.cells, AV.isTuple, setMany, alen, aiaddr, afill, Nat.reduceLeDiff, Nat.reduceMul, Nat.reduceLT, afillE, List.replicate, q2z]
          rw [wrap_id (by omega) (by omega)]
          have hbt : better p ((u : Int), (v : Int), w) = true := better_iff.2 ⟨hu, fun hvv => by simpa [fr, to] using hc⟩
          rw [hbt, if_pos rfl] at hps
          refine loop_end (k + 1) hlt (by omega) ?_ ?_
          · simp only [hps]; rfl
          · simp only [hps]
            exact ⟨t4z, t7z, o1z, o2z, y2, fun i hi => by rw [y3 i (by omega), x3 i (by omega), r3 i (by omega)]; exact kp i hi, by omega⟩
        · rw [wrap_id (by omega) (by omega)]
          have hbf : ¬ better p ((u : Int), (v : Int), w) = true := fun hbt => by
            have := (better_iff.1 hbt).2 (by simpa [to] using hv)
            simp [fr, to] at this hc
            omega
          rw [if_neg hbf] at hps
          refine loop_end (k + 1) hlt (by omega) ?_ ?_
          · simp only [hps]; rfl
          · simp only [hps]; exact ⟨t4, t7, o1, o2, o3, kp, l1⟩
      · skip
        rw [wrap_id (by omega) (by omega)]
        refine storeW rfl rfl o1 (li_get hfv) ⟨by simp [ic_length, li_length], rfl, rfl, by simp⟩ fun H2 r1 r2 r3 => ?_
        have t4' := (r3 L (by omega)).trans t4
        have t7' := (r3 hb (by omega)).trans t7
        have o2' := (r3 h2 (by omega)).trans o2
        have o3' := (r3 h3 (by omega)).trans o3
        have q2' := (r3 H.length (by omega)).trans q2
        simp only [AV.cells, setMany, List.set_cons_zero, li_set] at r2
        simp only [walkS, wl, rgets, retv, argsEnv, ev, cst, cst1, cstL, AEnv.get, AEnv.trim, envput, qstep, abin, aun, evs, evo, deref, qload, target, if_true, if_false, Nat.reduceEqDiff, reduceIte, Nat.reduceAdd, AV.cells, AV.isTuple, setMany, alen, aiaddr, afill, Nat.reduceLeDiff, Nat.reduceMul, Nat.reduceLT, afillE, List.replicate, t7, o1, o2, o3, q2, t7', r2, o2', o3', q2', lb_get hfu, lb_get hfv, lb_length, bc_length, li_length, ic_length, if_pos hu', if_pos hv']
        refine storeW rfl rfl o2' (lb_get hfv) ⟨by simp [bc_length, lb_length], rfl, rfl, by simp⟩ fun H3 x1 x2 x3 => ?_
        have t4'' := (x3 L (by omega)).trans t4'
        have t7'' := (x3 hb (by omega)).trans t7'
        have o1'' := (x3 h1 (by omega)).trans r2
        have o3'' := (x3 h3 (by omega)).trans o3'
        have q2'' := (x3 H.length (by omega)).trans q2'
        simp only [AV.cells, setMany, List.set_cons_zero, lb_set] at x2
        simp only [walkS, wl, rgets, retv, argsEnv, ev, cst, cst1, cstL, AEnv.get, AEnv.trim, envput, qstep, abin, aun, evs, evo, deref, qload, target, if_true, if_false, Nat.reduceEqDiff, reduceIte, Nat.reduceAdd, AV.cells, AV.isTuple, setMany, alen, aiaddr, afill, Nat.reduceLeDiff, Nat.reduceMul, Nat.reduceLT, afillE, List.replicate, t7', r2, o2', o3', q2', t7'', x2, o1'', o3'', q2'', lb_get hfu, lb_get hfv, lb_length, bc_length, li_length, ic_length, if_pos hu', if_pos hv']
        refine storeR rfl rfl o3'' (li_get hfv) ⟨by simp [ic_length, li_length], rfl, rfl, by simp⟩ fun H4 y1 y2 y3 => ?_
        have t4z := (y3 L (by omega)).trans t4''
        have t7z := (y3 hb (by omega)).trans t7''
        have o1z := (y3 h1 (by omega)).trans o1''
        have o2z := (y3 h2 (by omega)).trans x2
        have q2z := (y3 H.length (by omega)).trans q2''
        simp only [AV.cells, setMany, List.set_cons_zero, li_set] at y2
        simp only [walkS, wl, rgets, retv, argsEnv, ev, cst, cst1, cstL, AEnv.get, AEnv.trim, envput, qstep, abin, aun, evs, evo, deref, qload, target, if_true, if_false, Nat.reduceEqDiff, reduceIte, Nat.reduceAdd, AV.cells, AV.isTuple, setMany, alen, aiaddr, afill, Nat.reduceLeDiff, Nat.reduceMul, Nat.reduceLT, afillE, List.replicate, q2z]
        rw [wrap_id (by omega) (by omega)]
        have hbt : better p ((u : Int), (v : Int), w) = true := better_iff.2 ⟨hu, fun hvv => by simp only [to, Int.toNat_natCast] at hvv; rw [hvv] at hv; cases hv⟩
        rw [hbt, if_pos rfl] at hps
        refine loop_end (k + 1) hlt (by omega) ?_ ?_
        · simp only [hps]; rfl
        · simp only [hps]
          exact ⟨t4z, t7z, o1z, o2z, y2, fun i hi => by rw [y3 i (by omega), x3 i (by omega), r3 i (by omega)]; exact kp i hi, by omega⟩
    · rw [wrap_id (by omega) (by omega)]
      have hbf : ¬ better p ((u : Int), (v : Int), w) = true := fun hbt => by
        have := (better_iff.1 hbt).1
        simp [fr, hu] at this
      rw [if_neg hbf] at hps
      refine loop_end (k + 1) hlt (by omega) ?_ ?_
      · simp only [hps]; rfl
      · simp only [hps]; exact ⟨t4, t7, o1, o2, o3, kp, l1⟩
  · have hk' : k = ds.length := by simp at hb'; omega
    subst hk'
    have hled := led_part (led_iter (ds := ds) hl0 r) ds.length
    have hnode := chg_node hg.fit (s := iter ds s0 r) ds.length
    have e1 : (part ds (iter ds s0 r) ds.length).1 = iter ds s0 (r + 1) := rfl
    have e2 : (part ds (iter ds s0 r) ds.length).2 = chg ds s0 r := rfl
    rw [e1] at gf hled
    rw [e2] at hnode
    rw [e2]
    obtain ⟨f, rfl⟩ : ∃ g, f = g + 1 := ⟨f - 1, by omega⟩
    obtain ⟨t4, t7, o1, o2, o3, kp, l1⟩ := gf
    have fin : ∀ bad : Int, growR ds n s0 (f + 1) r = (iter ds s0 (r + 1), bad) → ∀ H1 : AHeap, H1.length = H.length → AHeap.obj H1 L = some ⟨88, 3, [[.own h1 n 0 n, .own h2 n 0 n, .own h3 n 0 n]]⟩ → (∀ q, q ≠ L → AHeap.obj H1 q = AHeap.obj H q) →
        Grown H0 n (growR ds n s0 (f + 1) r).1 (growR ds n s0 (f + 1) r).2 (.tuple [.agg [.own h1 n 0 n, .own h2 n 0 n, .own h3 n 0 n], I bad]) H1 := by
      intro bad hgr H1 g1 g2 g3
      rw [hgr]
      exact ⟨h1, h2, h3, rfl, by omega, by omega, by omega, (g3 h1 (by omega)).trans o1, (g3 h2 (by omega)).trans o2, (g3 h3 (by omega)).trans o3, by omega, fun i hi => by rw [g3 i (by omega)]; exact kp i hi⟩
    refine withBool_intro ?_ ?_ <;> intro hc <;> simp only [walkS, wl, rgets, retv, argsEnv, ev, cst, cst1, cstL, AEnv.get, AEnv.trim, envput, qstep, abin, aun, evs, evo, deref, qload, target, if_true, if_false, Nat.reduceEqDiff, reduceIte, Nat.reduceAdd, AV.cells, AV.isTuple, setMany, alen, aiaddr, afill, Nat.reduceLeDiff, Nat.reduceMul, Nat.reduceLT, afillE, List.replicate, t7]
    · have hneg : chg ds s0 r < 0 := by simpa using hc
      refine storeR rfl rfl t4 rfl ⟨rfl, rfl, rfl, by simp⟩ fun H1 g1 g2 g3 => ?_
      simp only [List.set_cons_zero, setMany, AV.cells] at g2
      simp only [walkS, wl, rgets, retv, argsEnv, ev, cst, cst1, cstL, AEnv.get, AEnv.trim, envput, qstep, abin, aun, evs, evo, deref, qload, target, if_true, if_false, Nat.reduceEqDiff, reduceIte, Nat.reduceAdd, AV.cells, AV.isTuple, setMany, alen, aiaddr, afill, Nat.reduceLeDiff, Nat.reduceMul, Nat.reduceLT, afillE, List.replicate, g2]
      exact fin (-1) (by unfold growR; rw [if_pos hneg]) H1 g1 g2 g3
    · have hneg : ¬ chg ds s0 r < 0 := by simpa using hc
      obtain ⟨c, hcn, hce⟩ := hnode.resolve_left (by omega)
      rw [hce]
      refine call_pure (looped_ok (s := iter ds s0 (r + 1)) (a := c) hg.fit (by have := hg.small; omega) (by have := hg.len; omega) (fun v _ => hled v) hcn) (frzL_of' (d := 4) (carL_cons (car_agg (carL_cons (car_ownN o1 (by rw [ic_length, li_length]) (ic_simple _)) (carL_cons (car_ownN o2 (by rw [bc_length, lb_length]) (bc_simple _)) (carL_cons (car_ownN o3 (by rw [ic_length, li_length]) (ic_simple _)) rfl)))) (carL_cons car_rowsF rfl))) ?_
      simp only [walkS, wl, rgets, retv, argsEnv, ev, cst, cst1, cstL, AEnv.get, AEnv.trim, envput, qstep, abin, aun, evs, evo, deref, qload, target, if_true, if_false, Nat.reduceEqDiff, reduceIte, Nat.reduceAdd, AV.cells, AV.isTuple, setMany, alen, aiaddr, afill, Nat.reduceLeDiff, Nat.reduceMul, Nat.reduceLT, afillE, List.replicate]
      refine withBool_intro ?_ ?_ <;> intro hbk <;> simp only [walkS, wl, rgets, retv, argsEnv, ev, cst, cst1, cstL, AEnv.get, AEnv.trim, envput, qstep, abin, aun, evs, evo, deref, qload, target, if_true, if_false, Nat.reduceEqDiff, reduceIte, Nat.reduceAdd, AV.cells, AV.isTuple, setMany, alen, aiaddr, afill, Nat.reduceLeDiff, Nat.reduceMul, Nat.reduceLT, afillE, List.replicate, t7]
      · have hpos : 0 ≤ bk ds (iter ds s0 (r + 1)) n c := by simpa using hbk
        refine storeR rfl rfl t4 rfl ⟨rfl, rfl, rfl, by simp⟩ fun H1 g1 g2 g3 => ?_
        simp only [List.set_cons_zero, setMany, AV.cells] at g2
        simp only [walkS, wl, rgets, retv, argsEnv, ev, cst, cst1, cstL, AEnv.get, AEnv.trim, envput, qstep, abin, aun, evs, evo, deref, qload, target, if_true, if_false, Nat.reduceEqDiff, reduceIte, Nat.reduceAdd, AV.cells, AV.isTuple, setMany, alen, aiaddr, afill, Nat.reduceLeDiff, Nat.reduceMul, Nat.reduceLT, afillE, List.replicate, g2]
        refine fin _ ?_ H1 g1 g2 g3
        unfold growR
        rw [if_neg hneg, hce, Int.toNat_natCast, if_pos hpos]
      · have hnb : ¬ 0 ≤ bk ds (iter ds s0 (r + 1)) n c := by simpa using hbk
        refine hJ H ?_ ?_ ⟨t4, t7, o1, o2, o3, kp, l1⟩ _
        · rcases Nat.eq_zero_or_pos f with e | e
          · have := late_loops (ds := ds) hl0 (n := n) (r := r) (by omega) (by omega)
            rw [hce, Int.toNat_natCast] at this
            exact absurd this hnb
          · omega
        · show growR ds n s0 (f + 1) r = growR ds n s0 f (r + 1)
          conv => lhs; unfold growR
          rw [if_neg hneg, hce, Int.toNat_natCast, if_neg hnb]
end Go.Proofs.Ytepnijjgdhldeaa
/- grow: what it hands back. -/
namespace Go.Proofs.Ytepnijjgdhldeaa
open Go.Awp
set_option linter.unusedSimpArgs false
set_option linter.unusedVariables false
set_option maxRecDepth 10000
theorem li_const {n : Nat} {c : Int} : List.replicate n [I c] = ic (li n fun _ => c) := by simp [ic, li, List.map_const']
theorem lb_const {n : Nat} {c : Bool} : List.replicate n [AV.bool c] = bc (lb n fun _ => c) := by simp [bc, lb, List.map_const']
def marksOf (from' : List Int) : Nat → Bool := fun x => from'.any (· == (x : Int))
theorem marks_step {l : List Int} {k : Nat} (h : k < l.length) {i : Nat} (hi : l[k] = (i : Int)) : upd (marksOf (l.take k)) i true = marksOf (l.take (k + 1)) := by
  funext x
  unfold marksOf
  rw [List.take_succ_eq_append_getElem h, List.any_append, hi]
  by_cases e : x = i
  · subst e; rw [upd_eq]; simp
  · rw [upd_ne e]
    have : ((i : Int) == (x : Int)) = false := by simp; omega
    simp [this]
theorem grow_at {t : TypeId} {v : AV} {n : Nat} {ds : List Df} (hg : Good n ds) (hG : IsGraph t v n ds) {l : List Int} {fa : AV} {H0 : AHeap} (hl : ∀ i, i ∈ l → 0 ≤ i ∧ i < n) (hll : l.length ≤ 1048576)
    (hfa : (∃ b, fa = .ro b (ic l)) ∨ ∃ q, fa = .own q l.length 0 l.length ∧ AHeap.obj H0 q = some ⟨3, 1, ic l⟩) :
    ACall Try.prog 101 [.iface t v, fa] H0 (Grown H0 n (growR ds n (startL (marksOf l)) n 0).1 (growR ds n (startL (marksOf l)) n 0).2) := by
  obtain ⟨fn, v', hn, hfn, hz⟩ := hG.nodes
  obtain ⟨fl, hm, hfl⟩ := hG.lines
  have hn1 := hg.pos
  have hn2 := hg.small
  refine ACall.intro text101 (by simp) ?_
  rw [ir101_eq]
  simp only [walkS, wl, rgets, retv, argsEnv, ev, cst, cst1, cstL, AEnv.get, AEnv.trim, envput, qstep, abin, aun, evs, evo, deref, qload, target, if_true, if_false, Nat.reduceEqDiff, reduceIte, Nat.reduceAdd, AV.cells, AV.isTuple, setMany, alen, aiaddr, afill, Nat.reduceLeDiff, Nat.reduceMul, Nat.reduceLT, afillE, List.replicate]
  refine awp_scope (σ := Nat × AEnv × Bool × Nat × Nat × Nat × Nat) (fun s => (4, .ptr H0.length 1 0 0) :: (6, .ro s.2.2.1 (rows ds)) :: (7, .ptr s.2.2.2.1 1 0 0) :: s.2.1)
    (fun s H => GF H0.length s.2.2.2.1 s.2.2.2.2.1 s.2.2.2.2.2.1 s.2.2.2.2.2.2 n H0 (iter ds (startL (marksOf l)) s.1) H)
    (fun s => s.1 < n ∧ Spots H0.length s.2.2.2.1 s.2.2.2.2.1 s.2.2.2.2.2.1 s.2.2.2.2.2.2 H0.length ∧ growR ds n (startL (marksOf l)) n 0 = growR ds n (startL (marksOf l)) (n - s.1) s.1) (fun s => n - s.1) ?_ ?_
  · simp only [walkS, wl, rgets, retv, argsEnv, ev, cst, cst1, cstL, AEnv.get, AEnv.trim, envput, qstep, abin, aun, evs, evo, deref, qload, target, if_true, if_false, Nat.reduceEqDiff, reduceIte, Nat.reduceAdd, AV.cells, AV.isTuple, setMany, alen, aiaddr, afill, Nat.reduceLeDiff, Nat.reduceMul, Nat.reduceLT, afillE, List.replicate]
    refine acall_invoke rfl rfl hm ((hfl _).mono fun x H1 hx => ?_)
    obtain ⟨⟨X, rfl⟩, b, rfl⟩ := hx
    have gt4 : AHeap.obj (H0 ++ [some ⟨88, 3, [[.nilSlice, .nilSlice, .nilSlice]]⟩] ++ X) H0.length = some ⟨88, 3, [[.nilSlice, .nilSlice, .nilSlice]]⟩ := obj_keep AHeap.obj_push_eq
    have gk : ∀ i, i < H0.length → AHeap.obj (H0 ++ [some ⟨88, 3, [[.nilSlice, .nilSlice, .nilSlice]]⟩] ++ X) i = AHeap.obj H0 i := fun i hi => by rw [AHeap.obj_push_lt (by simp; omega), AHeap.obj_push_lt hi]
    have gl : H0.length < (H0 ++ [some (⟨88, 3, [[.nilSlice, .nilSlice, .nilSlice]]⟩ : AObj)] ++ X).length := by simp
    generalize (H0 ++ [some ⟨88, 3, [[.nilSlice, .nilSlice, .nilSlice]]⟩] ++ X) = G at gt4 gk gl ⊢
    simp only [walkS, wl, rgets, retv, argsEnv, ev, cst, cst1, cstL, AEnv.get, AEnv.trim, envput, qstep, abin, aun, evs, evo, deref, qload, target, if_true, if_false, Nat.reduceEqDiff, reduceIte, Nat.reduceAdd, AV.cells, AV.isTuple, setMany, alen, aiaddr, afill, Nat.reduceLeDiff, Nat.reduceMul, Nat.reduceLT, afillE, List.replicate, hn]
    refine dcall_pure hfn (frzL_of (hz _)) ?_
    have c1 : (n : Int) ≤ n ∧ ((8 : Nat) : Int) * n ≤ 281474976710656 ∧ (n : Int) ≤ 9223372036854775807 := by omega
    have c2 : (n : Int) ≤ n ∧ ((1 : Nat) : Int) * n ≤ 281474976710656 ∧ (n : Int) ≤ 9223372036854775807 := by omega
    simp only [walkS, wl, rgets, retv, argsEnv, ev, cst, cst1, cstL, AEnv.get, AEnv.trim, envput, qstep, abin, aun, evs, evo, deref, qload, target, if_true, if_false, Nat.reduceEqDiff, reduceIte, Nat.reduceAdd, AV.cells, AV.isTuple, setMany, alen, aiaddr, afill, Nat.reduceLeDiff, Nat.reduceMul, Nat.reduceLT, afillE, List.replicate, hn, if_pos c1, if_pos c2, li_const, lb_const]
    refine dcall_pure hfn (frzL_of (hz _)) ?_
    simp only [walkS, wl, rgets, retv, argsEnv, ev, cst, cst1, cstL, AEnv.get, AEnv.trim, envput, qstep, abin, aun, evs, evo, deref, qload, target, if_true, if_false, Nat.reduceEqDiff, reduceIte, Nat.reduceAdd, AV.cells, AV.isTuple, setMany, alen, aiaddr, afill, Nat.reduceLeDiff, Nat.reduceMul, Nat.reduceLT, afillE, List.replicate, hn, if_pos c1, if_pos c2, li_const, lb_const]
    refine dcall_pure hfn (frzL_of (hz _)) ?_
    simp only [walkS, wl, rgets, retv, argsEnv, ev, cst, cst1, cstL, AEnv.get, AEnv.trim, envput, qstep, abin, aun, evs, evo, deref, qload, target, if_true, if_false, Nat.reduceEqDiff, reduceIte, Nat.reduceAdd, AV.cells, AV.isTuple, setMany, alen, aiaddr, afill, Nat.reduceLeDiff, Nat.reduceMul, Nat.reduceLT, afillE, List.replicate, hn, if_pos c1, if_pos c2, li_const, lb_const]
    refine dcall_new (repeat_ok hn1 hn2) (frzL_of (d := 4) (carL_cons (car_ownN (e := 3) (s := 1) (els := ic [-1]) (by rw [obj_app_add]; rfl) rfl (ic_simple _)) rfl)) ?_
    simp only [walkS, wl, rgets, retv, argsEnv, ev, cst, cst1, cstL, AEnv.get, AEnv.trim, envput, qstep, abin, aun, evs, evo, deref, qload, target, if_true, if_false, Nat.reduceEqDiff, reduceIte, Nat.reduceAdd, AV.cells, AV.isTuple, setMany, alen, aiaddr, afill, Nat.reduceLeDiff, Nat.reduceMul, Nat.reduceLT, afillE, List.replicate, ic_length, li_length, bc_length, lb_length]
    refine storeR rfl rfl (by rw [obj_app_add]; rfl) rfl ⟨rfl, rfl, rfl, by simp⟩ fun H2 y1 y2 y3 => ?_
    simp only [AV.cells, setMany, List.set_cons_zero] at y2
    have gf0 : GF H0.length (G.length + 4) G.length (G.length + 1) (G.length + 3) n H0 (startL (marksOf (l.take 0))) H2 := by
      refine ⟨?_, y2, ?_, ?_, ?_, fun i hi => ?_, by rw [y1]; simp⟩
      · rw [y3 _ (by omega), AHeap.obj_push_lt gl]; exact gt4
      · rw [y3 _ (by omega), obj_app]; rfl
      · rw [y3 _ (by omega), obj_app_add]; rfl
      · rw [y3 _ (by omega), obj_app_add]; rfl
      · rw [y3 _ (by omega), AHeap.obj_push_lt (by omega)]; exact gk i hi
    have sp : Spots H0.length (G.length + 4) G.length (G.length + 1) (G.length + 3) H0.length := ⟨Nat.le_refl _, gl, by omega, by omega, by omega⟩
    rcases hfa with ⟨fb, rfl⟩ | ⟨q, rfl, hq⟩
    · simp only [walkS, wl, rgets, retv, argsEnv, ev, cst, cst1, cstL, AEnv.get, AEnv.trim, envput, qstep, abin, aun, evs, evo, deref, qload, target, if_true, if_false, Nat.reduceEqDiff, reduceIte, Nat.reduceAdd, AV.cells, AV.isTuple, setMany, alen, aiaddr, afill, Nat.reduceLeDiff, Nat.reduceMul, Nat.reduceLT, afillE, List.replicate, ic_length]
      refine awp_loop (σ := Nat) (fun k => [(4, .ptr H0.length 1 0 0), (6, .ro b (rows ds)), (7, .ptr (G.length + 4) 1 0 0), (27, .ro fb (ic l)), (28, I l.length), (29, I k)])
        (fun k H => GF H0.length (G.length + 4) G.length (G.length + 1) (G.length + 3) n H0 (startL (marksOf (l.take k))) H) (fun k => k ≤ l.length) (fun k => l.length - k) 0 (Nat.zero_le _) rfl gf0 ?_
      rintro k H hk gf
      simp only [walkS, wl, rgets, retv, argsEnv, ev, cst, cst1, cstL, AEnv.get, AEnv.trim, envput, qstep, abin, aun, evs, evo, deref, qload, target, if_true, if_false, Nat.reduceEqDiff, reduceIte, Nat.reduceAdd, AV.cells, AV.isTuple, setMany, alen, aiaddr, afill, Nat.reduceLeDiff, Nat.reduceMul, Nat.reduceLT, afillE, List.replicate]
      refine withBool_intro ?_ ?_ <;> intro hb <;> simp only [walkS, wl, rgets, retv, argsEnv, ev, cst, cst1, cstL, AEnv.get, AEnv.trim, envput, qstep, abin, aun, evs, evo, deref, qload, target, if_true, if_false, Nat.reduceEqDiff, reduceIte, Nat.reduceAdd, AV.cells, AV.isTuple, setMany, alen, aiaddr, afill, Nat.reduceLeDiff, Nat.reduceMul, Nat.reduceLT, afillE, List.replicate]
      · have hlt : k < l.length := by simpa using hb
        obtain ⟨i, hi⟩ : ∃ i : Nat, l[k] = (i : Int) := ⟨l[k].toNat, (Int.toNat_of_nonneg (hl _ (List.getElem_mem hlt)).1).symm⟩
        have hin : i < n := by have := (hl _ (List.getElem_mem hlt)).2; omega
        obtain ⟨t4, t7, o1, o2, o3, kp, l1⟩ := gf
        simp only [walkS, wl, rgets, retv, argsEnv, ev, cst, cst1, cstL, AEnv.get, AEnv.trim, envput, qstep, abin, aun, evs, evo, deref, qload, target, if_true, if_false, Nat.reduceEqDiff, reduceIte, Nat.reduceAdd, AV.cells, AV.isTuple, setMany, alen, aiaddr, afill, Nat.reduceLeDiff, Nat.reduceMul, Nat.reduceLT, afillE, List.replicate, t7, o2, ic_get hlt, hi, ic_length, bc_length, lb_length, if_pos (show (k : Int) < l.length by omega), if_pos (show (i : Int) < n by omega)]
        refine storeR rfl rfl o2 (lb_get hin) ⟨by simp [bc_length, lb_length], rfl, rfl, by simp⟩ fun H3 y1 y2 y3 => ?_
        simp only [AV.cells, setMany, List.set_cons_zero, lb_set] at y2
        simp only [walkS, wl, rgets, retv, argsEnv, ev, cst, cst1, cstL, AEnv.get, AEnv.trim, envput, qstep, abin, aun, evs, evo, deref, qload, target, if_true, if_false, Nat.reduceEqDiff, reduceIte, Nat.reduceAdd, AV.cells, AV.isTuple, setMany, alen, aiaddr, afill, Nat.reduceLeDiff, Nat.reduceMul, Nat.reduceLT, afillE, List.replicate]
        rw [wrap_id (by omega) (by omega)]
        refine loop_end (k + 1) hlt (by omega) rfl ⟨(y3 _ (by omega)).trans t4, (y3 _ (by omega)).trans t7, (y3 _ (by omega)).trans o1, ?_, (y3 _ (by omega)).trans o3, fun j hj => (y3 j (by omega)).trans (kp j hj), by omega⟩
        rw [y2]
        show some (⟨4, 1, bc (lb n (upd (marksOf (l.take k)) i true))⟩ : AObj) = some ⟨4, 1, bc (lb n (marksOf (l.take (k + 1))))⟩
        rw [marks_step hlt hi]
      · have hk' : k = l.length := by simp at hb; omega
        subst hk'
        rw [List.take_length] at gf
        refine grow_rest (b := b) hg (fun _ => rfl) (fun _ => rfl) sp (show 0 + n = n by omega) hn1 gf (fun H' p1 p2 p3 E' => ?_) _
        exact ⟨(1, E', b, G.length + 4, G.length, G.length + 1, G.length + 3), ⟨by omega, sp, p2⟩, rfl, p3⟩
    · have oq0 : AHeap.obj H2 q = some ⟨3, 1, ic l⟩ := (gf0.keep q (AHeap.obj_lt hq)).trans hq
      simp only [walkS, wl, rgets, retv, argsEnv, ev, cst, cst1, cstL, AEnv.get, AEnv.trim, envput, qstep, abin, aun, evs, evo, deref, qload, target, if_true, if_false, Nat.reduceEqDiff, reduceIte, Nat.reduceAdd, AV.cells, AV.isTuple, setMany, alen, aiaddr, afill, Nat.reduceLeDiff, Nat.reduceMul, Nat.reduceLT, afillE, List.replicate, oq0, ic_length]
      refine awp_loop (σ := Nat) (fun k => [(4, .ptr H0.length 1 0 0), (6, .ro b (rows ds)), (7, .ptr (G.length + 4) 1 0 0), (27, .own q l.length 0 l.length), (28, I l.length), (29, I k)])
        (fun k H => GF H0.length (G.length + 4) G.length (G.length + 1) (G.length + 3) n H0 (startL (marksOf (l.take k))) H) (fun k => k ≤ l.length) (fun k => l.length - k) 0 (Nat.zero_le _) rfl gf0 ?_
      rintro k H hk gf
      simp only [walkS, wl, rgets, retv, argsEnv, ev, cst, cst1, cstL, AEnv.get, AEnv.trim, envput, qstep, abin, aun, evs, evo, deref, qload, target, if_true, if_false, Nat.reduceEqDiff, reduceIte, Nat.reduceAdd, AV.cells, AV.isTuple, setMany, alen, aiaddr, afill, Nat.reduceLeDiff, Nat.reduceMul, Nat.reduceLT, afillE, List.replicate]
      refine withBool_intro ?_ ?_ <;> intro hb <;> simp only [walkS, wl, rgets, retv, argsEnv, ev, cst, cst1, cstL, AEnv.get, AEnv.trim, envput, qstep, abin, aun, evs, evo, deref, qload, target, if_true, if_false, Nat.reduceEqDiff, reduceIte, Nat.reduceAdd, AV.cells, AV.isTuple, setMany, alen, aiaddr, afill, Nat.reduceLeDiff, Nat.reduceMul, Nat.reduceLT, afillE, List.replicate]
      · have hlt : k < l.length := by simpa using hb
        obtain ⟨i, hi⟩ : ∃ i : Nat, l[k] = (i : Int) := ⟨l[k].toNat, (Int.toNat_of_nonneg (hl _ (List.getElem_mem hlt)).1).symm⟩
        have hin : i < n := by have := (hl _ (List.getElem_mem hlt)).2; omega
        obtain ⟨t4, t7, o1, o2, o3, kp, l1⟩ := gf
        have oq := (kp q (AHeap.obj_lt hq)).trans hq
        simp only [walkS, wl, rgets, retv, argsEnv, ev, cst, cst1, cstL, AEnv.get, AEnv.trim, envput, qstep, abin, aun, evs, evo, deref, qload, target, if_true, if_false, Nat.reduceEqDiff, reduceIte, Nat.reduceAdd, AV.cells, AV.isTuple, setMany, alen, aiaddr, afill, Nat.reduceLeDiff, Nat.reduceMul, Nat.reduceLT, afillE, List.replicate, t7, o2, ic_get hlt, hi, ic_length, bc_length, lb_length, if_pos (show (k : Int) < l.length by omega), if_pos (show (i : Int) < n by omega), oq]
        refine storeR rfl rfl o2 (lb_get hin) ⟨by simp [bc_length, lb_length], rfl, rfl, by simp⟩ fun H3 y1 y2 y3 => ?_
        simp only [AV.cells, setMany, List.set_cons_zero, lb_set] at y2
        simp only [walkS, wl, rgets, retv, argsEnv, ev, cst, cst1, cstL, AEnv.get, AEnv.trim, envput, qstep, abin, aun, evs, evo, deref, qload, target, if_true, if_false, Nat.reduceEqDiff, reduceIte, Nat.reduceAdd, AV.cells, AV.isTuple, setMany, alen, aiaddr, afill, Nat.reduceLeDiff, Nat.reduceMul, Nat.reduceLT, afillE, List.replicate]
        rw [wrap_id (by omega) (by omega)]
        refine loop_end (k + 1) hlt (by omega) rfl ⟨(y3 _ (by omega)).trans t4, (y3 _ (by omega)).trans t7, (y3 _ (by omega)).trans o1, ?_, (y3 _ (by omega)).trans o3, fun j hj => (y3 j (by omega)).trans (kp j hj), by omega⟩
        rw [y2]
        show some (⟨4, 1, bc (lb n (upd (marksOf (l.take k)) i true))⟩ : AObj) = some ⟨4, 1, bc (lb n (marksOf (l.take (k + 1))))⟩
        rw [marks_step hlt hi]
      · have hk' : k = l.length := by simp at hb; omega
        subst hk'
        rw [List.take_length] at gf
        refine grow_rest (b := b) hg (fun _ => rfl) (fun _ => rfl) sp (show 0 + n = n by omega) hn1 gf (fun H' p1 p2 p3 E' => ?_) _
        exact ⟨(1, E', b, G.length + 4, G.length, G.length + 1, G.length + 3), ⟨by omega, sp, p2⟩, rfl, p3⟩
  · rintro ⟨r, E, b, hb, h1, h2, h3⟩ H ⟨hr, sp, hgr⟩ gf
    simp only at hr sp hgr gf
    rw [hgr]
    refine grow_rest (b := b) hg (fun _ => rfl) (fun _ => rfl) sp (show r + (n - r) = n by omega) (by omega) gf (fun H' p1 p2 p3 E' => ?_) E
    exact loop_end (r + 1, E', b, hb, h1, h2, h3) ⟨by omega, sp, by simp only; rw [p2]; rfl⟩ (by simp only; omega) rfl p3
end Go.Proofs.Ytepnijjgdhldeaa
