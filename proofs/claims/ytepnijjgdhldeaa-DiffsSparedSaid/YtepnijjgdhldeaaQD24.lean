/- Contracts: a list without one of its differences. -/
import Derived.Test.YtepnijjgdhldeaaQT56
import Derived.Test.YtepnijjgdhldeaaQD20
namespace Go.Proofs.Ytepnijjgdhldeaa
open Go.Awp
set_option linter.unusedSimpArgs false
set_option linter.unusedVariables false
set_option maxRecDepth 10000
theorem abnds_h {len a b : Nat} (h2 : b ≤ len) (h1 : a ≤ b) : abnds len (some (I a)) (some (I b)) = some (a, b) := by
  simp [abnds, abnd1, h1, h2]
theorem abnds_lo {len a : Nat} (h1 : a ≤ len) : abnds len (some (I a)) none = some (a, len) := by
  simp [abnds, abnd1, h1]
theorem abnds_hi {len b : Nat} (h1 : b ≤ len) : abnds len none (some (I b)) = some (0, b) := by
  simp [abnds, abnd1, h1]
theorem aslice3_own {H : AHeap} {h n e s a b : Nat} {els : List (List AV)} (ho : AHeap.obj H h = some ⟨e, s, els⟩) (hn : els.length = n) (h1 : a ≤ b) (h2 : b ≤ n) : aslice3 H s (.own h n 0 n) (some (I a)) (some (I b)) (some (I n)) = some .junk := by
  unfold aslice3
  simp only [ho]
  rw [if_pos ⟨hn.symm, trivial⟩]
  have e1 : abndX n none (some (I n)) = some (0, n) := abnds_hi (Nat.le_refl n)
  have e2 : abndX n (some (I a)) (some (I b)) = some (a, b) := abnds_h h2 h1
  rw [e1]
  simp only [e2]
theorem aslice_own {H : AHeap} {h n e s l r len : Nat} {els : List (List AV)} {lo hi : Option AV} (ho : AHeap.obj H h = some ⟨e, s, els⟩) (hn : els.length = n) (hb : abnds len lo hi = some (l, r)) : aslice H s (.own h n 0 len) lo hi = some (.own h n l (r - l)) := by
  unfold aslice
  simp only [ho]
  rw [if_pos ⟨hn.symm, trivial⟩]
  simp only [hb, Nat.zero_add]
theorem aslice_own2 {H : AHeap} {h n e s l r len : Nat} {els : List (List AV)} {lo hi : Option AV} (ho : AHeap.obj H h = some ⟨e, s, els⟩) (hn : els.length = n) (hs : 0 < s) (h0 : abnds len lo hi = none) (hb : abndX n lo hi = some (l, r)) : aslice H s (.own h n 0 len) lo hi = some (.own h n l (r - l)) := by
  unfold aslice
  simp only [ho]
  rw [if_pos ⟨hn.symm, trivial⟩]
  simp only [h0, if_pos hs, Nat.sub_zero, hb, Nat.zero_add]
theorem abnds_far {len a b : Nat} (h : len < b) : abnds len (some (I a)) (some (I b)) = none := by
  have : ¬ ((b : Int) ≤ len) := by omega
  simp [abnds, abnd1, this, h]
theorem asrc_part {H : AHeap} {h n i len e s : Nat} {els : List (List AV)} (ho : AHeap.obj H h = some ⟨e, s, els⟩) (hn : els.length = n) : asrc H s (.own h n i len) = some ((els.drop i).take len) := by
  simp [asrc, ho, hn]
theorem app_inR {env : AEnv} {x y : Operand} {H : AHeap} {h n len e s bytes : Nat} {els rs : List (List AV)} {src : AV} {K : AV → AHeap → Prop} (hx : ev env x = some (.own h n 0 len)) (hy : ev env y = some src) (hsrc : asrc H s src = some rs) (ho : AHeap.obj H h = some ⟨e, s, els⟩)
    (hn : els.length = n) (hs : 0 < s) (hlt : len < n) (hle : len + rs.length ≤ n)
    (hk : ∀ H' : AHeap, H'.length = H.length → AHeap.obj H' h = some ⟨e, s, els.take len ++ rs ++ els.drop (len + rs.length)⟩ → (∀ q, q ≠ h → AHeap.obj H' q = AHeap.obj H q) → K (.own h n 0 (len + rs.length)) H') :
    withRes (sstep (.append e s bytes x y) env H) K := by
  have h1 : sstep (.append e s bytes x y) env H = some (some (.own h n 0 (len + rs.length)), H.set h (some ⟨e, s, els.take len ++ rs ++ els.drop (len + rs.length)⟩)) := by
    simp only [sstep, hx, hy, hsrc, ho]
    rw [if_neg (by omega), if_pos ⟨hn.symm, trivial, trivial, trivial, hs, hle⟩]
  rw [h1]
  exact hk _ (by simp) (AHeap.obj_set_eq (AHeap.obj_lt ho)) fun q hq => AHeap.obj_set_ne (Ne.symm hq)
theorem clearR {env : AEnv} {x : Operand} {H : AHeap} {h n i len e s : Nat} {els : List (List AV)} {z : List AV} {K : AV → AHeap → Prop} (hx : ev env x = some (.own h n i len)) (ho : AHeap.obj H h = some ⟨e, s, els⟩)
    (hn : els.length = n) (hle : i + len ≤ n)
    (hk : ∀ H' : AHeap, H'.length = H.length → AHeap.obj H' h = some ⟨e, s, els.take i ++ List.replicate len z ++ els.drop (i + len)⟩ → (∀ q, q ≠ h → AHeap.obj H' q = AHeap.obj H q) → K (.tuple []) H') :
    withRes (sstep (.clear s z x) env H) K := by
  have h1 : sstep (.clear s z x) env H = some (some (.tuple []), H.set h (some ⟨e, s, els.take i ++ List.replicate len z ++ els.drop (i + len)⟩)) := by
    simp only [sstep, hx, ho]
    rw [if_pos ⟨hn.symm, trivial, hle⟩]
  rw [h1]
  exact hk _ (by simp) (AHeap.obj_set_eq (AHeap.obj_lt ho)) fun q hq => AHeap.obj_set_ne (Ne.symm hq)
theorem Delete_at {ds : List Df} {k h : Nat} {H0 : AHeap} (hk : k < ds.length) (hl : ds.length ≤ 4096) (ho : AHeap.obj H0 h = some ⟨39, 3, rows ds⟩) : ACall Try.prog 56 [.own h ds.length 0 ds.length, I k, I (k + 1)] H0 fun x H =>
    H.length = H0.length ∧ (∀ i, i ≠ h → AHeap.obj H i = AHeap.obj H0 i) ∧ x = .own h ds.length 0 (ds.length - 1) ∧ AHeap.obj H h = some ⟨39, 3, rows (ds.eraseIdx k) ++ [[I 0, I 0, I 0]]⟩ := by
  refine ACall.intro text56 (by simp) ?_
  unfold ir56
  have e1 : I ((k : Int) + 1) = I ((k + 1 : Nat) : Int) := by simp; try omega
  have hL := rows_length ds
  simp only [walkS, wl, rgets, retv, argsEnv, ev, cst, cst1, cstL, AEnv.get, AEnv.trim, envput, qstep, abin, aun, evs, evo, deref, qload, target, if_true, if_false, Nat.reduceEqDiff, reduceIte, Nat.reduceAdd, AV.cells, AV.isTuple, setMany, alen, aiaddr, afill, Nat.reduceLeDiff, Nat.reduceMul, Nat.reduceLT, afillE, List.replicate, e1, ho, rows_length, aslice3_own ho hL (show k ≤ k + 1 by omega) (show k + 1 ≤ ds.length by omega)]
  have hne : ((k : Int) == ((k + 1 : Nat) : Int)) = false := by simp; omega
  simp only [walkS, wl, rgets, retv, argsEnv, ev, cst, cst1, cstL, AEnv.get, AEnv.trim, envput, qstep, abin, aun, evs, evo, deref, qload, target, if_true, if_false, Nat.reduceEqDiff, reduceIte, Nat.reduceAdd, AV.cells, AV.isTuple, setMany, alen, aiaddr, afill, Nat.reduceLeDiff, Nat.reduceMul, Nat.reduceLT, afillE, List.replicate, hne, ho, hL, aslice_own ho hL (abnds_hi (show k ≤ ds.length by omega)), aslice_own ho hL (abnds_lo (show k + 1 ≤ ds.length by omega))]
  have hp := asrc_part (i := k + 1) (len := ds.length - (k + 1)) ho hL
  have hrs : ((rows ds).drop (k + 1)).take (ds.length - (k + 1)) = (rows ds).drop (k + 1) := List.take_of_length_le (by simp [hL])
  rw [hrs] at hp
  have hlen : ((rows ds).drop (k + 1)).length = ds.length - (k + 1) := by simp [hL]
  refine app_inR rfl rfl hp ho hL (by omega) (by omega) (by rw [hlen]; omega) fun H1 y1 y2 y3 => ?_
  rw [hlen, show k - 0 + (ds.length - (k + 1)) = ds.length - 1 by omega] at *
  rw [show k - 0 = k by omega] at y2
  have e2 : (rows ds).take k ++ (rows ds).drop (k + 1) = rows (ds.eraseIdx k) := by
    simp only [rows, ← List.map_take, ← List.map_drop, ← List.map_append]
    rw [List.eraseIdx_eq_take_drop_succ]
  rw [e2] at y2
  have hL1 : (rows (ds.eraseIdx k)).length = ds.length - 1 := by rw [rows_length, List.length_eraseIdx_of_lt hk]
  have hL2 : (rows (ds.eraseIdx k) ++ (rows ds).drop (ds.length - 1)).length = ds.length := by simp only [List.length_append, hL1, List.length_drop, hL]; omega
  simp only [walkS, wl, rgets, retv, argsEnv, ev, cst, cst1, cstL, AEnv.get, AEnv.trim, envput, qstep, abin, aun, evs, evo, deref, qload, target, if_true, if_false, Nat.reduceEqDiff, reduceIte, Nat.reduceAdd, AV.cells, AV.isTuple, setMany, alen, aiaddr, afill, Nat.reduceLeDiff, Nat.reduceMul, Nat.reduceLT, afillE, List.replicate, y2, hL2]
  have hfar := abnds_far (a := ds.length - 1) (show ds.length - 1 < ds.length by omega)
  have hX : abndX ds.length (some (I ((ds.length - 1 : Nat) : Int))) (some (I (ds.length : Int))) = some (ds.length - 1, ds.length) := abnds_h (Nat.le_refl _) (by omega)
  simp only [walkS, wl, rgets, retv, argsEnv, ev, cst, cst1, cstL, AEnv.get, AEnv.trim, envput, qstep, abin, aun, evs, evo, deref, qload, target, if_true, if_false, Nat.reduceEqDiff, reduceIte, Nat.reduceAdd, AV.cells, AV.isTuple, setMany, alen, aiaddr, afill, Nat.reduceLeDiff, Nat.reduceMul, Nat.reduceLT, afillE, List.replicate, aslice_own2 y2 hL2 (by omega) hfar hX]
  refine clearR rfl y2 hL2 (by omega) fun H2 z1 z2 z3 => ?_
  rw [show ds.length - (ds.length - 1) = 1 by omega, show ds.length - 1 + 1 = ds.length by omega, List.drop_eq_nil_of_le (Nat.le_of_eq hL2), List.append_nil, List.take_append_of_le_length (by omega), List.take_of_length_le (by omega)] at z2
  simp only [walkS, wl, rgets, retv, argsEnv, ev, cst, cst1, cstL, AEnv.get, AEnv.trim, envput, qstep, abin, aun, evs, evo, deref, qload, target, if_true, if_false, Nat.reduceEqDiff, reduceIte, Nat.reduceAdd, AV.cells, AV.isTuple, setMany, alen, aiaddr, afill, Nat.reduceLeDiff, Nat.reduceMul, Nat.reduceLT, afillE, List.replicate, z2]
  exact ⟨by omega, fun i hi => (z3 i hi).trans (y3 i hi)⟩
end Go.Proofs.Ytepnijjgdhldeaa
