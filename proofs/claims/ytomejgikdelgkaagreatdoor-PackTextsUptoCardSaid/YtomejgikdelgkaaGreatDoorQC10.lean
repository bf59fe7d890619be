/- Contracts: Ready, Yield, Enough, Less. -/
import Derived.Test.YtomejgikdelgkaaGreatDoorQC9
set_option linter.unusedVariables false
set_option linter.unusedSimpArgs false
set_option linter.unusedSectionVars false
namespace Go.Proofs.YtomejgikdelgkaaGreatDoor
open Go.Awp Go.Snow
set_option linter.unusedSimpArgs false
set_option linter.unusedVariables false
set_option linter.unusedSectionVars false
set_option maxRecDepth 10000
theorem roomL_app (a b : List Lay) : roomL (a ++ b) = roomL a + roomL b := by
  induction a with
  | nil => simp [roomL]
  | cons x r ih => simp only [List.cons_append, roomL, ih]; omega
theorem roomL_take {ls : List Lay} {k : Nat} (h : k < ls.length) : roomL (ls.take (k + 1)) = roomL (ls.take k) + room ls[k] := by
  rw [List.take_succ_eq_append_getElem h, roomL_app]; simp [roomL]
theorem room_small {l : Lay} (h : right l = true) : 0 ≤ room l ∧ room l ≤ 1000000 := by
  have := right_iff.1 h
  unfold room; omega
theorem roomL_small {ls : List Lay} (h : ∀ l, l ∈ ls → right l = true) : ∀ k, k ≤ ls.length → 0 ≤ roomL (ls.take k) ∧ roomL (ls.take k) ≤ 1000000 * k
  | 0, _ => by simp [roomL]
  | k + 1, hk => by
    have := roomL_small h k (by omega)
    have := room_small (h ls[k] (List.getElem_mem _))
    rw [roomL_take (by omega)]
    omega
def readyV (ls : List Lay) : Int × Int := if okP ls then (roomL ls, 0) else (0, 20)
theorem Ready_ok (ls : List Lay) : PCall Tryz.prog 17 [.agg [.ro false (rows ls)]] (.tuple [I (readyV ls).1, I (readyV ls).2]) := by
  refine PCall.intro text17 (by simp) ?_
  unfold ir17
  simp only [walk, wl, rgets, retv, argsEnv, ev, cst, cst1, cstL, AEnv.get, AEnv.trim, envput, qstep, abin, aun, evs, evo, deref, qload, target, if_true, if_false, Nat.reduceEqDiff, reduceIte, Nat.reduceAdd, AV.cells, AV.isTuple, setMany, alen, aiaddr, afill, Nat.reduceLeDiff, Nat.reduceMul, Nat.reduceLT, afillE, List.replicate]
  refine call_pure (Check_ok ls) (frzL_of' (d := 4) car_pkL) ?_
  simp only [walk, wl, rgets, retv, argsEnv, ev, cst, cst1, cstL, AEnv.get, AEnv.trim, envput, qstep, abin, aun, evs, evo, deref, qload, target, if_true, if_false, Nat.reduceEqDiff, reduceIte, Nat.reduceAdd, AV.cells, AV.isTuple, setMany, alen, aiaddr, afill, Nat.reduceLeDiff, Nat.reduceMul, Nat.reduceLT, afillE, List.replicate]
  refine withBool_intro ?_ ?_ <;> intro h <;> simp only [walk, wl, rgets, retv, argsEnv, ev, cst, cst1, cstL, AEnv.get, AEnv.trim, envput, qstep, abin, aun, evs, evo, deref, qload, target, if_true, if_false, Nat.reduceEqDiff, reduceIte, Nat.reduceAdd, AV.cells, AV.isTuple, setMany, alen, aiaddr, afill, Nat.reduceLeDiff, Nat.reduceMul, Nat.reduceLT, afillE, List.replicate]
  · obtain ⟨h1, h2⟩ := chk_ne (ls := ls) (by simpa using h)
    simp only [h2, readyV, h1, Bool.false_eq_true, if_false]; exact out_two out_int out_int
  · have h1 := chk_zero (ls := ls) (by simpa using h)
    obtain ⟨hlen, hR, -, -⟩ := okP_iff.1 h1
    simp only [walk, wl, rgets, retv, argsEnv, ev, cst, cst1, cstL, AEnv.get, AEnv.trim, envput, qstep, abin, aun, evs, evo, deref, qload, target, if_true, if_false, Nat.reduceEqDiff, reduceIte, Nat.reduceAdd, AV.cells, AV.isTuple, setMany, alen, aiaddr, afill, Nat.reduceLeDiff, Nat.reduceMul, Nat.reduceLT, afillE, List.replicate, rows_length]
    refine awp_loop (σ := Nat) (fun k => [(5, I (roomL (ls.take k))), (14, .ro false (rows ls)), (15, I ls.length), (16, I k)]) (fun _ H => True) (fun k => k ≤ ls.length) (fun k => ls.length - k) 0 (Nat.zero_le _) rfl trivial ?_
    rintro k H hk -
    simp only [walk, wl, rgets, retv, argsEnv, ev, cst, cst1, cstL, AEnv.get, AEnv.trim, envput, qstep, abin, aun, evs, evo, deref, qload, target, if_true, if_false, Nat.reduceEqDiff, reduceIte, Nat.reduceAdd, AV.cells, AV.isTuple, setMany, alen, aiaddr, afill, Nat.reduceLeDiff, Nat.reduceMul, Nat.reduceLT, afillE, List.replicate]
    refine withBool_intro ?_ ?_ <;> intro hb <;> simp only [walk, wl, rgets, retv, argsEnv, ev, cst, cst1, cstL, AEnv.get, AEnv.trim, envput, qstep, abin, aun, evs, evo, deref, qload, target, if_true, if_false, Nat.reduceEqDiff, reduceIte, Nat.reduceAdd, AV.cells, AV.isTuple, setMany, alen, aiaddr, afill, Nat.reduceLeDiff, Nat.reduceMul, Nat.reduceLT, afillE, List.replicate]
    · have hlt : k < ls.length := by simpa using hb
      have h2 := roomL_small hR k hk
      have h3 := right_iff.1 (hR ls[k] (List.getElem_mem hlt))
      have h4 := room_small (hR ls[k] (List.getElem_mem hlt))
      have e1 : IntKind.i64.wrap (ls[k].2.2 - ls[k].2.1) = ls[k].2.2 - ls[k].2.1 := wrap_id (by omega) (by omega)
      have e2 : IntKind.i64.wrap (roomL (ls.take k) + (ls[k].2.2 - ls[k].2.1)) = roomL (ls.take k) + (ls[k].2.2 - ls[k].2.1) := wrap_id (by omega) (by omega)
      have e3 : IntKind.i64.wrap (ls[k].1 + ls[k].2.2) = ls[k].1 + ls[k].2.2 := wrap_id (by omega) (by omega)
      have e5 : IntKind.i64.wrap ((k : Int) + 1) = ((k + 1 : Nat) : Int) := by rw [wrap_id (by omega) (by omega)]; simp
      simp only [walk, wl, rgets, retv, argsEnv, ev, cst, cst1, cstL, AEnv.get, AEnv.trim, envput, qstep, abin, aun, evs, evo, deref, qload, target, if_true, if_false, Nat.reduceEqDiff, reduceIte, Nat.reduceAdd, AV.cells, AV.isTuple, setMany, alen, aiaddr, afill, Nat.reduceLeDiff, Nat.reduceMul, Nat.reduceLT, afillE, List.replicate, rows_get hlt, e1, e2, e3]
      refine call_pure (hold_ok (l := (ls[k].1 + ls[k].2.2, ls[k].2.1, ls[k].2.2)) (by simp only; omega) (by simp only; omega)) (frzL_of' (d := 4) rfl) ?_
      have e4 : IntKind.i64.wrap (roomL (ls.take k) + (ls[k].2.2 - ls[k].2.1) + (ls[k].1 + ls[k].2.2) / 20) = roomL (ls.take (k + 1)) := by
        rw [wrap_id (by omega) (by omega), roomL_take hlt]; unfold room; omega
      simp only [walk, wl, rgets, retv, argsEnv, ev, cst, cst1, cstL, AEnv.get, AEnv.trim, envput, qstep, abin, aun, evs, evo, deref, qload, target, if_true, if_false, Nat.reduceEqDiff, reduceIte, Nat.reduceAdd, AV.cells, AV.isTuple, setMany, alen, aiaddr, afill, Nat.reduceLeDiff, Nat.reduceMul, Nat.reduceLT, afillE, List.replicate, e4, e5]
      refine loop_end (k + 1) hlt (by omega) rfl trivial
    · have hk' : k = ls.length := by simp at hb; omega
      subst hk'
      rw [List.take_length]
      simp only [readyV, h1, if_true]; exact out_two out_int out_int
def yieldV (ls : List Lay) (m : Int) : Int × Int := if okP ls then (if 0 ≤ m ∧ m ≤ 65536 then ((times melt1 m.toNat ls).2, 0) else (0, 1)) else (0, 20)
def search (ls : List Lay) (out : Int) : Nat → Nat → Int × Bool
  | 0, _ => (0, false)
  | f + 1, n => if out ≤ (times melt1 n ls).2 then (n, true) else search ls out f (n + 1)
def enoughV (ls : List Lay) (out : Int) : Int × Bool × Int := if okP ls then (if 0 ≤ out ∧ out ≤ 65536 then ((search ls out 65537 0).1, (search ls out 65537 0).2, 0) else (0, false, 1)) else (0, false, 20)
def bothV (p q : List Lay) : Int := if okP p then chk q else 20
/-- Layers within others, from the top. -/
def leL (a b : Lay) : Bool := decide (a.1 ≤ b.1 ∧ a.2.1 ≤ b.2.1 ∧ a.2.2 ≤ b.2.2)
def within : List Lay → List Lay → Bool
  | [], _ => true
  | _ :: _, [] => false
  | a :: p, b :: q => leL a b && within p q
def lessB (p q : List Lay) : Bool := decide (p.length ≤ q.length) && within p (q.drop (q.length - p.length))
def lessV (p q : List Lay) : Bool × Int := if okP p && okP q then (lessB p q, 0) else (false, 20)
end Go.Proofs.YtomejgikdelgkaaGreatDoor
