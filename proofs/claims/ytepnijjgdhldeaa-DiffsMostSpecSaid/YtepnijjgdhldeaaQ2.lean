/- Texts of the proof of a law about the given program: contracts of its functions, as walked. -/
import Derived.Test.YtepnijjgdhldeaaQ1
namespace Go.Proofs.Ytepnijjgdhldeaa
open Go.Awp
set_option linter.unusedSimpArgs false
set_option linter.unusedVariables false
set_option maxRecDepth 10000
-- values over the border
theorem car_net {out b : Bool} {H : AHeap} {d : Nat} {n : Int} {ds : List Df} (hb : out = false ∨ b = true) : carry out H (d + 3) (.agg [I n, .ro b (rows ds)]) = some (.agg [I n, .ro out (rows ds)]) :=
  car_agg (carL_cons rfl (carL_cons (car_ro (rows_simple ds) hb) rfl))
theorem car_netF {b : Bool} {H : AHeap} {d : Nat} {n : Int} {ds : List Df} : carry false H (d + 3) (.agg [I n, .ro b (rows ds)]) = some (.agg [I n, .ro false (rows ds)]) := car_net (.inl rfl)
theorem car_rowsF {b : Bool} {H : AHeap} {d : Nat} {ds : List Df} : carry false H (d + 2) (.ro b (rows ds)) = some (.ro false (rows ds)) := car_ro (rows_simple ds) (.inl rfl)
theorem car_icF {b : Bool} {H : AHeap} {d : Nat} {xs : List Int} : carry false H (d + 2) (.ro b (ic xs)) = some (.ro false (ic xs)) := car_ro (ic_simple xs) (.inl rfl)
theorem car_ptr {out : Bool} {H : AHeap} {d h ver i j : Nat} {cells l : List AV} (hd : deref H (.ptr h ver i j) = some cells) (hl : carL (carry out H d) cells = some l) : carry out H (d + 1) (.ptr h ver i j) = some (.rop l) := by
  rw [show carry out H (d + 1) (.ptr h ver i j) = (match deref H (.ptr h ver i j) with | some cells => (match carL (carry out H d) cells with | some l => some (.rop l) | none => none) | none => none) from rfl, hd]
  simp only [hl]
theorem car_ropF {H : AHeap} {d : Nat} {cells l : List AV} (hl : carL (carry false H d) cells = some l) : carry false H (d + 1) (.rop cells) = some (.rop l) := by
  rw [show carry false H (d + 1) (.rop cells) = (if false = false then (match carL (carry false H d) cells with | some l => some (.rop l) | none => none) else none) from rfl, hl]
  rfl
theorem out_nil {H : AHeap} {b : Bool} : Out H .nilSlice (.ro b []) := fun w m B v st hv m' H' B' _ _ => by
  cases hv with
  | nilSlice a => exact .roNil _ _ _ fun _ => rfl
theorem out_agg2 {H : AHeap} {x y x' y' : AV} (hx : Out H x x') (hy : Out H y y') (h1 : x'.one = true) (h2 : y'.one = true) : Out H (.agg [x, y]) (.agg [x', y']) := fun w m B v st hv m' H' B' hB hm => by
  cases hv with
  | agg _ vs hl ho hh =>
    refine .agg _ _ hl (by simp [h1, h2]) fun i z v' e1 e2 => ?_
    rcases i with _ | _ | i
    · cases e1; exact hx w m B v' st (hh 0 x v' rfl e2) m' H' B' hB hm
    · cases e1; exact hy w m B v' st (hh 1 y v' rfl e2) m' H' B' hB hm
    · simp at e1
-- slices that grow
def Acc (lo : Nat) (H : AHeap) (a : AV) (e s : Nat) (els : List (List AV)) : Prop := (els = [] ∧ a = .nilSlice) ∨ ∃ h, lo ≤ h ∧ a = .own h els.length 0 els.length ∧ AHeap.obj H h = some ⟨e, s, els⟩
theorem Acc.push {lo : Nat} {H : AHeap} {a : AV} {e s : Nat} {els : List (List AV)} (h : Acc lo H a e s els) (X : AHeap) : Acc lo (H ++ X) a e s els := by
  rcases h with h | ⟨k, h1, h2, h3⟩
  · exact .inl h
  · exact .inr ⟨k, h1, h2, by rw [AHeap.obj_push_lt (AHeap.obj_lt h3)]; exact h3⟩
theorem Acc.out {lo : Nat} {H : AHeap} {a : AV} {e s : Nat} {els : List (List AV)} (h : Acc lo H a e s els) (hs : Simple els) : Out H a (.ro true els) := by
  rcases h with ⟨rfl, rfl⟩ | ⟨k, h1, rfl, h3⟩
  · exact out_nil
  · exact out_of (car_own (d := 0) (o := ⟨e, s, els⟩) h3 hs)
theorem acc_append {lo : Nat} {H : AHeap} {a : AV} {e s bytes hl : Nat} {els : List (List AV)} {r : List AV} {env : AEnv} {x y : Operand} {K : AV → AHeap → Prop} (hlo : lo ≤ H.length) (hacc : Acc lo H a e s els) (hx : ev env x = some a) (hy : ev env y = some (.own hl 1 0 1)) (hobj : AHeap.obj H hl = some ⟨e, s, [r]⟩)
    (hb : els.length + 1 ≤ 140737488355328 ∧ (els.length + 1) * bytes ≤ 140737488355328) (hk : ∀ a' H', H.length ≤ H'.length → Acc lo H' a' e s (els ++ [r]) → (∀ i, i < lo → AHeap.obj H' i = AHeap.obj H i) → K a' H') : withRes (sstep (.append e s bytes x y) env H) K := by
  have hs : asrc H s (.own hl 1 0 1) = some [r] := by
    simp only [asrc, hobj, List.length_cons, List.length_nil, and_self, if_true]
    rfl
  have hb1 : bytes ≤ 140737488355328 := by
    have := hb.2
    rw [Nat.add_mul] at this; omega
  rcases hacc with ⟨rfl, rfl⟩ | ⟨h, h1, rfl, h3⟩
  · simp only [sstep, hx, hy, hs]
    rw [if_neg (by simp), if_pos ⟨by simp, by simpa using hb1⟩]
    refine hk _ _ (by simp) (.inr ⟨H.length, hlo, rfl, AHeap.obj_push_eq⟩) fun i hi => AHeap.obj_push_lt (by omega)
  · simp only [sstep, hx, hy, hs, h3]
    rw [if_pos ⟨trivial, trivial, trivial, trivial, trivial, by simpa using hb.1, by simpa using hb.2⟩]
    refine hk _ _ (by simp) (.inr ⟨h, h1, by simp, AHeap.obj_set_eq (AHeap.obj_lt h3)⟩) fun i hi => AHeap.obj_set_ne (by omega)
-- bools
def bc (bs : List Bool) : List (List AV) := bs.map fun b => [.bool b]
theorem bc_simple (bs : List Bool) : Simple (bc bs) := by
  intro el hel x hx
  obtain ⟨d, _, rfl⟩ := List.mem_map.1 hel
  simp at hx
  subst hx; rfl
theorem bc_length (bs : List Bool) : (bc bs).length = bs.length := List.length_map ..
theorem bc_get {bs : List Bool} {k : Nat} (h : k < bs.length) : (bc bs)[k]? = some [.bool bs[k]] := by simp [bc, h]
theorem index125 {b : Bool} {bs : List Bool} (hl : bs.length ≤ big) : PCall Try.prog 125 [.ro false (bc bs), .bool b] (I (ix (fun x => b == x) bs)) := by
  unfold big at hl
  refine PCall.intro text125 (by simp) ?_
  unfold ir125
  simp only [walk, wl, rgets, retv, argsEnv, ev, cst, cst1, cstL, AEnv.get, AEnv.trim, envput, qstep, abin, aun, evs, evo, deref, qload, target, if_true, if_false, Nat.reduceEqDiff, reduceIte, Nat.reduceAdd, AV.cells, AV.isTuple, setMany, alen, aiaddr, afill, Nat.reduceLeDiff, Nat.reduceMul, Nat.reduceLT, afillE, List.replicate, bc_length]
  refine awp_loop (σ := Nat) (fun k => [(0, .ro false (bc bs)), (1, .bool b), (7, I bs.length), (8, I k)]) (fun _ _ => True) (fun k => k ≤ bs.length ∧ (bs.take k).all (fun x => !(b == x)) = true) (fun k => bs.length - k) 0 ⟨Nat.zero_le _, rfl⟩ rfl trivial ?_
  rintro k H ⟨hk, hall⟩ -
  simp only [walk, wl, rgets, retv, argsEnv, ev, cst, cst1, cstL, AEnv.get, AEnv.trim, envput, qstep, abin, aun, evs, evo, deref, qload, target, if_true, if_false, Nat.reduceEqDiff, reduceIte, Nat.reduceAdd, AV.cells, AV.isTuple, setMany, alen, aiaddr, afill, Nat.reduceLeDiff, Nat.reduceMul, Nat.reduceLT, afillE, List.replicate]
  refine withBool_intro ?_ ?_ <;> intro hb <;> simp only [walk, wl, rgets, retv, argsEnv, ev, cst, cst1, cstL, AEnv.get, AEnv.trim, envput, qstep, abin, aun, evs, evo, deref, qload, target, if_true, if_false, Nat.reduceEqDiff, reduceIte, Nat.reduceAdd, AV.cells, AV.isTuple, setMany, alen, aiaddr, afill, Nat.reduceLeDiff, Nat.reduceMul, Nat.reduceLT, afillE, List.replicate]
  · have hlt : k < bs.length := by simpa using hb
    simp only [walk, wl, rgets, retv, argsEnv, ev, cst, cst1, cstL, AEnv.get, AEnv.trim, envput, qstep, abin, aun, evs, evo, deref, qload, target, if_true, if_false, Nat.reduceEqDiff, reduceIte, Nat.reduceAdd, AV.cells, AV.isTuple, setMany, alen, aiaddr, afill, Nat.reduceLeDiff, Nat.reduceMul, Nat.reduceLT, afillE, List.replicate, bc_get hlt]
    refine withBool_intro ?_ ?_ <;> intro hr <;> simp only [walk, wl, rgets, retv, argsEnv, ev, cst, cst1, cstL, AEnv.get, AEnv.trim, envput, qstep, abin, aun, evs, evo, deref, qload, target, if_true, if_false, Nat.reduceEqDiff, reduceIte, Nat.reduceAdd, AV.cells, AV.isTuple, setMany, alen, aiaddr, afill, Nat.reduceLeDiff, Nat.reduceMul, Nat.reduceLT, afillE, List.replicate]
    · rw [ix_at hlt hall hr]; exact out_int
    · rw [wrap_id (by omega) (by omega)]
      refine loop_end (k + 1) ⟨hlt, all_take hall hlt (by simp [hr])⟩ (by omega) rfl trivial
  · have hk' : k = bs.length := by simp at hb; omega
    subst hk'
    rw [List.take_length] at hall
    rw [ix_none hall]; exact out_int
theorem contains109 {b : Bool} {bs : List Bool} (hl : bs.length ≤ big) : PCall Try.prog 109 [.ro false (bc bs), .bool b] (.bool (bs.any fun x => b == x)) := by
  refine PCall.intro text109 (by simp) ?_
  unfold ir109
  simp only [walk, wl, rgets, retv, argsEnv, ev, cst, cst1, cstL, AEnv.get, AEnv.trim, envput, qstep, abin, aun, evs, evo, deref, qload, target, if_true, if_false, Nat.reduceEqDiff, reduceIte, Nat.reduceAdd, AV.cells, AV.isTuple, setMany, alen, aiaddr, afill, Nat.reduceLeDiff, Nat.reduceMul, Nat.reduceLT, afillE, List.replicate]
  refine call_pure (index125 hl) (frzL_of' (d := 4) (carL_cons (car_ro_false (bc_simple bs)) rfl)) ?_
  simp only [walk, wl, rgets, retv, argsEnv, ev, cst, cst1, cstL, AEnv.get, AEnv.trim, envput, qstep, abin, aun, evs, evo, deref, qload, target, if_true, if_false, Nat.reduceEqDiff, reduceIte, Nat.reduceAdd, AV.cells, AV.isTuple, setMany, alen, aiaddr, afill, Nat.reduceLeDiff, Nat.reduceMul, Nat.reduceLT, afillE, List.replicate]
  rw [ix_ge]; exact out_bool
def asked (n : Int) (ds : List Df) (bs : List Bool) : Int := if valid n ds then (if bs.all id then 0 else 1) else 40
theorem asked_ok (n : Int) (ds : List Df) (bs : List Bool) (hl : bs.length ≤ big) : PCall Try.prog 77 [.agg [I n, .ro false (rows ds)], .ro false (bc bs)] (I (asked n ds bs)) := by
  refine PCall.intro text77 (by simp) ?_
  unfold ir77
  simp only [walk, wl, rgets, retv, argsEnv, ev, cst, cst1, cstL, AEnv.get, AEnv.trim, envput, qstep, abin, aun, evs, evo, deref, qload, target, if_true, if_false, Nat.reduceEqDiff, reduceIte, Nat.reduceAdd, AV.cells, AV.isTuple, setMany, alen, aiaddr, afill, Nat.reduceLeDiff, Nat.reduceMul, Nat.reduceLT, afillE, List.replicate]
  refine call_pure (check_ok n ds) (frzL_of' (d := 4) (carL_cons car_netF rfl)) ?_
  simp only [walk, wl, rgets, retv, argsEnv, ev, cst, cst1, cstL, AEnv.get, AEnv.trim, envput, qstep, abin, aun, evs, evo, deref, qload, target, if_true, if_false, Nat.reduceEqDiff, reduceIte, Nat.reduceAdd, AV.cells, AV.isTuple, setMany, alen, aiaddr, afill, Nat.reduceLeDiff, Nat.reduceMul, Nat.reduceLT, afillE, List.replicate]
  refine withBool_intro ?_ ?_ <;> intro h <;> simp only [walk, wl, rgets, retv, argsEnv, ev, cst, cst1, cstL, AEnv.get, AEnv.trim, envput, qstep, abin, aun, evs, evo, deref, qload, target, if_true, if_false, Nat.reduceEqDiff, reduceIte, Nat.reduceAdd, AV.cells, AV.isTuple, setMany, alen, aiaddr, afill, Nat.reduceLeDiff, Nat.reduceMul, Nat.reduceLT, afillE, List.replicate]
  · have h' : valid n ds = false := by
      cases hv : valid n ds with
      | false => rfl
      | true => simp [check, hv] at h
    simp only [asked, check, h']; exact out_int
  · have h' : valid n ds = true := by
      cases hv : valid n ds with
      | true => rfl
      | false => simp [check, hv] at h
    refine call_pure (contains109 hl) (frzL_of' (d := 4) (carL_cons (car_ro_false (bc_simple bs)) rfl)) ?_
    simp only [walk, wl, rgets, retv, argsEnv, ev, cst, cst1, cstL, AEnv.get, AEnv.trim, envput, qstep, abin, aun, evs, evo, deref, qload, target, if_true, if_false, Nat.reduceEqDiff, reduceIte, Nat.reduceAdd, AV.cells, AV.isTuple, setMany, alen, aiaddr, afill, Nat.reduceLeDiff, Nat.reduceMul, Nat.reduceLT, afillE, List.replicate]
    refine withBool_intro ?_ ?_ <;> intro h2 <;> simp only [walk, wl, rgets, retv, argsEnv, ev, cst, cst1, cstL, AEnv.get, AEnv.trim, envput, qstep, abin, aun, evs, evo, deref, qload, target, if_true, if_false, Nat.reduceEqDiff, reduceIte, Nat.reduceAdd, AV.cells, AV.isTuple, setMany, alen, aiaddr, afill, Nat.reduceLeDiff, Nat.reduceMul, Nat.reduceLT, afillE, List.replicate]
    · have e : asked n ds bs = 1 := by
        simp at h2
        simp [asked, h', h2]
      rw [e]; exact out_int
    · have e : asked n ds bs = 0 := by
        have : bs.all id = true := by
          rw [List.all_eq_true]; rw [List.any_eq_false] at h2
          intro x hx; have := h2 x hx; simpa using this
        simp only [asked, h', this]; rfl
      rw [e]; exact out_int
end Go.Proofs.Ytepnijjgdhldeaa
namespace Go.Proofs.Ytepnijjgdhldeaa
open Go.Awp
set_option linter.unusedSimpArgs false
set_option linter.unusedVariables false
set_option maxRecDepth 10000
def at0 (xs : List Int) (i : Int) : Int := xs.getD i.toNat 0
theorem at_get {xs : List Int} {i : Int} (h0 : 0 ≤ i) (h : i < xs.length) : (ic xs)[i.toNat]? = some [I (at0 xs i)] := by
  have hk : i.toNat < xs.length := by omega
  rw [ic_get hk]
  simp [at0, hk]
theorem far_le {x : Int} (h : far x = false) : -1099511627776 ≤ x ∧ x ≤ 1099511627776 := by
  simp [far] at h; exact h
theorem at_far {xs : List Int} {i : Int} (h : ∀ x, x ∈ xs → far x = false) : -1099511627776 ≤ at0 xs i ∧ at0 xs i ≤ 1099511627776 := by
  unfold at0
  rcases Nat.lt_or_ge i.toNat xs.length with hk | hk
  · have : xs.getD i.toNat 0 = xs[i.toNat] := by simp [hk]
    rw [this]; exact far_le (h _ (List.getElem_mem hk))
  · have : xs.getD i.toNat 0 = 0 := by simp [hk]
    rw [this]; omega
def over (xs : List Int) (d : Df) : Bool := decide (at0 xs d.2.1 - at0 xs d.1 > d.2.2)
theorem right_lt {d : Df} {n : Int} (h : right d n = true) : (0 ≤ d.1 ∧ d.1 < n) ∧ (0 ≤ d.2.1 ∧ d.2.1 < n) ∧ -1073741824 ≤ d.2.2 ∧ d.2.2 ≤ 1073741824 := by
  simp [right] at h; omega
def holds (ds : List Df) (xs : List Int) : Bool := decide (at0 xs 0 = 0) && !ds.any (over xs)
/-- Holds, as the program answers. -/
def Holds (n : Int) (ds : List Df) (xs : List Int) : Bool × Int := if valid n ds then (if numbers n xs then (holds ds xs, 0) else (false, 1)) else (false, 40)
theorem Numbers_ok (n : Int) (ds : List Df) (xs : List Int) (hl : xs.length ≤ big) : PCall Try.prog 87 [.agg [I n, .ro false (rows ds)], .ro false (ic xs)] (.bool (numbers n xs)) := by
  unfold big at hl
  refine PCall.intro text87 (by simp) ?_
  unfold ir87
  simp only [walk, wl, rgets, retv, argsEnv, ev, cst, cst1, cstL, AEnv.get, AEnv.trim, envput, qstep, abin, aun, evs, evo, deref, qload, target, if_true, if_false, Nat.reduceEqDiff, reduceIte, Nat.reduceAdd, AV.cells, AV.isTuple, setMany, alen, aiaddr, afill, Nat.reduceLeDiff, Nat.reduceMul, Nat.reduceLT, afillE, List.replicate, ic_length]
  refine withBool_intro ?_ ?_ <;> intro h <;> simp only [walk, wl, rgets, retv, argsEnv, ev, cst, cst1, cstL, AEnv.get, AEnv.trim, envput, qstep, abin, aun, evs, evo, deref, qload, target, if_true, if_false, Nat.reduceEqDiff, reduceIte, Nat.reduceAdd, AV.cells, AV.isTuple, setMany, alen, aiaddr, afill, Nat.reduceLeDiff, Nat.reduceMul, Nat.reduceLT, afillE, List.replicate]
  · have e : numbers n xs = false := by
      simp at h; simp [numbers, h]
    rw [e]; exact out_bool
  · have hn : (xs.length : Int) = n := by simpa using h
    refine awp_loop (σ := Nat) (fun k => [(1, .ro false (ic xs)), (5, I k)]) (fun _ _ => True) (fun k => k ≤ xs.length ∧ (xs.take k).all (fun x => !far x) = true) (fun k => xs.length - k) 0 ⟨Nat.zero_le _, rfl⟩ rfl trivial ?_
    rintro k H ⟨hk, hall⟩ -
    simp only [walk, wl, rgets, retv, argsEnv, ev, cst, cst1, cstL, AEnv.get, AEnv.trim, envput, qstep, abin, aun, evs, evo, deref, qload, target, if_true, if_false, Nat.reduceEqDiff, reduceIte, Nat.reduceAdd, AV.cells, AV.isTuple, setMany, alen, aiaddr, afill, Nat.reduceLeDiff, Nat.reduceMul, Nat.reduceLT, afillE, List.replicate, ic_length]
    refine withBool_intro ?_ ?_ <;> intro hb <;> simp only [walk, wl, rgets, retv, argsEnv, ev, cst, cst1, cstL, AEnv.get, AEnv.trim, envput, qstep, abin, aun, evs, evo, deref, qload, target, if_true, if_false, Nat.reduceEqDiff, reduceIte, Nat.reduceAdd, AV.cells, AV.isTuple, setMany, alen, aiaddr, afill, Nat.reduceLeDiff, Nat.reduceMul, Nat.reduceLT, afillE, List.replicate]
    · have hlt : k < xs.length := by simpa using hb
      have bad : far xs[k] = true → numbers n xs = false := by
        intro hf
        have : xs.any far = true := List.any_eq_true.2 ⟨_, List.getElem_mem hlt, hf⟩
        simp [numbers, this]
      simp only [walk, wl, rgets, retv, argsEnv, ev, cst, cst1, cstL, AEnv.get, AEnv.trim, envput, qstep, abin, aun, evs, evo, deref, qload, target, if_true, if_false, Nat.reduceEqDiff, reduceIte, Nat.reduceAdd, AV.cells, AV.isTuple, setMany, alen, aiaddr, afill, Nat.reduceLeDiff, Nat.reduceMul, Nat.reduceLT, afillE, List.replicate, ic_get hlt]
      refine withGuard_intro ?_ ?_ <;> intro h1 <;> simp only [walk, wl, rgets, retv, argsEnv, ev, cst, cst1, cstL, AEnv.get, AEnv.trim, envput, qstep, abin, aun, evs, evo, deref, qload, target, if_true, if_false, Nat.reduceEqDiff, reduceIte, Nat.reduceAdd, AV.cells, AV.isTuple, setMany, alen, aiaddr, afill, Nat.reduceLeDiff, Nat.reduceMul, Nat.reduceLT, afillE, List.replicate, h1, ic_get hlt]
      · refine withBool_intro ?_ ?_ <;> intro h2 <;> simp only [walk, wl, rgets, retv, argsEnv, ev, cst, cst1, cstL, AEnv.get, AEnv.trim, envput, qstep, abin, aun, evs, evo, deref, qload, target, if_true, if_false, Nat.reduceEqDiff, reduceIte, Nat.reduceAdd, AV.cells, AV.isTuple, setMany, alen, aiaddr, afill, Nat.reduceLeDiff, Nat.reduceMul, Nat.reduceLT, afillE, List.replicate]
        · rw [bad (by simp at h2; simp only [far, Bool.not_eq_true', Bool.and_eq_false_iff, decide_eq_false_iff_not]; omega)]; exact out_bool
        · have hf : far xs[k] = false := by simp at h1 h2; simp [far]; omega
          rw [wrap_id (by omega) (by omega)]
          refine loop_end (k + 1) ⟨hlt, all_take hall hlt (by simp [hf])⟩ (by omega) rfl trivial
      · rw [bad (by simp at h1; simp [far]; omega)]; exact out_bool
    · have hk' : k = xs.length := by simp at hb; omega
      subst hk'
      rw [List.take_length] at hall
      have e : numbers n xs = true := by
        have : xs.any far = false := by
          rw [List.any_eq_false]; rw [List.all_eq_true] at hall
          intro x hx; have := hall x hx; simpa using this
        simp [numbers, hn, this]
      rw [e]; exact out_bool
end Go.Proofs.Ytepnijjgdhldeaa
namespace Go.Proofs.Ytepnijjgdhldeaa
open Go.Awp
set_option linter.unusedSimpArgs false
set_option linter.unusedVariables false
set_option maxRecDepth 10000
theorem Fulfils_ok (n : Int) (ds : List Df) (xs : List Int) (hv : valid n ds = true) (hl : xs.length ≤ big) : PCall Try.prog 37 [.agg [I n, .ro false (rows ds)], .ro false (ic xs)] (.bool (numbers n xs && holds ds xs)) := by
  obtain ⟨h1, h2, h3⟩ := valid_iff.1 hv
  refine PCall.intro text37 (by simp) ?_
  unfold ir37
  simp only [walk, wl, rgets, retv, argsEnv, ev, cst, cst1, cstL, AEnv.get, AEnv.trim, envput, qstep, abin, aun, evs, evo, deref, qload, target, if_true, if_false, Nat.reduceEqDiff, reduceIte, Nat.reduceAdd, AV.cells, AV.isTuple, setMany, alen, aiaddr, afill, Nat.reduceLeDiff, Nat.reduceMul, Nat.reduceLT, afillE, List.replicate]
  refine call_pure (Numbers_ok n ds xs hl) (frzL_of' (d := 4) (carL_cons car_netF (carL_cons car_icF rfl))) ?_
  simp only [walk, wl, rgets, retv, argsEnv, ev, cst, cst1, cstL, AEnv.get, AEnv.trim, envput, qstep, abin, aun, evs, evo, deref, qload, target, if_true, if_false, Nat.reduceEqDiff, reduceIte, Nat.reduceAdd, AV.cells, AV.isTuple, setMany, alen, aiaddr, afill, Nat.reduceLeDiff, Nat.reduceMul, Nat.reduceLT, afillE, List.replicate]
  refine withGuard_intro ?_ ?_ <;> intro h <;> simp only [walk, wl, rgets, retv, argsEnv, ev, cst, cst1, cstL, AEnv.get, AEnv.trim, envput, qstep, abin, aun, evs, evo, deref, qload, target, if_true, if_false, Nat.reduceEqDiff, reduceIte, Nat.reduceAdd, AV.cells, AV.isTuple, setMany, alen, aiaddr, afill, Nat.reduceLeDiff, Nat.reduceMul, Nat.reduceLT, afillE, List.replicate, h]
  · have hn : numbers n xs = true := by simpa using h
    have hn' := hn
    simp [numbers] at hn'
    obtain ⟨e1, e2⟩ := hn'
    have hf : ∀ x, x ∈ xs → far x = false := e2
    have hlen : (0 : Int) < xs.length := by omega
    have g0 := at_get (xs := xs) (i := 0) (by omega) hlen
    simp only [walk, wl, rgets, retv, argsEnv, ev, cst, cst1, cstL, AEnv.get, AEnv.trim, envput, qstep, abin, aun, evs, evo, deref, qload, target, if_true, if_false, Nat.reduceEqDiff, reduceIte, Nat.reduceAdd, AV.cells, AV.isTuple, setMany, alen, aiaddr, afill, Nat.reduceLeDiff, Nat.reduceMul, Nat.reduceLT, afillE, List.replicate, Int.le_refl, g0]
    refine withBool_intro ?_ ?_ <;> intro h0 <;> simp only [walk, wl, rgets, retv, argsEnv, ev, cst, cst1, cstL, AEnv.get, AEnv.trim, envput, qstep, abin, aun, evs, evo, deref, qload, target, if_true, if_false, Nat.reduceEqDiff, reduceIte, Nat.reduceAdd, AV.cells, AV.isTuple, setMany, alen, aiaddr, afill, Nat.reduceLeDiff, Nat.reduceMul, Nat.reduceLT, afillE, List.replicate]
    · have e : (numbers n xs && holds ds xs) = false := by
        simp at h0; simp [holds, h0]
      rw [e]; exact out_bool
    · have hz : at0 xs 0 = 0 := by simpa using h0
      refine awp_loop (σ := Nat) (fun k => [(1, .ro false (ic xs)), (2, .ptr 0 1 0 0), (5, I k)]) (fun _ H => ∃ X, H = some ⟨24, 2, [[I n, .ro false (rows ds)]]⟩ :: X) (fun k => k ≤ ds.length ∧ (ds.take k).all (fun d => !over xs d) = true) (fun k => ds.length - k) 0 ⟨Nat.zero_le _, rfl⟩ rfl ⟨[], rfl⟩ ?_
      rintro k H ⟨hk, hall⟩ ⟨X, rfl⟩
      simp only [walk, wl, rgets, retv, argsEnv, ev, cst, cst1, cstL, AEnv.get, AEnv.trim, envput, qstep, abin, aun, evs, evo, deref, qload, target, if_true, if_false, Nat.reduceEqDiff, reduceIte, Nat.reduceAdd, AV.cells, AV.isTuple, setMany, alen, aiaddr, afill, Nat.reduceLeDiff, Nat.reduceMul, Nat.reduceLT, afillE, List.replicate, rows_length]
      refine withBool_intro ?_ ?_ <;> intro hb <;> simp only [walk, wl, rgets, retv, argsEnv, ev, cst, cst1, cstL, AEnv.get, AEnv.trim, envput, qstep, abin, aun, evs, evo, deref, qload, target, if_true, if_false, Nat.reduceEqDiff, reduceIte, Nat.reduceAdd, AV.cells, AV.isTuple, setMany, alen, aiaddr, afill, Nat.reduceLeDiff, Nat.reduceMul, Nat.reduceLT, afillE, List.replicate]
      · have hlt : k < ds.length := by simpa using hb
        obtain ⟨⟨a1, a2⟩, ⟨b1, b2⟩, _⟩ := right_lt (h3 _ (List.getElem_mem hlt))
        have f1 := at_far (i := ds[k].1) hf
        have f2 := at_far (i := ds[k].2.1) hf
        simp only [walk, wl, rgets, retv, argsEnv, ev, cst, cst1, cstL, AEnv.get, AEnv.trim, envput, qstep, abin, aun, evs, evo, deref, qload, target, if_true, if_false, Nat.reduceEqDiff, reduceIte, Nat.reduceAdd, AV.cells, AV.isTuple, setMany, alen, aiaddr, afill, Nat.reduceLeDiff, Nat.reduceMul, Nat.reduceLT, afillE, List.replicate, rows_get hlt, if_pos a1, if_pos b1, at_get a1 (by rw [e1]; exact a2), at_get b1 (by rw [e1]; exact b2), wrap_id (show -9223372036854775808 ≤ at0 xs ds[k].2.1 - at0 xs ds[k].1 by omega) (by omega)]
        refine withBool_intro ?_ ?_ <;> intro hr <;> simp only [walk, wl, rgets, retv, argsEnv, ev, cst, cst1, cstL, AEnv.get, AEnv.trim, envput, qstep, abin, aun, evs, evo, deref, qload, target, if_true, if_false, Nat.reduceEqDiff, reduceIte, Nat.reduceAdd, AV.cells, AV.isTuple, setMany, alen, aiaddr, afill, Nat.reduceLeDiff, Nat.reduceMul, Nat.reduceLT, afillE, List.replicate]
        · have e : (numbers n xs && holds ds xs) = false := by
            have : ds.any (over xs) = true := List.any_eq_true.2 ⟨_, List.getElem_mem hlt, hr⟩
            simp [holds, this]
          rw [e]; exact out_bool
        · rw [wrap_id (by omega) (by omega)]
          refine loop_end (k + 1) ⟨hlt, all_take hall hlt (by simp [over, hr])⟩ (by omega) rfl ⟨_, rfl⟩
      · have hk' : k = ds.length := by simp at hb; omega
        subst hk'
        rw [List.take_length] at hall
        have e : (numbers n xs && holds ds xs) = true := by
          have : ds.any (over xs) = false := by
            rw [List.any_eq_false]; rw [List.all_eq_true] at hall
            intro x hx; have := hall x hx; simpa using this
          simp [holds, hz, this, hn]
        rw [e]; exact out_bool
  · have hn : numbers n xs = false := by simpa using h
    rw [hn]; exact out_bool
/-- SameNets, as the program answers. -/
def sameNets (n : Int) (ds : List Df) (n' : Int) (ds' : List Df) : Bool := decide (n = n') && decide (ds = ds')
end Go.Proofs.Ytepnijjgdhldeaa
namespace Go.Proofs.Ytepnijjgdhldeaa
open Go.Awp
set_option linter.unusedSimpArgs false
set_option linter.unusedVariables false
set_option maxRecDepth 10000
theorem obj_keep {H X : AHeap} {i : Nat} {o : AObj} (h : AHeap.obj H i = some o) : AHeap.obj (H ++ X) i = some o := by
  rw [AHeap.obj_push_lt (AHeap.obj_lt h)]; exact h
theorem rows_snoc (ds : List Df) (d : Df) : rows (ds ++ [d]) = rows ds ++ [dc d] := by simp [rows, dc]
theorem rows_take {ds : List Df} {k : Nat} (h : k < ds.length) : rows (ds.take (k + 1)) = rows (ds.take k) ++ [dc ds[k]] := by
  rw [List.take_succ_eq_append_getElem h, rows_snoc]
end Go.Proofs.Ytepnijjgdhldeaa
namespace Go.Proofs.Ytepnijjgdhldeaa
open Go.Awp
set_option linter.unusedSimpArgs false
set_option linter.unusedVariables false
set_option maxRecDepth 10000
/-- Add, as both programs answer: the number of nodes, the differences, the error. -/
def added (n : Int) (ds : List Df) (d : Df) : Int × List Df × Int :=
  if valid n ds then (if ds.length = 4096 then (0, [], 2) else if right d n then (n, ds ++ [d], 0) else (0, [], 40)) else (0, [], 40)
end Go.Proofs.Ytepnijjgdhldeaa
namespace Go.Proofs.Ytepnijjgdhldeaa
open Go.Awp
set_option linter.unusedSimpArgs false
set_option linter.unusedVariables false
set_option maxRecDepth 10000
/-- Higher, as both programs answer. -/
def higher (n : Int) (ds : List Df) (xs ys : List Int) : List Int × Int :=
  if valid n ds then (if numbers n xs && numbers n ys then (if holds ds xs && holds ds ys then (List.zipWith max xs ys, 0) else ([], 43)) else ([], 1)) else ([], 40)
theorem amm_min {x y : Int} : amm false [I x, I y] = some (I (min x y)) := by
  simp only [amm, amm.go, Bool.false_eq_true, if_false]
  congr 2
  rw [Int.min_def]
  split <;> split <;> omega
def hi (xs ys : List Int) (k : Nat) : List Int := List.zipWith max (xs.take k) (ys.take k) ++ xs.drop k
theorem ic_set {xs : List Int} {k : Nat} {v : Int} : (ic xs).set k [I v] = ic (xs.set k v) := by simp [ic, List.map_set]
theorem ic_snoc (xs : List Int) (x : Int) : ic (xs ++ [x]) = ic xs ++ [[I x]] := by simp [ic]
end Go.Proofs.Ytepnijjgdhldeaa
