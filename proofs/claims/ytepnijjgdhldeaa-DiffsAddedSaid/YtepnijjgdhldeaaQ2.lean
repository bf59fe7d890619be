/- Texts of the proof of a law about the given program: contracts of its functions, as walked. -/
import Derived.Test.YtepnijjgdhldeaaQ1
namespace Go.Proofs.Ytepnijjgdhldeaa
open Go.Awp
set_option linter.unusedSimpArgs false
set_option linter.unusedVariables false
set_option maxRecDepth 10000
-- values over the border
theorem car_net {out b : Bool} {H : AHeap} {d : Nat} {n : Int} {ds : List Df} (hb : out = false ∨ b = true) : carry out H (d + 3) (.agg [I n, .ro b (rows ds)]) = some (.agg [I n, .ro out (rows ds)]) :=
  car_agg (carL_cons rfl (carL_cons (car_ro (rows_simple ds) hb) rfl))
theorem car_netF {b : Bool} {H : AHeap} {d : Nat} {n : Int} {ds : List Df} : carry false H (d + 3) (.agg [I n, .ro b (rows ds)]) = some (.agg [I n, .ro false (rows ds)]) := car_net (.inl rfl)
theorem car_diff {out : Bool} {H : AHeap} {d : Nat} {a b c : Int} : carry out H (d + 2) (.agg [I a, I b, I c]) = some (.agg [I a, I b, I c]) := rfl
theorem car_rowsF {b : Bool} {H : AHeap} {d : Nat} {ds : List Df} : carry false H (d + 2) (.ro b (rows ds)) = some (.ro false (rows ds)) := car_ro (rows_simple ds) (.inl rfl)
theorem car_icF {b : Bool} {H : AHeap} {d : Nat} {xs : List Int} : carry false H (d + 2) (.ro b (ic xs)) = some (.ro false (ic xs)) := car_ro (ic_simple xs) (.inl rfl)
theorem car_ptr {out : Bool} {H : AHeap} {d h ver i j : Nat} {cells l : List AV} (hd : deref H (.ptr h ver i j) = some cells) (hl : carL (carry out H d) cells = some l) : carry out H (d + 1) (.ptr h ver i j) = some (.rop l) := by
  rw [show carry out H (d + 1) (.ptr h ver i j) = (match deref H (.ptr h ver i j) with | some cells => (match carL (carry out H d) cells with | some l => some (.rop l) | none => none) | none => none) from rfl, hd]
  simp only [hl]
theorem car_func {out : Bool} {H : AHeap} {d : Nat} {fn : Fn} {caps l : List AV} (hl : carL (carry out H d) caps = some l) : carry out H (d + 1) (.func fn [] caps) = some (.func fn [] l) := by
  rw [show carry out H (d + 1) (.func fn [] caps) = (match carL (carry out H d) [], carL (carry out H d) caps with | some a', some b' => some (.func fn a' b') | _, _ => none) from rfl, hl]
  rfl
theorem car_ropF {H : AHeap} {d : Nat} {cells l : List AV} (hl : carL (carry false H d) cells = some l) : carry false H (d + 1) (.rop cells) = some (.rop l) := by
  rw [show carry false H (d + 1) (.rop cells) = (if false = false then (match carL (carry false H d) cells with | some l => some (.rop l) | none => none) else none) from rfl, hl]
  rfl
theorem out_nil {H : AHeap} {b : Bool} : Out H .nilSlice (.ro b []) := fun w m B v st hv m' H' B' _ _ => by
  cases hv with
  | nilSlice a => exact .roNil _ _ _ fun _ => rfl
theorem out_two {H : AHeap} {x y x' y' : AV} (hx : Out H x x') (hy : Out H y y') : Out H (.tuple [x, y]) (.tuple [x', y']) := fun w m B v st hv m' H' B' hB hm => by
  cases hv with
  | tuple _ vs hl hh =>
    refine .tuple _ _ hl fun i z v' e1 e2 => ?_
    rcases i with _ | _ | i
    · cases e1; exact hx w m B v' st (hh 0 x v' rfl e2) m' H' B' hB hm
    · cases e1; exact hy w m B v' st (hh 1 y v' rfl e2) m' H' B' hB hm
    · simp at e1
theorem out_agg2 {H : AHeap} {x y x' y' : AV} (hx : Out H x x') (hy : Out H y y') (h1 : x'.one = true) (h2 : y'.one = true) : Out H (.agg [x, y]) (.agg [x', y']) := fun w m B v st hv m' H' B' hB hm => by
  cases hv with
  | agg _ vs hl ho hh =>
    refine .agg _ _ hl (by simp [h1, h2]) fun i z v' e1 e2 => ?_
    rcases i with _ | _ | i
    · cases e1; exact hx w m B v' st (hh 0 x v' rfl e2) m' H' B' hB hm
    · cases e1; exact hy w m B v' st (hh 1 y v' rfl e2) m' H' B' hB hm
    · simp at e1
-- slices that grow
def Acc (lo : Nat) (H : AHeap) (a : AV) (e s : Nat) (els : List (List AV)) : Prop := (els = [] ∧ a = .nilSlice) ∨ ∃ h, lo ≤ h ∧ a = .own h els.length 0 els.length ∧ AHeap.obj H h = some ⟨e, s, els⟩
theorem Acc.push {lo : Nat} {H : AHeap} {a : AV} {e s : Nat} {els : List (List AV)} (h : Acc lo H a e s els) (X : AHeap) : Acc lo (H ++ X) a e s els := by
  rcases h with h | ⟨k, h1, h2, h3⟩
  · exact .inl h
  · exact .inr ⟨k, h1, h2, by rw [AHeap.obj_push_lt (AHeap.obj_lt h3)]; exact h3⟩
theorem Acc.out {lo : Nat} {H : AHeap} {a : AV} {e s : Nat} {els : List (List AV)} (h : Acc lo H a e s els) (hs : Simple els) : Out H a (.ro true els) := by
  rcases h with ⟨rfl, rfl⟩ | ⟨k, h1, rfl, h3⟩
  · exact out_nil
  · exact out_of (car_own (d := 0) (o := ⟨e, s, els⟩) h3 hs)
theorem Acc.frz {lo : Nat} {H : AHeap} {a : AV} {e s : Nat} {els : List (List AV)} (h : Acc lo H a e s els) (hs : Simple els) (X : AHeap) : Frz (H ++ X) a (.ro false els) := by
  rcases h with ⟨rfl, rfl⟩ | ⟨k, h1, rfl, h3⟩
  · exact frz_nil
  · exact frz_of (car_own (d := 0) (o := ⟨e, s, els⟩) h3 hs) X
theorem acc_append {lo : Nat} {H : AHeap} {a : AV} {e s bytes hl : Nat} {els : List (List AV)} {r : List AV} {env : AEnv} {x y : Operand} {K : AV → AHeap → Prop} (hlo : lo ≤ H.length) (hacc : Acc lo H a e s els) (hx : ev env x = some a) (hy : ev env y = some (.own hl 1 0 1)) (hobj : AHeap.obj H hl = some ⟨e, s, [r]⟩)
    (hb : els.length + 1 ≤ 140737488355328 ∧ (els.length + 1) * bytes ≤ 140737488355328) (hk : ∀ a' H', H.length ≤ H'.length → Acc lo H' a' e s (els ++ [r]) → (∀ i, i < lo → AHeap.obj H' i = AHeap.obj H i) → K a' H') : withRes (sstep (.append e s bytes x y) env H) K := by
  have hs : asrc H s (.own hl 1 0 1) = some [r] := by
    simp only [asrc, hobj, List.length_cons, List.length_nil, and_self, if_true]
    rfl
  have hb1 : bytes ≤ 140737488355328 := by
    have := hb.2
    rw [Nat.add_mul] at this; omega
  rcases hacc with ⟨rfl, rfl⟩ | ⟨h, h1, rfl, h3⟩
  · simp only [sstep, hx, hy, hs]
    rw [if_neg (by simp), if_pos ⟨by simp, by simpa using hb1⟩]
    refine hk _ _ (by simp) (.inr ⟨H.length, hlo, rfl, AHeap.obj_push_eq⟩) fun i hi => AHeap.obj_push_lt (by omega)
  · simp only [sstep, hx, hy, hs, h3]
    rw [if_pos ⟨trivial, trivial, trivial, trivial, trivial, by simpa using hb.1, by simpa using hb.2⟩]
    refine hk _ _ (by simp) (.inr ⟨h, h1, by simp, AHeap.obj_set_eq (AHeap.obj_lt h3)⟩) fun i hi => AHeap.obj_set_ne (by omega)
theorem acall_append {P : Program} {lo : Nat} {H : AHeap} {a : AV} {e s bytes hl : Nat} {els : List (List AV)} {r : List AV} {env : AEnv} {x y : Operand} {K : AV → AHeap → Prop} (hlo : lo ≤ H.length) (hacc : Acc lo H a e s els) (hx : ev env x = some a) (hy : ev env y = some (.own hl 1 0 1)) (hobj : AHeap.obj H hl = some ⟨e, s, [r]⟩)
    (hb : els.length + 1 ≤ 140737488355328 ∧ (els.length + 1) * bytes ≤ 140737488355328) (hk : ∀ a' H', H.length ≤ H'.length → Acc lo H' a' e s (els ++ [r]) → (∀ i, i < lo → AHeap.obj H' i = AHeap.obj H i) → K a' H') : acall P (.append e s bytes x y) env H K :=
  acc_append hlo hacc hx hy hobj hb hk

-- bools
def bc (bs : List Bool) : List (List AV) := bs.map fun b => [.bool b]
theorem bc_simple (bs : List Bool) : Simple (bc bs) := by
  intro el hel x hx
  obtain ⟨d, _, rfl⟩ := List.mem_map.1 hel
  simp at hx
  subst hx; rfl
theorem bc_length (bs : List Bool) : (bc bs).length = bs.length := List.length_map ..
theorem bc_get {bs : List Bool} {k : Nat} (h : k < bs.length) : (bc bs)[k]? = some [.bool bs[k]] := by simp [bc, h]
theorem index125 {b : Bool} {bs : List Bool} (hl : bs.length ≤ big) : PCall Try.prog 125 [.ro false (bc bs), .bool b] (I (ix (fun x => b == x) bs)) := by
  unfold big at hl
  refine PCall.intro text125 (by simp) ?_
  unfold ir125
  simp only [walk, wl, rgets, retv, argsEnv, ev, cst, cst1, cstL, AEnv.get, AEnv.trim, envput, qstep, abin, aun, evs, evo, deref, qload, target, if_true, if_false, Nat.reduceEqDiff, reduceIte, Nat.reduceAdd, AV.cells, AV.isTuple, setMany, alen, aiaddr, afill, Nat.reduceLeDiff, Nat.reduceMul, Nat.reduceLT, afillE, List.replicate, bc_length]
  refine awp_loop (σ := Nat) (fun k => [(0, .ro false (bc bs)), (1, .bool b), (7, I bs.length), (8, I k)]) (fun _ _ => True) (fun k => k ≤ bs.length ∧ (bs.take k).all (fun x => !(b == x)) = true) (fun k => bs.length - k) 0 ⟨Nat.zero_le _, rfl⟩ rfl trivial ?_
  rintro k H ⟨hk, hall⟩ -
  simp only [walk, wl, rgets, retv, argsEnv, ev, cst, cst1, cstL, AEnv.get, AEnv.trim, envput, qstep, abin, aun, evs, evo, deref, qload, target, if_true, if_false, Nat.reduceEqDiff, reduceIte, Nat.reduceAdd, AV.cells, AV.isTuple, setMany, alen, aiaddr, afill, Nat.reduceLeDiff, Nat.reduceMul, Nat.reduceLT, afillE, List.replicate]
  refine withBool_intro ?_ ?_ <;> intro hb <;> simp only [walk, wl, rgets, retv, argsEnv, ev, cst, cst1, cstL, AEnv.get, AEnv.trim, envput, qstep, abin, aun, evs, evo, deref, qload, target, if_true, if_false, Nat.reduceEqDiff, reduceIte, Nat.reduceAdd, AV.cells, AV.isTuple, setMany, alen, aiaddr, afill, Nat.reduceLeDiff, Nat.reduceMul, Nat.reduceLT, afillE, List.replicate]
  · have hlt : k < bs.length := by simpa using hb
    simp only [walk, wl, rgets, retv, argsEnv, ev, cst, cst1, cstL, AEnv.get, AEnv.trim, envput, qstep, abin, aun, evs, evo, deref, qload, target, if_true, if_false, Nat.reduceEqDiff, reduceIte, Nat.reduceAdd, AV.cells, AV.isTuple, setMany, alen, aiaddr, afill, Nat.reduceLeDiff, Nat.reduceMul, Nat.reduceLT, afillE, List.replicate, bc_get hlt]
    refine withBool_intro ?_ ?_ <;> intro hr <;> simp only [walk, wl, rgets, retv, argsEnv, ev, cst, cst1, cstL, AEnv.get, AEnv.trim, envput, qstep, abin, aun, evs, evo, deref, qload, target, if_true, if_false, Nat.reduceEqDiff, reduceIte, Nat.reduceAdd, AV.cells, AV.isTuple, setMany, alen, aiaddr, afill, Nat.reduceLeDiff, Nat.reduceMul, Nat.reduceLT, afillE, List.replicate]
    · rw [ix_at hlt hall hr]; exact out_int
    · rw [wrap_id (by omega) (by omega)]
      refine loop_end (k + 1) ⟨hlt, all_take hall hlt (by simp [hr])⟩ (by omega) rfl trivial
  · have hk' : k = bs.length := by simp at hb; omega
    subst hk'
    rw [List.take_length] at hall
    rw [ix_none hall]; exact out_int
theorem contains109 {b : Bool} {bs : List Bool} (hl : bs.length ≤ big) : PCall Try.prog 109 [.ro false (bc bs), .bool b] (.bool (bs.any fun x => b == x)) := by
  refine PCall.intro text109 (by simp) ?_
  unfold ir109
  simp only [walk, wl, rgets, retv, argsEnv, ev, cst, cst1, cstL, AEnv.get, AEnv.trim, envput, qstep, abin, aun, evs, evo, deref, qload, target, if_true, if_false, Nat.reduceEqDiff, reduceIte, Nat.reduceAdd, AV.cells, AV.isTuple, setMany, alen, aiaddr, afill, Nat.reduceLeDiff, Nat.reduceMul, Nat.reduceLT, afillE, List.replicate]
  refine call_pure (index125 hl) (frzL_of' (d := 4) (carL_cons (car_ro_false (bc_simple bs)) rfl)) ?_
  simp only [walk, wl, rgets, retv, argsEnv, ev, cst, cst1, cstL, AEnv.get, AEnv.trim, envput, qstep, abin, aun, evs, evo, deref, qload, target, if_true, if_false, Nat.reduceEqDiff, reduceIte, Nat.reduceAdd, AV.cells, AV.isTuple, setMany, alen, aiaddr, afill, Nat.reduceLeDiff, Nat.reduceMul, Nat.reduceLT, afillE, List.replicate]
  rw [ix_ge]; exact out_bool
def asked (n : Int) (ds : List Df) (bs : List Bool) : Int := if valid n ds then (if bs.all id then 0 else 1) else 40
theorem asked_ok (n : Int) (ds : List Df) (bs : List Bool) (hl : bs.length ≤ big) : PCall Try.prog 77 [.agg [I n, .ro false (rows ds)], .ro false (bc bs)] (I (asked n ds bs)) := by
  refine PCall.intro text77 (by simp) ?_
  unfold ir77
  simp only [walk, wl, rgets, retv, argsEnv, ev, cst, cst1, cstL, AEnv.get, AEnv.trim, envput, qstep, abin, aun, evs, evo, deref, qload, target, if_true, if_false, Nat.reduceEqDiff, reduceIte, Nat.reduceAdd, AV.cells, AV.isTuple, setMany, alen, aiaddr, afill, Nat.reduceLeDiff, Nat.reduceMul, Nat.reduceLT, afillE, List.replicate]
  refine call_pure (check_ok n ds) (frzL_of' (d := 4) (carL_cons car_netF rfl)) ?_
  simp only [walk, wl, rgets, retv, argsEnv, ev, cst, cst1, cstL, AEnv.get, AEnv.trim, envput, qstep, abin, aun, evs, evo, deref, qload, target, if_true, if_false, Nat.reduceEqDiff, reduceIte, Nat.reduceAdd, AV.cells, AV.isTuple, setMany, alen, aiaddr, afill, Nat.reduceLeDiff, Nat.reduceMul, Nat.reduceLT, afillE, List.replicate]
  refine withBool_intro ?_ ?_ <;> intro h <;> simp only [walk, wl, rgets, retv, argsEnv, ev, cst, cst1, cstL, AEnv.get, AEnv.trim, envput, qstep, abin, aun, evs, evo, deref, qload, target, if_true, if_false, Nat.reduceEqDiff, reduceIte, Nat.reduceAdd, AV.cells, AV.isTuple, setMany, alen, aiaddr, afill, Nat.reduceLeDiff, Nat.reduceMul, Nat.reduceLT, afillE, List.replicate]
  · have h' : valid n ds = false := by
      cases hv : valid n ds with
      | false => rfl
      | true => simp [check, hv] at h
    simp only [asked, check, h']; exact out_int
  · have h' : valid n ds = true := by
      cases hv : valid n ds with
      | true => rfl
      | false => simp [check, hv] at h
    refine call_pure (contains109 hl) (frzL_of' (d := 4) (carL_cons (car_ro_false (bc_simple bs)) rfl)) ?_
    simp only [walk, wl, rgets, retv, argsEnv, ev, cst, cst1, cstL, AEnv.get, AEnv.trim, envput, qstep, abin, aun, evs, evo, deref, qload, target, if_true, if_false, Nat.reduceEqDiff, reduceIte, Nat.reduceAdd, AV.cells, AV.isTuple, setMany, alen, aiaddr, afill, Nat.reduceLeDiff, Nat.reduceMul, Nat.reduceLT, afillE, List.replicate]
    refine withBool_intro ?_ ?_ <;> intro h2 <;> simp only [walk, wl, rgets, retv, argsEnv, ev, cst, cst1, cstL, AEnv.get, AEnv.trim, envput, qstep, abin, aun, evs, evo, deref, qload, target, if_true, if_false, Nat.reduceEqDiff, reduceIte, Nat.reduceAdd, AV.cells, AV.isTuple, setMany, alen, aiaddr, afill, Nat.reduceLeDiff, Nat.reduceMul, Nat.reduceLT, afillE, List.replicate]
    · have e : asked n ds bs = 1 := by
        simp at h2
        simp [asked, h', h2]
      rw [e]; exact out_int
    · have e : asked n ds bs = 0 := by
        have : bs.all id = true := by
          rw [List.all_eq_true]; rw [List.any_eq_false] at h2
          intro x hx; have := h2 x hx; simpa using this
        simp only [asked, h', this]; rfl
      rw [e]; exact out_int
end Go.Proofs.Ytepnijjgdhldeaa
namespace Go.Proofs.Ytepnijjgdhldeaa
open Go.Awp
set_option linter.unusedSimpArgs false
set_option linter.unusedVariables false
set_option maxRecDepth 10000
def at0 (xs : List Int) (i : Int) : Int := xs.getD i.toNat 0
theorem at_get {xs : List Int} {i : Int} (h0 : 0 ≤ i) (h : i < xs.length) : (ic xs)[i.toNat]? = some [I (at0 xs i)] := by
  have hk : i.toNat < xs.length := by omega
  rw [ic_get hk]
  simp [at0, hk]
theorem far_le {x : Int} (h : far x = false) : -1099511627776 ≤ x ∧ x ≤ 1099511627776 := by
  simp [far] at h; exact h
theorem at_far {xs : List Int} {i : Int} (h : ∀ x, x ∈ xs → far x = false) : -1099511627776 ≤ at0 xs i ∧ at0 xs i ≤ 1099511627776 := by
  unfold at0
  rcases Nat.lt_or_ge i.toNat xs.length with hk | hk
  · have : xs.getD i.toNat 0 = xs[i.toNat] := by simp [hk]
    rw [this]; exact far_le (h _ (List.getElem_mem hk))
  · have : xs.getD i.toNat 0 = 0 := by simp [hk]
    rw [this]; omega
def over (xs : List Int) (d : Df) : Bool := decide (at0 xs d.2.1 - at0 xs d.1 > d.2.2)
theorem right_lt {d : Df} {n : Int} (h : right d n = true) : (0 ≤ d.1 ∧ d.1 < n) ∧ (0 ≤ d.2.1 ∧ d.2.1 < n) ∧ -1073741824 ≤ d.2.2 ∧ d.2.2 ≤ 1073741824 := by
  simp [right] at h; omega
theorem over_ok (d : Df) (xs : List Int) (hr : right d xs.length = true) (hf : ∀ x, x ∈ xs → far x = false) : PCall Try.prog 119 [.agg (dc d), .rop [.ro false (ic xs)]] (.bool (over xs d)) := by
  refine PCall.intro text119 (by simp) ?_
  unfold ir119
  obtain ⟨⟨a1, a2⟩, ⟨b1, b2⟩, _⟩ := right_lt hr
  have f1 := at_far (i := d.1) hf
  have f2 := at_far (i := d.2.1) hf
  simp only [walk, wl, rgets, retv, argsEnv, ev, cst, cst1, cstL, AEnv.get, AEnv.trim, envput, qstep, abin, aun, evs, evo, deref, qload, target, if_true, if_false, Nat.reduceEqDiff, reduceIte, Nat.reduceAdd, AV.cells, AV.isTuple, setMany, alen, aiaddr, afill, Nat.reduceLeDiff, Nat.reduceMul, Nat.reduceLT, afillE, List.replicate, dc, if_pos a1, if_pos b1, at_get a1 a2, at_get b1 b2, wrap_id (show -9223372036854775808 ≤ at0 xs d.2.1 - at0 xs d.1 by omega) (by omega)]
  exact out_bool
def holds (ds : List Df) (xs : List Int) : Bool := decide (at0 xs 0 = 0) && !ds.any (over xs)
theorem holds_ok (n : Int) (ds : List Df) (xs : List Int) (hv : valid n ds = true) (hn : numbers n xs = true) : PCall Try.prog 97 [.agg [I n, .ro false (rows ds)], .ro false (ic xs)] (.bool (holds ds xs)) := by
  refine PCall.intro text97 (by simp) ?_
  unfold ir97
  obtain ⟨h1, h2, h3⟩ := valid_iff.1 hv
  have hn' := hn
  simp [numbers] at hn'
  obtain ⟨e1, e2⟩ := hn'
  have hf : ∀ x, x ∈ xs → far x = false := e2
  have hlen : (0 : Int) < xs.length := by omega
  have g0 := at_get (xs := xs) (i := 0) (by omega) hlen
  simp only [walk, wl, rgets, retv, argsEnv, ev, cst, cst1, cstL, AEnv.get, AEnv.trim, envput, qstep, abin, aun, evs, evo, deref, qload, target, if_true, if_false, Nat.reduceEqDiff, reduceIte, Nat.reduceAdd, AV.cells, AV.isTuple, setMany, alen, aiaddr, afill, Nat.reduceLeDiff, Nat.reduceMul, Nat.reduceLT, afillE, List.replicate, Int.le_refl, g0]
  refine withGuard_intro ?_ ?_ <;> intro h <;> simp only [walk, wl, rgets, retv, argsEnv, ev, cst, cst1, cstL, AEnv.get, AEnv.trim, envput, qstep, abin, aun, evs, evo, deref, qload, target, if_true, if_false, Nat.reduceEqDiff, reduceIte, Nat.reduceAdd, AV.cells, AV.isTuple, setMany, alen, aiaddr, afill, Nat.reduceLeDiff, Nat.reduceMul, Nat.reduceLT, afillE, List.replicate, h]
  · refine call_pure (contains118 (p := over xs) (caps := [.rop [.ro false (ic xs)]]) rfl (fun _ => carL_cons (car_ropF (carL_cons (car_icF (d := 1)) rfl)) rfl) (fun d hd => over_ok d xs (by rw [e1]; exact h3 d hd) hf) (by unfold big; omega)) (frzL_of' (d := 5) (carL_cons car_rowsF (carL_cons (car_func (carL_cons (car_ptr rfl (carL_cons car_icF rfl)) rfl)) rfl))) ?_
    simp only [walk, wl, rgets, retv, argsEnv, ev, cst, cst1, cstL, AEnv.get, AEnv.trim, envput, qstep, abin, aun, evs, evo, deref, qload, target, if_true, if_false, Nat.reduceEqDiff, reduceIte, Nat.reduceAdd, AV.cells, AV.isTuple, setMany, alen, aiaddr, afill, Nat.reduceLeDiff, Nat.reduceMul, Nat.reduceLT, afillE, List.replicate]
    have e : holds ds xs = !ds.any (over xs) := by
      simp at h; simp [holds, h]
    rw [e]; exact out_bool
  · have e : holds ds xs = false := by
      simp at h; simp [holds, h]
    rw [e]; exact out_bool
/-- Holds, as the program answers. -/
def Holds (n : Int) (ds : List Df) (xs : List Int) : Bool × Int := if valid n ds then (if numbers n xs then (holds ds xs, 0) else (false, 1)) else (false, 40)
theorem Holds_ok (n : Int) (ds : List Df) (xs : List Int) (hl : xs.length ≤ big) : PCall Try.prog 51 [.agg [I n, .ro false (rows ds)], .ro false (ic xs)] (.tuple [.bool (Holds n ds xs).1, I (Holds n ds xs).2]) := by
  refine PCall.intro text51 (by simp) ?_
  unfold ir51
  simp only [walk, wl, rgets, retv, argsEnv, ev, cst, cst1, cstL, AEnv.get, AEnv.trim, envput, qstep, abin, aun, evs, evo, deref, qload, target, if_true, if_false, Nat.reduceEqDiff, reduceIte, Nat.reduceAdd, AV.cells, AV.isTuple, setMany, alen, aiaddr, afill, Nat.reduceLeDiff, Nat.reduceMul, Nat.reduceLT, afillE, List.replicate]
  refine dcall_pure (numbers_ok n xs hl) (frzL_of (d := 4) (carL_cons rfl (carL_cons car_icF rfl))) ?_
  simp only [walk, wl, rgets, retv, argsEnv, ev, cst, cst1, cstL, AEnv.get, AEnv.trim, envput, qstep, abin, aun, evs, evo, deref, qload, target, if_true, if_false, Nat.reduceEqDiff, reduceIte, Nat.reduceAdd, AV.cells, AV.isTuple, setMany, alen, aiaddr, afill, Nat.reduceLeDiff, Nat.reduceMul, Nat.reduceLT, afillE, List.replicate]
  refine call_pure (asked_ok n ds [numbers n xs] (by simp [big])) (frzL_of' (d := 4) (carL_cons car_netF (carL_cons (car_own (o := ⟨4, 1, [[.bool (numbers n xs)]]⟩) rfl (bc_simple [numbers n xs])) rfl))) ?_
  simp only [walk, wl, rgets, retv, argsEnv, ev, cst, cst1, cstL, AEnv.get, AEnv.trim, envput, qstep, abin, aun, evs, evo, deref, qload, target, if_true, if_false, Nat.reduceEqDiff, reduceIte, Nat.reduceAdd, AV.cells, AV.isTuple, setMany, alen, aiaddr, afill, Nat.reduceLeDiff, Nat.reduceMul, Nat.reduceLT, afillE, List.replicate]
  refine withBool_intro ?_ ?_ <;> intro h <;> simp only [walk, wl, rgets, retv, argsEnv, ev, cst, cst1, cstL, AEnv.get, AEnv.trim, envput, qstep, abin, aun, evs, evo, deref, qload, target, if_true, if_false, Nat.reduceEqDiff, reduceIte, Nat.reduceAdd, AV.cells, AV.isTuple, setMany, alen, aiaddr, afill, Nat.reduceLeDiff, Nat.reduceMul, Nat.reduceLT, afillE, List.replicate]
  · have e : Holds n ds xs = (false, asked n ds [numbers n xs]) := by
      simp [asked] at h
      unfold Holds asked
      split at h
      · split at h
        · simp at h
        · simp_all
      · simp_all
    rw [e]; exact out_two out_bool out_int
  · have hv : valid n ds = true ∧ numbers n xs = true := by
      simp [asked] at h
      split at h
      · split at h
        · simp_all
        · simp at h
      · simp at h
    refine call_pure (holds_ok n ds xs hv.1 hv.2) (frzL_of' (d := 4) (carL_cons car_netF (carL_cons car_icF rfl))) ?_
    simp only [walk, wl, rgets, retv, argsEnv, ev, cst, cst1, cstL, AEnv.get, AEnv.trim, envput, qstep, abin, aun, evs, evo, deref, qload, target, if_true, if_false, Nat.reduceEqDiff, reduceIte, Nat.reduceAdd, AV.cells, AV.isTuple, setMany, alen, aiaddr, afill, Nat.reduceLeDiff, Nat.reduceMul, Nat.reduceLT, afillE, List.replicate]
    have e : Holds n ds xs = (holds ds xs, 0) := by simp [Holds, hv.1, hv.2]
    rw [e]; exact out_two out_bool out_int
theorem Numbers_ok (n : Int) (ds : List Df) (xs : List Int) (hl : xs.length ≤ big) : PCall Try.prog 87 [.agg [I n, .ro false (rows ds)], .ro false (ic xs)] (.bool (numbers n xs)) := by
  unfold big at hl
  refine PCall.intro text87 (by simp) ?_
  unfold ir87
  simp only [walk, wl, rgets, retv, argsEnv, ev, cst, cst1, cstL, AEnv.get, AEnv.trim, envput, qstep, abin, aun, evs, evo, deref, qload, target, if_true, if_false, Nat.reduceEqDiff, reduceIte, Nat.reduceAdd, AV.cells, AV.isTuple, setMany, alen, aiaddr, afill, Nat.reduceLeDiff, Nat.reduceMul, Nat.reduceLT, afillE, List.replicate, ic_length]
  refine withBool_intro ?_ ?_ <;> intro h <;> simp only [walk, wl, rgets, retv, argsEnv, ev, cst, cst1, cstL, AEnv.get, AEnv.trim, envput, qstep, abin, aun, evs, evo, deref, qload, target, if_true, if_false, Nat.reduceEqDiff, reduceIte, Nat.reduceAdd, AV.cells, AV.isTuple, setMany, alen, aiaddr, afill, Nat.reduceLeDiff, Nat.reduceMul, Nat.reduceLT, afillE, List.replicate]
  · have e : numbers n xs = false := by
      simp at h; simp [numbers, h]
    rw [e]; exact out_bool
  · have hn : (xs.length : Int) = n := by simpa using h
    refine awp_loop (σ := Nat) (fun k => [(1, .ro false (ic xs)), (5, I k)]) (fun _ _ => True) (fun k => k ≤ xs.length ∧ (xs.take k).all (fun x => !far x) = true) (fun k => xs.length - k) 0 ⟨Nat.zero_le _, rfl⟩ rfl trivial ?_
    rintro k H ⟨hk, hall⟩ -
    simp only [walk, wl, rgets, retv, argsEnv, ev, cst, cst1, cstL, AEnv.get, AEnv.trim, envput, qstep, abin, aun, evs, evo, deref, qload, target, if_true, if_false, Nat.reduceEqDiff, reduceIte, Nat.reduceAdd, AV.cells, AV.isTuple, setMany, alen, aiaddr, afill, Nat.reduceLeDiff, Nat.reduceMul, Nat.reduceLT, afillE, List.replicate, ic_length]
    refine withBool_intro ?_ ?_ <;> intro hb <;> simp only [walk, wl, rgets, retv, argsEnv, ev, cst, cst1, cstL, AEnv.get, AEnv.trim, envput, qstep, abin, aun, evs, evo, deref, qload, target, if_true, if_false, Nat.reduceEqDiff, reduceIte, Nat.reduceAdd, AV.cells, AV.isTuple, setMany, alen, aiaddr, afill, Nat.reduceLeDiff, Nat.reduceMul, Nat.reduceLT, afillE, List.replicate]
    · have hlt : k < xs.length := by simpa using hb
      have bad : far xs[k] = true → numbers n xs = false := by
        intro hf
        have : xs.any far = true := List.any_eq_true.2 ⟨_, List.getElem_mem hlt, hf⟩
        simp [numbers, this]
      simp only [walk, wl, rgets, retv, argsEnv, ev, cst, cst1, cstL, AEnv.get, AEnv.trim, envput, qstep, abin, aun, evs, evo, deref, qload, target, if_true, if_false, Nat.reduceEqDiff, reduceIte, Nat.reduceAdd, AV.cells, AV.isTuple, setMany, alen, aiaddr, afill, Nat.reduceLeDiff, Nat.reduceMul, Nat.reduceLT, afillE, List.replicate, ic_get hlt]
      refine withGuard_intro ?_ ?_ <;> intro h1 <;> simp only [walk, wl, rgets, retv, argsEnv, ev, cst, cst1, cstL, AEnv.get, AEnv.trim, envput, qstep, abin, aun, evs, evo, deref, qload, target, if_true, if_false, Nat.reduceEqDiff, reduceIte, Nat.reduceAdd, AV.cells, AV.isTuple, setMany, alen, aiaddr, afill, Nat.reduceLeDiff, Nat.reduceMul, Nat.reduceLT, afillE, List.replicate, h1, ic_get hlt]
      · refine withBool_intro ?_ ?_ <;> intro h2 <;> simp only [walk, wl, rgets, retv, argsEnv, ev, cst, cst1, cstL, AEnv.get, AEnv.trim, envput, qstep, abin, aun, evs, evo, deref, qload, target, if_true, if_false, Nat.reduceEqDiff, reduceIte, Nat.reduceAdd, AV.cells, AV.isTuple, setMany, alen, aiaddr, afill, Nat.reduceLeDiff, Nat.reduceMul, Nat.reduceLT, afillE, List.replicate]
        · rw [bad (by simp at h2; simp only [far, Bool.not_eq_true', Bool.and_eq_false_iff, decide_eq_false_iff_not]; omega)]; exact out_bool
        · have hf : far xs[k] = false := by simp at h1 h2; simp [far]; omega
          rw [wrap_id (by omega) (by omega)]
          refine loop_end (k + 1) ⟨hlt, all_take hall hlt (by simp [hf])⟩ (by omega) rfl trivial
      · rw [bad (by simp at h1; simp [far]; omega)]; exact out_bool
    · have hk' : k = xs.length := by simp at hb; omega
      subst hk'
      rw [List.take_length] at hall
      have e : numbers n xs = true := by
        have : xs.any far = false := by
          rw [List.any_eq_false]; rw [List.all_eq_true] at hall
          intro x hx; have := hall x hx; simpa using this
        simp [numbers, hn, this]
      rw [e]; exact out_bool
end Go.Proofs.Ytepnijjgdhldeaa
namespace Go.Proofs.Ytepnijjgdhldeaa
open Go.Awp
set_option linter.unusedSimpArgs false
set_option linter.unusedVariables false
set_option maxRecDepth 10000
theorem Fulfils_ok (n : Int) (ds : List Df) (xs : List Int) (hv : valid n ds = true) (hl : xs.length ≤ big) : PCall Try.prog 37 [.agg [I n, .ro false (rows ds)], .ro false (ic xs)] (.bool (numbers n xs && holds ds xs)) := by
  obtain ⟨h1, h2, h3⟩ := valid_iff.1 hv
  refine PCall.intro text37 (by simp) ?_
  unfold ir37
  simp only [walk, wl, rgets, retv, argsEnv, ev, cst, cst1, cstL, AEnv.get, AEnv.trim, envput, qstep, abin, aun, evs, evo, deref, qload, target, if_true, if_false, Nat.reduceEqDiff, reduceIte, Nat.reduceAdd, AV.cells, AV.isTuple, setMany, alen, aiaddr, afill, Nat.reduceLeDiff, Nat.reduceMul, Nat.reduceLT, afillE, List.replicate]
  refine call_pure (Numbers_ok n ds xs hl) (frzL_of' (d := 4) (carL_cons car_netF (carL_cons car_icF rfl))) ?_
  simp only [walk, wl, rgets, retv, argsEnv, ev, cst, cst1, cstL, AEnv.get, AEnv.trim, envput, qstep, abin, aun, evs, evo, deref, qload, target, if_true, if_false, Nat.reduceEqDiff, reduceIte, Nat.reduceAdd, AV.cells, AV.isTuple, setMany, alen, aiaddr, afill, Nat.reduceLeDiff, Nat.reduceMul, Nat.reduceLT, afillE, List.replicate]
  refine withGuard_intro ?_ ?_ <;> intro h <;> simp only [walk, wl, rgets, retv, argsEnv, ev, cst, cst1, cstL, AEnv.get, AEnv.trim, envput, qstep, abin, aun, evs, evo, deref, qload, target, if_true, if_false, Nat.reduceEqDiff, reduceIte, Nat.reduceAdd, AV.cells, AV.isTuple, setMany, alen, aiaddr, afill, Nat.reduceLeDiff, Nat.reduceMul, Nat.reduceLT, afillE, List.replicate, h]
  · have hn : numbers n xs = true := by simpa using h
    have hn' := hn
    simp [numbers] at hn'
    obtain ⟨e1, e2⟩ := hn'
    have hf : ∀ x, x ∈ xs → far x = false := e2
    have hlen : (0 : Int) < xs.length := by omega
    have g0 := at_get (xs := xs) (i := 0) (by omega) hlen
    simp only [walk, wl, rgets, retv, argsEnv, ev, cst, cst1, cstL, AEnv.get, AEnv.trim, envput, qstep, abin, aun, evs, evo, deref, qload, target, if_true, if_false, Nat.reduceEqDiff, reduceIte, Nat.reduceAdd, AV.cells, AV.isTuple, setMany, alen, aiaddr, afill, Nat.reduceLeDiff, Nat.reduceMul, Nat.reduceLT, afillE, List.replicate, Int.le_refl, g0]
    refine withBool_intro ?_ ?_ <;> intro h0 <;> simp only [walk, wl, rgets, retv, argsEnv, ev, cst, cst1, cstL, AEnv.get, AEnv.trim, envput, qstep, abin, aun, evs, evo, deref, qload, target, if_true, if_false, Nat.reduceEqDiff, reduceIte, Nat.reduceAdd, AV.cells, AV.isTuple, setMany, alen, aiaddr, afill, Nat.reduceLeDiff, Nat.reduceMul, Nat.reduceLT, afillE, List.replicate]
    · have e : (numbers n xs && holds ds xs) = false := by
        simp at h0; simp [holds, h0]
      rw [e]; exact out_bool
    · have hz : at0 xs 0 = 0 := by simpa using h0
      refine awp_loop (σ := Nat) (fun k => [(1, .ro false (ic xs)), (2, .ptr 0 1 0 0), (5, I k)]) (fun _ H => ∃ X, H = some ⟨24, 2, [[I n, .ro false (rows ds)]]⟩ :: X) (fun k => k ≤ ds.length ∧ (ds.take k).all (fun d => !over xs d) = true) (fun k => ds.length - k) 0 ⟨Nat.zero_le _, rfl⟩ rfl ⟨[], rfl⟩ ?_
      rintro k H ⟨hk, hall⟩ ⟨X, rfl⟩
      simp only [walk, wl, rgets, retv, argsEnv, ev, cst, cst1, cstL, AEnv.get, AEnv.trim, envput, qstep, abin, aun, evs, evo, deref, qload, target, if_true, if_false, Nat.reduceEqDiff, reduceIte, Nat.reduceAdd, AV.cells, AV.isTuple, setMany, alen, aiaddr, afill, Nat.reduceLeDiff, Nat.reduceMul, Nat.reduceLT, afillE, List.replicate, rows_length]
      refine withBool_intro ?_ ?_ <;> intro hb <;> simp only [walk, wl, rgets, retv, argsEnv, ev, cst, cst1, cstL, AEnv.get, AEnv.trim, envput, qstep, abin, aun, evs, evo, deref, qload, target, if_true, if_false, Nat.reduceEqDiff, reduceIte, Nat.reduceAdd, AV.cells, AV.isTuple, setMany, alen, aiaddr, afill, Nat.reduceLeDiff, Nat.reduceMul, Nat.reduceLT, afillE, List.replicate]
      · have hlt : k < ds.length := by simpa using hb
        obtain ⟨⟨a1, a2⟩, ⟨b1, b2⟩, _⟩ := right_lt (h3 _ (List.getElem_mem hlt))
        have f1 := at_far (i := ds[k].1) hf
        have f2 := at_far (i := ds[k].2.1) hf
        simp only [walk, wl, rgets, retv, argsEnv, ev, cst, cst1, cstL, AEnv.get, AEnv.trim, envput, qstep, abin, aun, evs, evo, deref, qload, target, if_true, if_false, Nat.reduceEqDiff, reduceIte, Nat.reduceAdd, AV.cells, AV.isTuple, setMany, alen, aiaddr, afill, Nat.reduceLeDiff, Nat.reduceMul, Nat.reduceLT, afillE, List.replicate, rows_get hlt, if_pos a1, if_pos b1, at_get a1 (by rw [e1]; exact a2), at_get b1 (by rw [e1]; exact b2), wrap_id (show -9223372036854775808 ≤ at0 xs ds[k].2.1 - at0 xs ds[k].1 by omega) (by omega)]
        refine withBool_intro ?_ ?_ <;> intro hr <;> simp only [walk, wl, rgets, retv, argsEnv, ev, cst, cst1, cstL, AEnv.get, AEnv.trim, envput, qstep, abin, aun, evs, evo, deref, qload, target, if_true, if_false, Nat.reduceEqDiff, reduceIte, Nat.reduceAdd, AV.cells, AV.isTuple, setMany, alen, aiaddr, afill, Nat.reduceLeDiff, Nat.reduceMul, Nat.reduceLT, afillE, List.replicate]
        · have e : (numbers n xs && holds ds xs) = false := by
            have : ds.any (over xs) = true := List.any_eq_true.2 ⟨_, List.getElem_mem hlt, hr⟩
            simp [holds, this]
          rw [e]; exact out_bool
        · rw [wrap_id (by omega) (by omega)]
          refine loop_end (k + 1) ⟨hlt, all_take hall hlt (by simp [over, hr])⟩ (by omega) rfl ⟨_, rfl⟩
      · have hk' : k = ds.length := by simp at hb; omega
        subst hk'
        rw [List.take_length] at hall
        have e : (numbers n xs && holds ds xs) = true := by
          have : ds.any (over xs) = false := by
            rw [List.any_eq_false]; rw [List.all_eq_true] at hall
            intro x hx; have := hall x hx; simpa using this
          simp [holds, hz, this, hn]
        rw [e]; exact out_bool
  · have hn : numbers n xs = false := by simpa using h
    rw [hn]; exact out_bool
theorem check_ne {n : Int} {ds : List Df} (h : decide (check n ds ≠ 0) = true) : valid n ds = false := by
  cases hv : valid n ds with
  | false => rfl
  | true => simp [check, hv] at h
theorem check_eq {n : Int} {ds : List Df} (h : decide (check n ds ≠ 0) = false) : valid n ds = true := by
  cases hv : valid n ds with
  | true => rfl
  | false => simp [check, hv] at h
theorem refHolds_ok (n : Int) (ds : List Df) (xs : List Int) (hl : xs.length ≤ big) : PCall Try.prog 60 [.agg [I n, .ro false (rows ds)], .ro false (ic xs)] (.tuple [.bool (Holds n ds xs).1, I (Holds n ds xs).2]) := by
  refine PCall.intro text60 (by simp) ?_
  unfold ir60
  simp only [walk, wl, rgets, retv, argsEnv, ev, cst, cst1, cstL, AEnv.get, AEnv.trim, envput, qstep, abin, aun, evs, evo, deref, qload, target, if_true, if_false, Nat.reduceEqDiff, reduceIte, Nat.reduceAdd, AV.cells, AV.isTuple, setMany, alen, aiaddr, afill, Nat.reduceLeDiff, Nat.reduceMul, Nat.reduceLT, afillE, List.replicate]
  refine call_pure (refCheck_ok n ds) (frzL_of' (d := 4) (carL_cons car_netF rfl)) ?_
  simp only [walk, wl, rgets, retv, argsEnv, ev, cst, cst1, cstL, AEnv.get, AEnv.trim, envput, qstep, abin, aun, evs, evo, deref, qload, target, if_true, if_false, Nat.reduceEqDiff, reduceIte, Nat.reduceAdd, AV.cells, AV.isTuple, setMany, alen, aiaddr, afill, Nat.reduceLeDiff, Nat.reduceMul, Nat.reduceLT, afillE, List.replicate]
  refine withBool_intro ?_ ?_ <;> intro h <;> simp only [walk, wl, rgets, retv, argsEnv, ev, cst, cst1, cstL, AEnv.get, AEnv.trim, envput, qstep, abin, aun, evs, evo, deref, qload, target, if_true, if_false, Nat.reduceEqDiff, reduceIte, Nat.reduceAdd, AV.cells, AV.isTuple, setMany, alen, aiaddr, afill, Nat.reduceLeDiff, Nat.reduceMul, Nat.reduceLT, afillE, List.replicate]
  · have hv : valid n ds = false := by
      cases hv : valid n ds with
      | false => rfl
      | true => simp [check, hv] at h
    have e : Holds n ds xs = (false, 40) := by simp [Holds, hv]
    rw [e]; exact out_two out_bool out_int
  · have hv : valid n ds = true := by
      cases hv : valid n ds with
      | true => rfl
      | false => simp [check, hv] at h
    refine call_pure (Numbers_ok n ds xs hl) (frzL_of' (d := 4) (carL_cons car_netF (carL_cons car_icF rfl))) ?_
    simp only [walk, wl, rgets, retv, argsEnv, ev, cst, cst1, cstL, AEnv.get, AEnv.trim, envput, qstep, abin, aun, evs, evo, deref, qload, target, if_true, if_false, Nat.reduceEqDiff, reduceIte, Nat.reduceAdd, AV.cells, AV.isTuple, setMany, alen, aiaddr, afill, Nat.reduceLeDiff, Nat.reduceMul, Nat.reduceLT, afillE, List.replicate]
    refine withBool_intro ?_ ?_ <;> intro h2 <;> simp only [walk, wl, rgets, retv, argsEnv, ev, cst, cst1, cstL, AEnv.get, AEnv.trim, envput, qstep, abin, aun, evs, evo, deref, qload, target, if_true, if_false, Nat.reduceEqDiff, reduceIte, Nat.reduceAdd, AV.cells, AV.isTuple, setMany, alen, aiaddr, afill, Nat.reduceLeDiff, Nat.reduceMul, Nat.reduceLT, afillE, List.replicate]
    · have e : Holds n ds xs = (false, 1) := by
        simp at h2; simp [Holds, hv, h2]
      rw [e]; exact out_two out_bool out_int
    · refine call_pure (Fulfils_ok n ds xs hv hl) (frzL_of' (d := 4) (carL_cons car_netF (carL_cons car_icF rfl))) ?_
      simp only [walk, wl, rgets, retv, argsEnv, ev, cst, cst1, cstL, AEnv.get, AEnv.trim, envput, qstep, abin, aun, evs, evo, deref, qload, target, if_true, if_false, Nat.reduceEqDiff, reduceIte, Nat.reduceAdd, AV.cells, AV.isTuple, setMany, alen, aiaddr, afill, Nat.reduceLeDiff, Nat.reduceMul, Nat.reduceLT, afillE, List.replicate]
      have e : Holds n ds xs = (numbers n xs && holds ds xs, 0) := by
        simp at h2; simp [Holds, hv, h2]
      rw [e]; exact out_two out_bool out_int
/-- SameNets, as the program answers. -/
def sameNets (n : Int) (ds : List Df) (n' : Int) (ds' : List Df) : Bool := decide (n = n') && decide (ds = ds')
theorem sameNets_ok (n n' : Int) (ds ds' : List Df) (hl : ds.length ≤ big) (hl' : ds'.length ≤ big) : PCall Try.prog 62 [.agg [I n, .ro false (rows ds)], .agg [I n', .ro false (rows ds')]] (.bool (sameNets n ds n' ds')) := by
  unfold big at hl hl'
  refine PCall.intro text62 (by simp) ?_
  unfold ir62
  simp only [walk, wl, rgets, retv, argsEnv, ev, cst, cst1, cstL, AEnv.get, AEnv.trim, envput, qstep, abin, aun, evs, evo, deref, qload, target, if_true, if_false, Nat.reduceEqDiff, reduceIte, Nat.reduceAdd, AV.cells, AV.isTuple, setMany, alen, aiaddr, afill, Nat.reduceLeDiff, Nat.reduceMul, Nat.reduceLT, afillE, List.replicate, rows_length]
  refine withGuard_intro ?_ ?_ <;> intro h <;> simp only [walk, wl, rgets, retv, argsEnv, ev, cst, cst1, cstL, AEnv.get, AEnv.trim, envput, qstep, abin, aun, evs, evo, deref, qload, target, if_true, if_false, Nat.reduceEqDiff, reduceIte, Nat.reduceAdd, AV.cells, AV.isTuple, setMany, alen, aiaddr, afill, Nat.reduceLeDiff, Nat.reduceMul, Nat.reduceLT, afillE, List.replicate, h, rows_length]
  · have hn : n = n' := by simpa using h
    refine withBool_intro ?_ ?_ <;> intro h2 <;> simp only [walk, wl, rgets, retv, argsEnv, ev, cst, cst1, cstL, AEnv.get, AEnv.trim, envput, qstep, abin, aun, evs, evo, deref, qload, target, if_true, if_false, Nat.reduceEqDiff, reduceIte, Nat.reduceAdd, AV.cells, AV.isTuple, setMany, alen, aiaddr, afill, Nat.reduceLeDiff, Nat.reduceMul, Nat.reduceLT, afillE, List.replicate]
    · have e : sameNets n ds n' ds' = false := by
        have : ds ≠ ds' := by intro e; subst e; simp at h2
        simp [sameNets, this]
      rw [e]; exact out_bool
    · have hll : ds.length = ds'.length := by simp at h2; omega
      refine awp_loop (σ := Nat) (fun k => [(2, .ptr 0 1 0 0), (3, .ptr 1 1 0 0), (5, I k)]) (fun _ H => ∃ X, H = some ⟨24, 2, [[I n, .ro false (rows ds)]]⟩ :: some ⟨24, 2, [[I n', .ro false (rows ds')]]⟩ :: X) (fun k => k ≤ ds.length ∧ ds.take k = ds'.take k) (fun k => ds.length - k) 0 ⟨Nat.zero_le _, rfl⟩ rfl ⟨[], rfl⟩ ?_
      rintro k H ⟨hk, hall⟩ ⟨X, rfl⟩
      simp only [walk, wl, rgets, retv, argsEnv, ev, cst, cst1, cstL, AEnv.get, AEnv.trim, envput, qstep, abin, aun, evs, evo, deref, qload, target, if_true, if_false, Nat.reduceEqDiff, reduceIte, Nat.reduceAdd, AV.cells, AV.isTuple, setMany, alen, aiaddr, afill, Nat.reduceLeDiff, Nat.reduceMul, Nat.reduceLT, afillE, List.replicate, rows_length]
      refine withBool_intro ?_ ?_ <;> intro hb <;> simp only [walk, wl, rgets, retv, argsEnv, ev, cst, cst1, cstL, AEnv.get, AEnv.trim, envput, qstep, abin, aun, evs, evo, deref, qload, target, if_true, if_false, Nat.reduceEqDiff, reduceIte, Nat.reduceAdd, AV.cells, AV.isTuple, setMany, alen, aiaddr, afill, Nat.reduceLeDiff, Nat.reduceMul, Nat.reduceLT, afillE, List.replicate]
      · have hlt : k < ds.length := by simpa using hb
        simp only [walk, wl, rgets, retv, argsEnv, ev, cst, cst1, cstL, AEnv.get, AEnv.trim, envput, qstep, abin, aun, evs, evo, deref, qload, target, if_true, if_false, Nat.reduceEqDiff, reduceIte, Nat.reduceAdd, AV.cells, AV.isTuple, setMany, alen, aiaddr, afill, Nat.reduceLeDiff, Nat.reduceMul, Nat.reduceLT, afillE, List.replicate, rows_get hlt, rows_get (show k < ds'.length by omega), aeqO]
        have key : (ds[k].1 == ds'[k].1 && (ds[k].2.1 == ds'[k].2.1 && (ds[k].2.2 == ds'[k].2.2 && true))) = decide (ds[k] = ds'[k]) := by
          rw [Bool.eq_iff_iff]
          simp [Prod.ext_iff]
        rw [key]
        refine withBool_intro ?_ ?_ <;> intro hr <;> simp only [walk, wl, rgets, retv, argsEnv, ev, cst, cst1, cstL, AEnv.get, AEnv.trim, envput, qstep, abin, aun, evs, evo, deref, qload, target, if_true, if_false, Nat.reduceEqDiff, reduceIte, Nat.reduceAdd, AV.cells, AV.isTuple, setMany, alen, aiaddr, afill, Nat.reduceLeDiff, Nat.reduceMul, Nat.reduceLT, afillE, List.replicate]
        · have e : sameNets n ds n' ds' = false := by
            have : ds ≠ ds' := by intro e; subst e; simp at hr
            simp [sameNets, this]
          rw [e]; exact out_bool
        · rw [wrap_id (by omega) (by omega)]
          refine loop_end (k + 1) ⟨hlt, ?_⟩ (by omega) rfl ⟨_, rfl⟩
          have : ds[k] = ds'[k] := by simpa using hr
          rw [List.take_succ_eq_append_getElem hlt, List.take_succ_eq_append_getElem (show k < ds'.length by omega), hall, this]
      · have hk' : k = ds.length := by simp at hb; omega
        subst hk'
        rw [List.take_length, hll, List.take_length] at hall
        have e : sameNets n ds n' ds' = true := by simp [sameNets, hn, hall]
        rw [e]; exact out_bool
  · have e : sameNets n ds n' ds' = false := by
      simp at h; simp [sameNets, h]
    rw [e]; exact out_bool
end Go.Proofs.Ytepnijjgdhldeaa
namespace Go.Proofs.Ytepnijjgdhldeaa
open Go.Awp
set_option linter.unusedSimpArgs false
set_option linter.unusedVariables false
set_option maxRecDepth 10000
theorem equal_ok (xs ys : List Int) (hl : xs.length ≤ big) (hl' : ys.length ≤ big) : PCall Try.prog 28 [.ro false (ic xs), .ro false (ic ys)] (.bool (decide (xs = ys))) := by
  unfold big at hl hl'
  refine PCall.intro text28 (by simp) ?_
  unfold ir28
  simp only [walk, wl, rgets, retv, argsEnv, ev, cst, cst1, cstL, AEnv.get, AEnv.trim, envput, qstep, abin, aun, evs, evo, deref, qload, target, if_true, if_false, Nat.reduceEqDiff, reduceIte, Nat.reduceAdd, AV.cells, AV.isTuple, setMany, alen, aiaddr, afill, Nat.reduceLeDiff, Nat.reduceMul, Nat.reduceLT, afillE, List.replicate, ic_length]
  refine withBool_intro ?_ ?_ <;> intro h <;> simp only [walk, wl, rgets, retv, argsEnv, ev, cst, cst1, cstL, AEnv.get, AEnv.trim, envput, qstep, abin, aun, evs, evo, deref, qload, target, if_true, if_false, Nat.reduceEqDiff, reduceIte, Nat.reduceAdd, AV.cells, AV.isTuple, setMany, alen, aiaddr, afill, Nat.reduceLeDiff, Nat.reduceMul, Nat.reduceLT, afillE, List.replicate, ic_length]
  · have : xs ≠ ys := by intro e; subst e; simp at h
    simp only [this, decide_false]; exact out_bool
  · have hll : xs.length = ys.length := by simp at h; omega
    refine awp_loop (σ := Nat) (fun k => [(0, .ro false (ic xs)), (1, .ro false (ic ys)), (12, I xs.length), (13, I k)]) (fun _ _ => True) (fun k => k ≤ xs.length ∧ xs.take k = ys.take k) (fun k => xs.length - k) 0 ⟨Nat.zero_le _, rfl⟩ rfl trivial ?_
    rintro k H ⟨hk, hall⟩ -
    simp only [walk, wl, rgets, retv, argsEnv, ev, cst, cst1, cstL, AEnv.get, AEnv.trim, envput, qstep, abin, aun, evs, evo, deref, qload, target, if_true, if_false, Nat.reduceEqDiff, reduceIte, Nat.reduceAdd, AV.cells, AV.isTuple, setMany, alen, aiaddr, afill, Nat.reduceLeDiff, Nat.reduceMul, Nat.reduceLT, afillE, List.replicate]
    refine withBool_intro ?_ ?_ <;> intro hb <;> simp only [walk, wl, rgets, retv, argsEnv, ev, cst, cst1, cstL, AEnv.get, AEnv.trim, envput, qstep, abin, aun, evs, evo, deref, qload, target, if_true, if_false, Nat.reduceEqDiff, reduceIte, Nat.reduceAdd, AV.cells, AV.isTuple, setMany, alen, aiaddr, afill, Nat.reduceLeDiff, Nat.reduceMul, Nat.reduceLT, afillE, List.replicate]
    · have hlt : k < xs.length := by simpa using hb
      simp only [walk, wl, rgets, retv, argsEnv, ev, cst, cst1, cstL, AEnv.get, AEnv.trim, envput, qstep, abin, aun, evs, evo, deref, qload, target, if_true, if_false, Nat.reduceEqDiff, reduceIte, Nat.reduceAdd, AV.cells, AV.isTuple, setMany, alen, aiaddr, afill, Nat.reduceLeDiff, Nat.reduceMul, Nat.reduceLT, afillE, List.replicate, ic_get hlt, ic_get (show k < ys.length by omega)]
      refine withBool_intro ?_ ?_ <;> intro hr <;> simp only [walk, wl, rgets, retv, argsEnv, ev, cst, cst1, cstL, AEnv.get, AEnv.trim, envput, qstep, abin, aun, evs, evo, deref, qload, target, if_true, if_false, Nat.reduceEqDiff, reduceIte, Nat.reduceAdd, AV.cells, AV.isTuple, setMany, alen, aiaddr, afill, Nat.reduceLeDiff, Nat.reduceMul, Nat.reduceLT, afillE, List.replicate]
      · have : xs ≠ ys := by intro e; subst e; simp at hr
        simp only [this, decide_false]; exact out_bool
      · rw [wrap_id (by omega) (by omega)]
        refine loop_end (k + 1) ⟨hlt, ?_⟩ (by omega) rfl trivial
        have : xs[k] = ys[k] := by simpa using hr
        rw [List.take_succ_eq_append_getElem hlt, List.take_succ_eq_append_getElem (show k < ys.length by omega), hall, this]
    · have hk' : k = xs.length := by simp at hb; omega
      subst hk'
      rw [List.take_length, hll, List.take_length] at hall
      simp only [hall, decide_true]; exact out_bool

theorem obj_keep {H X : AHeap} {i : Nat} {o : AObj} (h : AHeap.obj H i = some o) : AHeap.obj (H ++ X) i = some o := by
  rw [AHeap.obj_push_lt (AHeap.obj_lt h)]; exact h
theorem Acc.keepObj {lo : Nat} {H : AHeap} {a : AV} {e s : Nat} {els : List (List AV)} (h : Acc lo H a e s els) {X : AHeap} : Acc lo (H ++ X) a e s els := h.push X

theorem accW_append {lo : Nat} {H : AHeap} {a : AV} {e s bytes hl : Nat} {els : List (List AV)} {r : List AV} {env : AEnv} {x y : Operand} {K : AV → AHeap → Prop} (hlo : lo ≤ H.length) (hacc : Acc lo H a e s els) (hx : ev env x = some a) (hy : ev env y = some (.own hl 1 0 1)) (hobj : AHeap.obj H hl = some ⟨e, s, [r]⟩)
    (hb : els.length + 1 ≤ 140737488355328 ∧ (els.length + 1) * bytes ≤ 140737488355328) (hk : ∀ a' H', H.length ≤ H'.length → Acc lo H' a' e s (els ++ [r]) → (∀ i, i < lo → AHeap.obj H' i = AHeap.obj H i) → K a' H') : withW (sstep (.append e s bytes x y) env H) K := by
  have := acc_append hlo hacc hx hy hobj hb hk
  unfold withRes at this
  unfold withW
  split at this
  · rename_i x' H' e; rw [e]; exact this
  · rename_i H' e; rw [e]; exact this
  · exact this.elim
theorem rows_snoc (ds : List Df) (d : Df) : rows (ds ++ [d]) = rows ds ++ [dc d] := by simp [rows, dc]
theorem rows_take {ds : List Df} {k : Nat} (h : k < ds.length) : rows (ds.take (k + 1)) = rows (ds.take k) ++ [dc ds[k]] := by
  rw [List.take_succ_eq_append_getElem h, rows_snoc]
theorem With_ok (n : Int) (ds : List Df) (d : Df) (hl : ds.length < 4096) : PCall Try.prog 100 [.agg [I n, .ro false (rows ds)], .agg (dc d)] (.agg [I n, .ro true (rows (ds ++ [d]))]) := by
  refine PCall.intro text100 (by simp) ?_
  unfold ir100
  simp only [walk, wl, rgets, retv, argsEnv, ev, cst, cst1, cstL, AEnv.get, AEnv.trim, envput, qstep, abin, aun, evs, evo, deref, qload, target, if_true, if_false, Nat.reduceEqDiff, reduceIte, Nat.reduceAdd, AV.cells, AV.isTuple, setMany, alen, aiaddr, afill, Nat.reduceLeDiff, Nat.reduceMul, Nat.reduceLT, afillE, List.replicate, dc]
  refine awp_loop (σ := Nat × AV) (fun s => [(2, .ptr 0 1 0 0), (3, .ptr 1 1 0 0), (4, .ptr 2 1 0 0), (5, s.2), (6, I s.1)])
    (fun s H => AHeap.obj H 0 = some ⟨24, 2, [[I n, .ro false (rows ds)]]⟩ ∧ AHeap.obj H 1 = some ⟨39, 3, [[I d.1, I d.2.1, I d.2.2]]⟩ ∧ AHeap.obj H 2 = some ⟨24, 2, [[I 0, .nilSlice]]⟩ ∧ 3 ≤ H.length ∧ Acc 3 H s.2 39 3 (rows (ds.take s.1)))
    (fun s => s.1 ≤ ds.length) (fun s => ds.length - s.1) (0, .nilSlice) (Nat.zero_le _) rfl ⟨rfl, rfl, rfl, by simp, .inl ⟨rfl, rfl⟩⟩ ?_
  rintro ⟨k, a⟩ H hk ⟨o0, o1, o2, hlen, hacc⟩
  simp only at hk hacc
  simp only [walk, wl, rgets, retv, argsEnv, ev, cst, cst1, cstL, AEnv.get, AEnv.trim, envput, qstep, abin, aun, evs, evo, deref, qload, target, if_true, if_false, Nat.reduceEqDiff, reduceIte, Nat.reduceAdd, AV.cells, AV.isTuple, setMany, alen, aiaddr, afill, Nat.reduceLeDiff, Nat.reduceMul, Nat.reduceLT, afillE, List.replicate, o0, rows_length]
  refine withBool_intro ?_ ?_ <;> intro hb <;> simp only [walk, wl, rgets, retv, argsEnv, ev, cst, cst1, cstL, AEnv.get, AEnv.trim, envput, qstep, abin, aun, evs, evo, deref, qload, target, if_true, if_false, Nat.reduceEqDiff, reduceIte, Nat.reduceAdd, AV.cells, AV.isTuple, setMany, alen, aiaddr, afill, Nat.reduceLeDiff, Nat.reduceMul, Nat.reduceLT, afillE, List.replicate]
  · have hlt : k < ds.length := by simpa using hb
    simp only [walk, wl, rgets, retv, argsEnv, ev, cst, cst1, cstL, AEnv.get, AEnv.trim, envput, qstep, abin, aun, evs, evo, deref, qload, target, if_true, if_false, Nat.reduceEqDiff, reduceIte, Nat.reduceAdd, AV.cells, AV.isTuple, setMany, alen, aiaddr, afill, Nat.reduceLeDiff, Nat.reduceMul, Nat.reduceLT, afillE, List.replicate, o0, rows_get hlt]
    refine acc_append (lo := 3) (by simp; omega) (hacc.push _) rfl rfl AHeap.obj_push_eq (by simp only [rows_length, List.length_take]; omega) fun a' H' hl' hacc' hkeep => ?_
    simp only [walk, wl, rgets, retv, argsEnv, ev, cst, cst1, cstL, AEnv.get, AEnv.trim, envput, qstep, abin, aun, evs, evo, deref, qload, target, if_true, if_false, Nat.reduceEqDiff, reduceIte, Nat.reduceAdd, AV.cells, AV.isTuple, setMany, alen, aiaddr, afill, Nat.reduceLeDiff, Nat.reduceMul, Nat.reduceLT, afillE, List.replicate]
    rw [wrap_id (by omega) (by omega)]
    have e : ∀ i, i < 3 → AHeap.obj H' i = AHeap.obj H i := fun i hi => by rw [hkeep i hi, AHeap.obj_push_lt (by omega)]
    refine loop_end (k + 1, a') hlt (by simp only; omega) rfl ⟨by rw [e 0 (by omega)]; exact o0, by rw [e 1 (by omega)]; exact o1, by rw [e 2 (by omega)]; exact o2, by simp at hl'; omega, ?_⟩
    simp only [rows_take hlt]; exact hacc'
  · have hk' : k = ds.length := by simp at hb; omega
    subst hk'
    rw [List.take_length] at hacc
    simp only [walk, wl, rgets, retv, argsEnv, ev, cst, cst1, cstL, AEnv.get, AEnv.trim, envput, qstep, abin, aun, evs, evo, deref, qload, target, if_true, if_false, Nat.reduceEqDiff, reduceIte, Nat.reduceAdd, AV.cells, AV.isTuple, setMany, alen, aiaddr, afill, Nat.reduceLeDiff, Nat.reduceMul, Nat.reduceLT, afillE, List.replicate, o0, o1, o2]
    refine accW_append (lo := 3) (by simp; omega) (hacc.push _) rfl rfl AHeap.obj_push_eq (by simp only [rows_length]; omega) fun a' H' hl' hacc' hkeep => ?_
    have e : ∀ i, i < 3 → AHeap.obj H' i = AHeap.obj H i := fun i hi => by rw [hkeep i hi, AHeap.obj_push_lt (by omega)]
    have o0' := (e 0 (by omega)).trans o0
    have o2' := (e 2 (by omega)).trans o2
    have o0'' : AHeap.obj (H ++ [some ⟨39, 3, [[I d.1, I d.2.1, I d.2.2]]⟩]) 0 = some ⟨24, 2, [[I n, .ro false (rows ds)]]⟩ := obj_keep o0
    have hacc2 := hacc'
    obtain ⟨q, q1, rfl, q3⟩ := hacc'.resolve_left (by simp)
    simp only [walk, wl, rgets, retv, argsEnv, ev, cst, cst1, cstL, AEnv.get, AEnv.trim, envput, qstep, abin, aun, evs, evo, deref, qload, target, if_true, if_false, Nat.reduceEqDiff, reduceIte, Nat.reduceAdd, AV.cells, AV.isTuple, setMany, alen, aiaddr, afill, Nat.reduceLeDiff, Nat.reduceMul, Nat.reduceLT, afillE, List.replicate, o0', o2', o0, o0'', AHeap.obj_set_eq (AHeap.obj_lt o2')]
    have hs : rows ds ++ [[I d.1, I d.2.1, I d.2.2]] = rows (ds ++ [d]) := by rw [rows_snoc]; rfl
    rw [hs] at q3
    rw [show (rows ds).length + 1 = (rows (ds ++ [d])).length by simp [rows_length]]
    exact out_agg2 out_int (Acc.out (lo := 3) (.inr ⟨q, q1, rfl, by rw [AHeap.obj_set_ne (by omega)]; exact q3⟩) (rows_simple _)) rfl rfl
end Go.Proofs.Ytepnijjgdhldeaa
namespace Go.Proofs.Ytepnijjgdhldeaa
open Go.Awp
set_option linter.unusedSimpArgs false
set_option linter.unusedVariables false
set_option maxRecDepth 10000
/-- Add, as both programs answer: the number of nodes, the differences, the error. -/
def added (n : Int) (ds : List Df) (d : Df) : Int × List Df × Int :=
  if valid n ds then (if ds.length = 4096 then (0, [], 2) else if right d n then (n, ds ++ [d], 0) else (0, [], 40)) else (0, [], 40)
theorem out_none {H : AHeap} {e : Int} : Out H (.tuple [.agg [I 0, .nilSlice], I e]) (.tuple [.agg [I 0, .ro true (rows [])], I e]) := out_two (out_agg2 out_int out_nil rfl rfl) out_int
theorem Add_ok (n : Int) (ds : List Df) (d : Df) : PCall Try.prog 58 [.agg [I n, .ro false (rows ds)], .agg (dc d)] (.tuple [.agg [I (added n ds d).1, .ro true (rows (added n ds d).2.1)], I (added n ds d).2.2]) := by
  refine PCall.intro text58 (by simp) ?_
  unfold ir58
  simp only [walk, wl, rgets, retv, argsEnv, ev, cst, cst1, cstL, AEnv.get, AEnv.trim, envput, qstep, abin, aun, evs, evo, deref, qload, target, if_true, if_false, Nat.reduceEqDiff, reduceIte, Nat.reduceAdd, AV.cells, AV.isTuple, setMany, alen, aiaddr, afill, Nat.reduceLeDiff, Nat.reduceMul, Nat.reduceLT, afillE, List.replicate, dc]
  refine call_pure (check_ok n ds) (frzL_of' (d := 4) (carL_cons car_netF rfl)) ?_
  simp only [walk, wl, rgets, retv, argsEnv, ev, cst, cst1, cstL, AEnv.get, AEnv.trim, envput, qstep, abin, aun, evs, evo, deref, qload, target, if_true, if_false, Nat.reduceEqDiff, reduceIte, Nat.reduceAdd, AV.cells, AV.isTuple, setMany, alen, aiaddr, afill, Nat.reduceLeDiff, Nat.reduceMul, Nat.reduceLT, afillE, List.replicate]
  refine withBool_intro ?_ ?_ <;> intro h <;> simp only [walk, wl, rgets, retv, argsEnv, ev, cst, cst1, cstL, AEnv.get, AEnv.trim, envput, qstep, abin, aun, evs, evo, deref, qload, target, if_true, if_false, Nat.reduceEqDiff, reduceIte, Nat.reduceAdd, AV.cells, AV.isTuple, setMany, alen, aiaddr, afill, Nat.reduceLeDiff, Nat.reduceMul, Nat.reduceLT, afillE, List.replicate]
  · have hv := check_ne (by simpa using h)
    have e : added n ds d = (0, [], 40) := by simp [added, hv]
    simp only [e, check, hv]
    exact out_none
  · have hv := check_eq (by simpa using h)
    obtain ⟨h1, h2, h3⟩ := valid_iff.1 hv
    simp only [walk, wl, rgets, retv, argsEnv, ev, cst, cst1, cstL, AEnv.get, AEnv.trim, envput, qstep, abin, aun, evs, evo, deref, qload, target, if_true, if_false, Nat.reduceEqDiff, reduceIte, Nat.reduceAdd, AV.cells, AV.isTuple, setMany, alen, aiaddr, afill, Nat.reduceLeDiff, Nat.reduceMul, Nat.reduceLT, afillE, List.replicate, rows_length]
    refine withBool_intro ?_ ?_ <;> intro h4 <;> simp only [walk, wl, rgets, retv, argsEnv, ev, cst, cst1, cstL, AEnv.get, AEnv.trim, envput, qstep, abin, aun, evs, evo, deref, qload, target, if_true, if_false, Nat.reduceEqDiff, reduceIte, Nat.reduceAdd, AV.cells, AV.isTuple, setMany, alen, aiaddr, afill, Nat.reduceLeDiff, Nat.reduceMul, Nat.reduceLT, afillE, List.replicate]
    · have e : added n ds d = (0, [], 2) := by
        have : ds.length = 4096 := by simp at h4; omega
        simp [added, hv, this]
      rw [e]; exact out_none
    · have h4' : ds.length ≠ 4096 := by simp at h4; omega
      refine call_pure (right_ok d n (by omega) h1.2) (frzL_of' (d := 4) rfl) ?_
      simp only [walk, wl, rgets, retv, argsEnv, ev, cst, cst1, cstL, AEnv.get, AEnv.trim, envput, qstep, abin, aun, evs, evo, deref, qload, target, if_true, if_false, Nat.reduceEqDiff, reduceIte, Nat.reduceAdd, AV.cells, AV.isTuple, setMany, alen, aiaddr, afill, Nat.reduceLeDiff, Nat.reduceMul, Nat.reduceLT, afillE, List.replicate]
      refine withBool_intro ?_ ?_ <;> intro h5 <;> simp only [walk, wl, rgets, retv, argsEnv, ev, cst, cst1, cstL, AEnv.get, AEnv.trim, envput, qstep, abin, aun, evs, evo, deref, qload, target, if_true, if_false, Nat.reduceEqDiff, reduceIte, Nat.reduceAdd, AV.cells, AV.isTuple, setMany, alen, aiaddr, afill, Nat.reduceLeDiff, Nat.reduceMul, Nat.reduceLT, afillE, List.replicate]
      · have e : added n ds d = (0, [], 40) := by
          have : right d n = false := by simpa using h5
          simp [added, hv, h4', this]
        rw [e]; exact out_none
      · have e : added n ds d = (n, ds ++ [d], 0) := by
          have : right d n = true := by simpa using h5
          simp [added, hv, h4', this]
        rw [e]
        by_cases hd : ds = []
        · subst hd
          refine dcall_pure (clone57_nil (b := false)) (fun X => frzL_of (d := 4) rfl X) ?_
          simp only [walk, wl, rgets, retv, argsEnv, ev, cst, cst1, cstL, AEnv.get, AEnv.trim, envput, qstep, abin, aun, evs, evo, deref, qload, target, if_true, if_false, Nat.reduceEqDiff, reduceIte, Nat.reduceAdd, AV.cells, AV.isTuple, setMany, alen, aiaddr, afill, Nat.reduceLeDiff, Nat.reduceMul, Nat.reduceLT, afillE, List.replicate]
          refine accW_append (lo := 3) (els := rows []) (by simp) (.inl ⟨rfl, rfl⟩) rfl rfl rfl (by simp [rows_length]) fun a' H' hl' hacc' hkeep => ?_
          have o0 := hkeep 0 (by omega)
          have o2 := hkeep 2 (by omega)
          simp only [AHeap.obj, List.getElem?_cons_zero, List.getElem?_cons_succ, Option.join_some] at o0 o2
          change AHeap.obj H' 0 = _ at o0
          change AHeap.obj H' 2 = _ at o2
          obtain ⟨q, q1, rfl, q3⟩ := hacc'.resolve_left (by simp)
          simp only [walk, wl, rgets, retv, argsEnv, ev, cst, cst1, cstL, AEnv.get, AEnv.trim, envput, qstep, abin, aun, evs, evo, deref, qload, target, if_true, if_false, Nat.reduceEqDiff, reduceIte, Nat.reduceAdd, AV.cells, AV.isTuple, setMany, alen, aiaddr, afill, Nat.reduceLeDiff, Nat.reduceMul, Nat.reduceLT, afillE, List.replicate, o0, o2, AHeap.obj_set_eq (AHeap.obj_lt o2)]
          have hs : rows [] ++ [[I d.1, I d.2.1, I d.2.2]] = rows ([] ++ [d]) := by rw [rows_snoc]; rfl
          rw [hs] at q3
          rw [show (rows []).length + 1 = (rows ([] ++ [d])).length by simp [rows_length]]
          exact out_two (out_agg2 out_int (Acc.out (lo := 3) (.inr ⟨q, q1, rfl, by rw [AHeap.obj_set_ne (by omega)]; exact q3⟩) (rows_simple _)) rfl rfl) out_int
        · refine dcall_new (clone57_new (b := false) hd h2) (fun X => frzL_of (d := 4) (carL_cons car_rowsF rfl) X) ?_
          simp only [walk, wl, rgets, retv, argsEnv, ev, cst, cst1, cstL, AEnv.get, AEnv.trim, envput, qstep, abin, aun, evs, evo, deref, qload, target, if_true, if_false, Nat.reduceEqDiff, reduceIte, Nat.reduceAdd, AV.cells, AV.isTuple, setMany, alen, aiaddr, afill, Nat.reduceLeDiff, Nat.reduceMul, Nat.reduceLT, afillE, List.replicate, rows_length]
          refine accW_append (lo := 3) (els := rows ds) (by simp) (.inr ⟨3, Nat.le_refl _, by rw [rows_length], rfl⟩) rfl rfl rfl (by simp only [rows_length]; omega) fun a' H' hl' hacc' hkeep => ?_
          have o0 := hkeep 0 (by omega)
          have o2 := hkeep 2 (by omega)
          simp only [AHeap.obj, List.getElem?_cons_zero, List.getElem?_cons_succ, Option.join_some] at o0 o2
          change AHeap.obj H' 0 = _ at o0
          change AHeap.obj H' 2 = _ at o2
          obtain ⟨q, q1, rfl, q3⟩ := hacc'.resolve_left (by simp)
          simp only [walk, wl, rgets, retv, argsEnv, ev, cst, cst1, cstL, AEnv.get, AEnv.trim, envput, qstep, abin, aun, evs, evo, deref, qload, target, if_true, if_false, Nat.reduceEqDiff, reduceIte, Nat.reduceAdd, AV.cells, AV.isTuple, setMany, alen, aiaddr, afill, Nat.reduceLeDiff, Nat.reduceMul, Nat.reduceLT, afillE, List.replicate, o0, o2, AHeap.obj_set_eq (AHeap.obj_lt o2)]
          have hs : rows ds ++ [[I d.1, I d.2.1, I d.2.2]] = rows (ds ++ [d]) := by rw [rows_snoc]; rfl
          rw [hs] at q3
          rw [show (rows ds).length + 1 = (rows (ds ++ [d])).length by simp [rows_length]]
          exact out_two (out_agg2 out_int (Acc.out (lo := 3) (.inr ⟨q, q1, rfl, by rw [AHeap.obj_set_ne (by omega)]; exact q3⟩) (rows_simple _)) rfl rfl) out_int
end Go.Proofs.Ytepnijjgdhldeaa
namespace Go.Proofs.Ytepnijjgdhldeaa
open Go.Awp
set_option linter.unusedSimpArgs false
set_option linter.unusedVariables false
set_option maxRecDepth 10000
theorem refAdd_ok (n : Int) (ds : List Df) (d : Df) : PCall Try.prog 59 [.agg [I n, .ro false (rows ds)], .agg (dc d)] (.tuple [.agg [I (added n ds d).1, .ro true (rows (added n ds d).2.1)], I (added n ds d).2.2]) := by
  refine PCall.intro text59 (by simp) ?_
  unfold ir59
  simp only [walk, wl, rgets, retv, argsEnv, ev, cst, cst1, cstL, AEnv.get, AEnv.trim, envput, qstep, abin, aun, evs, evo, deref, qload, target, if_true, if_false, Nat.reduceEqDiff, reduceIte, Nat.reduceAdd, AV.cells, AV.isTuple, setMany, alen, aiaddr, afill, Nat.reduceLeDiff, Nat.reduceMul, Nat.reduceLT, afillE, List.replicate, dc]
  refine call_pure (refCheck_ok n ds) (frzL_of' (d := 4) (carL_cons car_netF rfl)) ?_
  simp only [walk, wl, rgets, retv, argsEnv, ev, cst, cst1, cstL, AEnv.get, AEnv.trim, envput, qstep, abin, aun, evs, evo, deref, qload, target, if_true, if_false, Nat.reduceEqDiff, reduceIte, Nat.reduceAdd, AV.cells, AV.isTuple, setMany, alen, aiaddr, afill, Nat.reduceLeDiff, Nat.reduceMul, Nat.reduceLT, afillE, List.replicate]
  refine withBool_intro ?_ ?_ <;> intro h <;> simp only [walk, wl, rgets, retv, argsEnv, ev, cst, cst1, cstL, AEnv.get, AEnv.trim, envput, qstep, abin, aun, evs, evo, deref, qload, target, if_true, if_false, Nat.reduceEqDiff, reduceIte, Nat.reduceAdd, AV.cells, AV.isTuple, setMany, alen, aiaddr, afill, Nat.reduceLeDiff, Nat.reduceMul, Nat.reduceLT, afillE, List.replicate]
  · have hv := check_ne (by simpa using h)
    have e : added n ds d = (0, [], 40) := by simp [added, hv]
    rw [e]
    exact out_none
  · have hv := check_eq (by simpa using h)
    obtain ⟨h1, h2, h3⟩ := valid_iff.1 hv
    simp only [walk, wl, rgets, retv, argsEnv, ev, cst, cst1, cstL, AEnv.get, AEnv.trim, envput, qstep, abin, aun, evs, evo, deref, qload, target, if_true, if_false, Nat.reduceEqDiff, reduceIte, Nat.reduceAdd, AV.cells, AV.isTuple, setMany, alen, aiaddr, afill, Nat.reduceLeDiff, Nat.reduceMul, Nat.reduceLT, afillE, List.replicate, rows_length]
    refine withBool_intro ?_ ?_ <;> intro h4 <;> simp only [walk, wl, rgets, retv, argsEnv, ev, cst, cst1, cstL, AEnv.get, AEnv.trim, envput, qstep, abin, aun, evs, evo, deref, qload, target, if_true, if_false, Nat.reduceEqDiff, reduceIte, Nat.reduceAdd, AV.cells, AV.isTuple, setMany, alen, aiaddr, afill, Nat.reduceLeDiff, Nat.reduceMul, Nat.reduceLT, afillE, List.replicate]
    · have e : added n ds d = (0, [], 2) := by
        have : ds.length = 4096 := by simp at h4; omega
        simp [added, hv, this]
      rw [e]; exact out_none
    · have h4' : ds.length ≠ 4096 := by simp at h4; omega
      refine call_pure (Valid_ok d n) (frzL_of' (d := 4) rfl) ?_
      simp only [walk, wl, rgets, retv, argsEnv, ev, cst, cst1, cstL, AEnv.get, AEnv.trim, envput, qstep, abin, aun, evs, evo, deref, qload, target, if_true, if_false, Nat.reduceEqDiff, reduceIte, Nat.reduceAdd, AV.cells, AV.isTuple, setMany, alen, aiaddr, afill, Nat.reduceLeDiff, Nat.reduceMul, Nat.reduceLT, afillE, List.replicate]
      refine withBool_intro ?_ ?_ <;> intro h5 <;> simp only [walk, wl, rgets, retv, argsEnv, ev, cst, cst1, cstL, AEnv.get, AEnv.trim, envput, qstep, abin, aun, evs, evo, deref, qload, target, if_true, if_false, Nat.reduceEqDiff, reduceIte, Nat.reduceAdd, AV.cells, AV.isTuple, setMany, alen, aiaddr, afill, Nat.reduceLeDiff, Nat.reduceMul, Nat.reduceLT, afillE, List.replicate]
      · have e : added n ds d = (0, [], 40) := by
          have : right d n = false := by simpa using h5
          simp [added, hv, h4', this]
        rw [e]; exact out_none
      · have e : added n ds d = (n, ds ++ [d], 0) := by
          have : right d n = true := by simpa using h5
          simp [added, hv, h4', this]
        rw [e]
        refine call_pure (With_ok n ds d (by omega)) (frzL_of' (d := 4) (carL_cons car_netF rfl)) ?_
        simp only [walk, wl, rgets, retv, argsEnv, ev, cst, cst1, cstL, AEnv.get, AEnv.trim, envput, qstep, abin, aun, evs, evo, deref, qload, target, if_true, if_false, Nat.reduceEqDiff, reduceIte, Nat.reduceAdd, AV.cells, AV.isTuple, setMany, alen, aiaddr, afill, Nat.reduceLeDiff, Nat.reduceMul, Nat.reduceLT, afillE, List.replicate]
        exact out_two (out_of (d := 4) (car_net (.inr rfl))) out_int
theorem numbers_len {n : Int} {xs : List Int} (h : numbers n xs = true) : (xs.length : Int) = n := by
  simp [numbers] at h; exact h.1
/-- Higher, as both programs answer. -/
def higher (n : Int) (ds : List Df) (xs ys : List Int) : List Int × Int :=
  if valid n ds then (if numbers n xs && numbers n ys then (if holds ds xs && holds ds ys then (List.zipWith max xs ys, 0) else ([], 43)) else ([], 1)) else ([], 40)
theorem out_noneL {H : AHeap} {e : Int} : Out H (.tuple [.nilSlice, I e]) (.tuple [.ro true (ic []), I e]) := out_two out_nil out_int
theorem amm_max {x y : Int} : amm true [I x, I y] = some (I (max x y)) := by
  simp only [amm, amm.go, if_true]
  congr 2
  rw [Int.max_def]
  split <;> split <;> omega
theorem amm_min {x y : Int} : amm false [I x, I y] = some (I (min x y)) := by
  simp only [amm, amm.go, Bool.false_eq_true, if_false]
  congr 2
  rw [Int.min_def]
  split <;> split <;> omega
def hi (xs ys : List Int) (k : Nat) : List Int := List.zipWith max (xs.take k) (ys.take k) ++ xs.drop k
theorem hi_len {xs ys : List Int} (h : xs.length = ys.length) (k : Nat) : (hi xs ys k).length = xs.length := by
  simp [hi]; omega
theorem hi_get {xs ys : List Int} (h : xs.length = ys.length) {k : Nat} (hk : k < xs.length) : (hi xs ys k)[k]? = some xs[k] := by
  unfold hi
  rw [List.getElem?_append_right (by simp; omega)]
  simp only [List.length_zipWith, List.length_take, List.getElem?_drop]
  rw [show k + (k - min (min k xs.length) (min k ys.length)) = k by omega, List.getElem?_eq_getElem hk]
theorem hi_set {xs ys : List Int} (h : xs.length = ys.length) {k : Nat} (hk : k < xs.length) : (hi xs ys k).set k (max xs[k] (ys[k]'(by omega))) = hi xs ys (k + 1) := by
  unfold hi
  rw [List.set_append_right _ _ (by simp; omega), List.take_succ_eq_append_getElem hk, List.take_succ_eq_append_getElem (show k < ys.length by omega), List.zipWith_append (by simp; omega), List.append_assoc]
  congr 1
  rw [show k - (List.zipWith max (xs.take k) (ys.take k)).length = 0 by simp; omega, List.drop_eq_getElem_cons hk, List.set_cons_zero]
  rfl
theorem ic_set {xs : List Int} {k : Nat} {v : Int} : (ic xs).set k [I v] = ic (xs.set k v) := by simp [ic, List.map_set]
theorem hi_end {xs ys : List Int} (h : xs.length = ys.length) : hi xs ys xs.length = List.zipWith max xs ys := by
  unfold hi
  rw [List.take_length, h, List.take_length, ← h, List.drop_length, List.append_nil]
theorem Higher_ok (n : Int) (ds : List Df) (xs ys : List Int) (hl : xs.length ≤ big) (hl' : ys.length ≤ big) : PCall Try.prog 50 [.agg [I n, .ro false (rows ds)], .ro false (ic xs), .ro false (ic ys)] (.tuple [.ro true (ic (higher n ds xs ys).1), I (higher n ds xs ys).2]) := by
  refine PCall.intro text50 (by simp) ?_
  unfold ir50
  simp only [walk, wl, rgets, retv, argsEnv, ev, cst, cst1, cstL, AEnv.get, AEnv.trim, envput, qstep, abin, aun, evs, evo, deref, qload, target, if_true, if_false, Nat.reduceEqDiff, reduceIte, Nat.reduceAdd, AV.cells, AV.isTuple, setMany, alen, aiaddr, afill, Nat.reduceLeDiff, Nat.reduceMul, Nat.reduceLT, afillE, List.replicate]
  refine dcall_pure (numbers_ok n xs hl) (frzL_of (d := 4) (carL_cons rfl (carL_cons car_icF rfl))) ?_
  simp only [walk, wl, rgets, retv, argsEnv, ev, cst, cst1, cstL, AEnv.get, AEnv.trim, envput, qstep, abin, aun, evs, evo, deref, qload, target, if_true, if_false, Nat.reduceEqDiff, reduceIte, Nat.reduceAdd, AV.cells, AV.isTuple, setMany, alen, aiaddr, afill, Nat.reduceLeDiff, Nat.reduceMul, Nat.reduceLT, afillE, List.replicate]
  refine dcall_pure (numbers_ok n ys hl') (frzL_of (d := 4) (carL_cons rfl (carL_cons car_icF rfl))) ?_
  simp only [walk, wl, rgets, retv, argsEnv, ev, cst, cst1, cstL, AEnv.get, AEnv.trim, envput, qstep, abin, aun, evs, evo, deref, qload, target, if_true, if_false, Nat.reduceEqDiff, reduceIte, Nat.reduceAdd, AV.cells, AV.isTuple, setMany, alen, aiaddr, afill, Nat.reduceLeDiff, Nat.reduceMul, Nat.reduceLT, afillE, List.replicate]
  refine call_pure (asked_ok n ds [numbers n xs, numbers n ys] (by simp [big])) (frzL_of' (d := 4) (carL_cons car_netF (carL_cons (car_own (o := ⟨4, 1, [[.bool (numbers n xs)], [.bool (numbers n ys)]]⟩) rfl (bc_simple [numbers n xs, numbers n ys])) rfl))) ?_
  simp only [walk, wl, rgets, retv, argsEnv, ev, cst, cst1, cstL, AEnv.get, AEnv.trim, envput, qstep, abin, aun, evs, evo, deref, qload, target, if_true, if_false, Nat.reduceEqDiff, reduceIte, Nat.reduceAdd, AV.cells, AV.isTuple, setMany, alen, aiaddr, afill, Nat.reduceLeDiff, Nat.reduceMul, Nat.reduceLT, afillE, List.replicate]
  refine withBool_intro ?_ ?_ <;> intro h <;> simp only [walk, wl, rgets, retv, argsEnv, ev, cst, cst1, cstL, AEnv.get, AEnv.trim, envput, qstep, abin, aun, evs, evo, deref, qload, target, if_true, if_false, Nat.reduceEqDiff, reduceIte, Nat.reduceAdd, AV.cells, AV.isTuple, setMany, alen, aiaddr, afill, Nat.reduceLeDiff, Nat.reduceMul, Nat.reduceLT, afillE, List.replicate]
  · have e : higher n ds xs ys = ([], asked n ds [numbers n xs, numbers n ys]) := by
      unfold higher asked
      cases hv : valid n ds <;> cases h1 : numbers n xs <;> cases h2 : numbers n ys <;> simp [asked, hv, h1, h2] at h ⊢
    rw [e]; exact out_noneL
  · have hv : valid n ds = true ∧ numbers n xs = true ∧ numbers n ys = true := by
      cases hv : valid n ds <;> cases h1 : numbers n xs <;> cases h2 : numbers n ys <;> simp [asked, hv, h1, h2] at h ⊢
    obtain ⟨hv, hx, hy⟩ := hv
    have lx := numbers_len hx
    have ly := numbers_len hy
    obtain ⟨v1, v2, v3⟩ := valid_iff.1 hv
    refine call_pure (holds_ok n ds xs hv hx) (frzL_of' (d := 4) (carL_cons car_netF (carL_cons car_icF rfl))) ?_
    simp only [walk, wl, rgets, retv, argsEnv, ev, cst, cst1, cstL, AEnv.get, AEnv.trim, envput, qstep, abin, aun, evs, evo, deref, qload, target, if_true, if_false, Nat.reduceEqDiff, reduceIte, Nat.reduceAdd, AV.cells, AV.isTuple, setMany, alen, aiaddr, afill, Nat.reduceLeDiff, Nat.reduceMul, Nat.reduceLT, afillE, List.replicate]
    refine withGuard_intro ?_ ?_ <;> intro h4 <;> simp only [walk, wl, rgets, retv, argsEnv, ev, cst, cst1, cstL, AEnv.get, AEnv.trim, envput, qstep, abin, aun, evs, evo, deref, qload, target, if_true, if_false, Nat.reduceEqDiff, reduceIte, Nat.reduceAdd, AV.cells, AV.isTuple, setMany, alen, aiaddr, afill, Nat.reduceLeDiff, Nat.reduceMul, Nat.reduceLT, afillE, List.replicate, h4]
    · have hhx : holds ds xs = true := by simpa using h4
      refine call_pure (holds_ok n ds ys hv hy) (frzL_of' (d := 4) (carL_cons car_netF (carL_cons car_icF rfl))) ?_
      simp only [walk, wl, rgets, retv, argsEnv, ev, cst, cst1, cstL, AEnv.get, AEnv.trim, envput, qstep, abin, aun, evs, evo, deref, qload, target, if_true, if_false, Nat.reduceEqDiff, reduceIte, Nat.reduceAdd, AV.cells, AV.isTuple, setMany, alen, aiaddr, afill, Nat.reduceLeDiff, Nat.reduceMul, Nat.reduceLT, afillE, List.replicate, h4]
      refine withBool_intro ?_ ?_ <;> intro h5 <;> simp only [walk, wl, rgets, retv, argsEnv, ev, cst, cst1, cstL, AEnv.get, AEnv.trim, envput, qstep, abin, aun, evs, evo, deref, qload, target, if_true, if_false, Nat.reduceEqDiff, reduceIte, Nat.reduceAdd, AV.cells, AV.isTuple, setMany, alen, aiaddr, afill, Nat.reduceLeDiff, Nat.reduceMul, Nat.reduceLT, afillE, List.replicate]
      · have e : higher n ds xs ys = ([], 43) := by
          have : holds ds ys = false := by simpa using h5
          simp [higher, hv, hx, hy, hhx, this]
        rw [e]; exact out_noneL
      · have hhy : holds ds ys = true := by simpa using h5
        have e : higher n ds xs ys = (List.zipWith max xs ys, 0) := by simp [higher, hv, hx, hy, hhx, hhy]
        rw [e]
        have hne : xs ≠ [] := by intro e; subst e; simp at lx; omega
        refine call_new (clone91_new (b := false) hne (by omega)) (frzL_of' (d := 4) (carL_cons car_icF rfl)) ?_
        simp only [walk, wl, rgets, retv, argsEnv, ev, cst, cst1, cstL, AEnv.get, AEnv.trim, envput, qstep, abin, aun, evs, evo, deref, qload, target, if_true, if_false, Nat.reduceEqDiff, reduceIte, Nat.reduceAdd, AV.cells, AV.isTuple, setMany, alen, aiaddr, afill, Nat.reduceLeDiff, Nat.reduceMul, Nat.reduceLT, afillE, List.replicate, ic_length]
        have hll : xs.length = ys.length := by omega
        refine awp_loop (σ := Nat) (fun k => [(9, .own 2 xs.length 0 xs.length), (38, .ro false (ic ys)), (39, I ys.length), (40, I k)]) (fun k H => ∃ a b, H = [a, b, some ⟨3, 1, ic (hi xs ys k)⟩]) (fun k => k ≤ ys.length) (fun k => ys.length - k) 0 (Nat.zero_le _) rfl ⟨_, _, rfl⟩ ?_
        rintro k H hk ⟨a, b, rfl⟩
        simp only [walk, wl, rgets, retv, argsEnv, ev, cst, cst1, cstL, AEnv.get, AEnv.trim, envput, qstep, abin, aun, evs, evo, deref, qload, target, if_true, if_false, Nat.reduceEqDiff, reduceIte, Nat.reduceAdd, AV.cells, AV.isTuple, setMany, alen, aiaddr, afill, Nat.reduceLeDiff, Nat.reduceMul, Nat.reduceLT, afillE, List.replicate]
        refine withBool_intro ?_ ?_ <;> intro hb <;> simp only [walk, wl, rgets, retv, argsEnv, ev, cst, cst1, cstL, AEnv.get, AEnv.trim, envput, qstep, abin, aun, evs, evo, deref, qload, target, if_true, if_false, Nat.reduceEqDiff, reduceIte, Nat.reduceAdd, AV.cells, AV.isTuple, setMany, alen, aiaddr, afill, Nat.reduceLeDiff, Nat.reduceMul, Nat.reduceLT, afillE, List.replicate]
        · have hlt : k < ys.length := by simpa using hb
          have hg : (ic (hi xs ys k))[k]? = some [I (xs[k]'(by omega))] := by
            have := hi_get hll (show k < xs.length by omega)
            simp only [ic, List.getElem?_map, this, Option.map_some]
          simp only [walk, wl, rgets, retv, argsEnv, ev, cst, cst1, cstL, AEnv.get, AEnv.trim, envput, qstep, abin, aun, evs, evo, deref, qload, target, if_true, if_false, Nat.reduceEqDiff, reduceIte, Nat.reduceAdd, AV.cells, AV.isTuple, setMany, alen, aiaddr, afill, Nat.reduceLeDiff, Nat.reduceMul, Nat.reduceLT, afillE, List.replicate, ic_get hlt, ic_length, hi_len hll, hg, sstep_store, if_pos (show (k : Int) < xs.length by omega), amm_max]
          rw [wrap_id (by omega) (by omega), ic_set, hi_set hll (show k < xs.length by omega)]
          exact loop_end (k + 1) hlt (by omega) rfl ⟨_, _, rfl⟩
        · have hk' : k = ys.length := by simp at hb; omega
          subst hk'
          have e1 : List.zipWith max xs ys = hi xs ys ys.length := by rw [← hll]; exact (hi_end hll).symm
          have e2 : xs.length = (ic (hi xs ys ys.length)).length := by rw [ic_length, hi_len hll]
          rw [e1, e2]
          exact out_two (out_of (d := 2) (car_own (o := ⟨3, 1, ic (hi xs ys ys.length)⟩) rfl (ic_simple _))) out_int
    · have e : higher n ds xs ys = ([], 43) := by
        have : holds ds xs = false := by simpa using h4
        simp [higher, hv, hx, hy, this]
      rw [e]; exact out_noneL
theorem ic_snoc (xs : List Int) (x : Int) : ic (xs ++ [x]) = ic xs ++ [[I x]] := by simp [ic]
theorem zip_take {f : Int → Int → Int} {xs ys : List Int} (h : xs.length = ys.length) {k : Nat} (hk : k < xs.length) : List.zipWith f (xs.take (k + 1)) (ys.take (k + 1)) = List.zipWith f (xs.take k) (ys.take k) ++ [f xs[k] (ys[k]'(by omega))] := by
  rw [List.take_succ_eq_append_getElem hk, List.take_succ_eq_append_getElem (show k < ys.length by omega), List.zipWith_append (by simp; omega)]
  rfl
theorem refHigher_ok (n : Int) (ds : List Df) (xs ys : List Int) (hl : xs.length ≤ big) (hl' : ys.length ≤ big) : PCall Try.prog 61 [.agg [I n, .ro false (rows ds)], .ro false (ic xs), .ro false (ic ys)] (.tuple [.ro true (ic (higher n ds xs ys).1), I (higher n ds xs ys).2]) := by
  refine PCall.intro text61 (by simp) ?_
  unfold ir61
  simp only [walk, wl, rgets, retv, argsEnv, ev, cst, cst1, cstL, AEnv.get, AEnv.trim, envput, qstep, abin, aun, evs, evo, deref, qload, target, if_true, if_false, Nat.reduceEqDiff, reduceIte, Nat.reduceAdd, AV.cells, AV.isTuple, setMany, alen, aiaddr, afill, Nat.reduceLeDiff, Nat.reduceMul, Nat.reduceLT, afillE, List.replicate]
  refine call_pure (refCheck_ok n ds) (frzL_of' (d := 4) (carL_cons car_netF rfl)) ?_
  simp only [walk, wl, rgets, retv, argsEnv, ev, cst, cst1, cstL, AEnv.get, AEnv.trim, envput, qstep, abin, aun, evs, evo, deref, qload, target, if_true, if_false, Nat.reduceEqDiff, reduceIte, Nat.reduceAdd, AV.cells, AV.isTuple, setMany, alen, aiaddr, afill, Nat.reduceLeDiff, Nat.reduceMul, Nat.reduceLT, afillE, List.replicate]
  refine withBool_intro ?_ ?_ <;> intro h <;> simp only [walk, wl, rgets, retv, argsEnv, ev, cst, cst1, cstL, AEnv.get, AEnv.trim, envput, qstep, abin, aun, evs, evo, deref, qload, target, if_true, if_false, Nat.reduceEqDiff, reduceIte, Nat.reduceAdd, AV.cells, AV.isTuple, setMany, alen, aiaddr, afill, Nat.reduceLeDiff, Nat.reduceMul, Nat.reduceLT, afillE, List.replicate]
  · have hv := check_ne (by simpa using h)
    have e : higher n ds xs ys = ([], 40) := by simp [higher, hv]
    rw [e]; exact out_noneL
  · have hv := check_eq (by simpa using h)
    obtain ⟨v1, v2, v3⟩ := valid_iff.1 hv
    refine call_pure (Numbers_ok n ds xs hl) (frzL_of' (d := 4) (carL_cons car_netF (carL_cons car_icF rfl))) ?_
    simp only [walk, wl, rgets, retv, argsEnv, ev, cst, cst1, cstL, AEnv.get, AEnv.trim, envput, qstep, abin, aun, evs, evo, deref, qload, target, if_true, if_false, Nat.reduceEqDiff, reduceIte, Nat.reduceAdd, AV.cells, AV.isTuple, setMany, alen, aiaddr, afill, Nat.reduceLeDiff, Nat.reduceMul, Nat.reduceLT, afillE, List.replicate]
    refine withGuard_intro ?_ ?_ <;> intro h2 <;> simp only [walk, wl, rgets, retv, argsEnv, ev, cst, cst1, cstL, AEnv.get, AEnv.trim, envput, qstep, abin, aun, evs, evo, deref, qload, target, if_true, if_false, Nat.reduceEqDiff, reduceIte, Nat.reduceAdd, AV.cells, AV.isTuple, setMany, alen, aiaddr, afill, Nat.reduceLeDiff, Nat.reduceMul, Nat.reduceLT, afillE, List.replicate, h2]
    · have hx : numbers n xs = true := by simpa using h2
      refine call_pure (Numbers_ok n ds ys hl') (frzL_of' (d := 4) (carL_cons car_netF (carL_cons car_icF rfl))) ?_
      simp only [walk, wl, rgets, retv, argsEnv, ev, cst, cst1, cstL, AEnv.get, AEnv.trim, envput, qstep, abin, aun, evs, evo, deref, qload, target, if_true, if_false, Nat.reduceEqDiff, reduceIte, Nat.reduceAdd, AV.cells, AV.isTuple, setMany, alen, aiaddr, afill, Nat.reduceLeDiff, Nat.reduceMul, Nat.reduceLT, afillE, List.replicate, h2]
      refine withBool_intro ?_ ?_ <;> intro h3 <;> simp only [walk, wl, rgets, retv, argsEnv, ev, cst, cst1, cstL, AEnv.get, AEnv.trim, envput, qstep, abin, aun, evs, evo, deref, qload, target, if_true, if_false, Nat.reduceEqDiff, reduceIte, Nat.reduceAdd, AV.cells, AV.isTuple, setMany, alen, aiaddr, afill, Nat.reduceLeDiff, Nat.reduceMul, Nat.reduceLT, afillE, List.replicate]
      · have e : higher n ds xs ys = ([], 1) := by
          have : numbers n ys = false := by simpa using h3
          simp [higher, hv, hx, this]
        rw [e]; exact out_noneL
      · have hy : numbers n ys = true := by simpa using h3
        have lx := numbers_len hx
        have ly := numbers_len hy
        refine call_pure (Fulfils_ok n ds xs hv hl) (frzL_of' (d := 4) (carL_cons car_netF (carL_cons car_icF rfl))) ?_
        simp only [walk, wl, rgets, retv, argsEnv, ev, cst, cst1, cstL, AEnv.get, AEnv.trim, envput, qstep, abin, aun, evs, evo, deref, qload, target, if_true, if_false, Nat.reduceEqDiff, reduceIte, Nat.reduceAdd, AV.cells, AV.isTuple, setMany, alen, aiaddr, afill, Nat.reduceLeDiff, Nat.reduceMul, Nat.reduceLT, afillE, List.replicate]
        refine withGuard_intro ?_ ?_ <;> intro h4 <;> simp only [walk, wl, rgets, retv, argsEnv, ev, cst, cst1, cstL, AEnv.get, AEnv.trim, envput, qstep, abin, aun, evs, evo, deref, qload, target, if_true, if_false, Nat.reduceEqDiff, reduceIte, Nat.reduceAdd, AV.cells, AV.isTuple, setMany, alen, aiaddr, afill, Nat.reduceLeDiff, Nat.reduceMul, Nat.reduceLT, afillE, List.replicate, h4]
        · have hhx : holds ds xs = true := by simpa [hx] using h4
          refine call_pure (Fulfils_ok n ds ys hv hl') (frzL_of' (d := 4) (carL_cons car_netF (carL_cons car_icF rfl))) ?_
          simp only [walk, wl, rgets, retv, argsEnv, ev, cst, cst1, cstL, AEnv.get, AEnv.trim, envput, qstep, abin, aun, evs, evo, deref, qload, target, if_true, if_false, Nat.reduceEqDiff, reduceIte, Nat.reduceAdd, AV.cells, AV.isTuple, setMany, alen, aiaddr, afill, Nat.reduceLeDiff, Nat.reduceMul, Nat.reduceLT, afillE, List.replicate, h4]
          refine withBool_intro ?_ ?_ <;> intro h5 <;> simp only [walk, wl, rgets, retv, argsEnv, ev, cst, cst1, cstL, AEnv.get, AEnv.trim, envput, qstep, abin, aun, evs, evo, deref, qload, target, if_true, if_false, Nat.reduceEqDiff, reduceIte, Nat.reduceAdd, AV.cells, AV.isTuple, setMany, alen, aiaddr, afill, Nat.reduceLeDiff, Nat.reduceMul, Nat.reduceLT, afillE, List.replicate]
          · have e : higher n ds xs ys = ([], 43) := by
              have : holds ds ys = false := by simpa [hy] using h5
              simp [higher, hv, hx, hy, hhx, this]
            rw [e]; exact out_noneL
          · have hhy : holds ds ys = true := by
              simp [hy] at h5; exact h5
            have e : higher n ds xs ys = (List.zipWith max xs ys, 0) := by simp [higher, hv, hx, hy, hhx, hhy]
            rw [e]
            have hll : xs.length = ys.length := by omega
            refine awp_loop (σ := Nat × AV) (fun s => [(1, .ro false (ic xs)), (2, .ro false (ic ys)), (8, s.2), (9, I s.1)]) (fun s H => Acc 0 H s.2 3 1 (ic (List.zipWith max (xs.take s.1) (ys.take s.1)))) (fun s => s.1 ≤ xs.length) (fun s => xs.length - s.1) (0, .nilSlice) (Nat.zero_le _) rfl (.inl ⟨rfl, rfl⟩) ?_
            rintro ⟨k, a⟩ H hk hacc
            simp only at hk hacc
            simp only [walk, wl, rgets, retv, argsEnv, ev, cst, cst1, cstL, AEnv.get, AEnv.trim, envput, qstep, abin, aun, evs, evo, deref, qload, target, if_true, if_false, Nat.reduceEqDiff, reduceIte, Nat.reduceAdd, AV.cells, AV.isTuple, setMany, alen, aiaddr, afill, Nat.reduceLeDiff, Nat.reduceMul, Nat.reduceLT, afillE, List.replicate, ic_length]
            refine withBool_intro ?_ ?_ <;> intro hb <;> simp only [walk, wl, rgets, retv, argsEnv, ev, cst, cst1, cstL, AEnv.get, AEnv.trim, envput, qstep, abin, aun, evs, evo, deref, qload, target, if_true, if_false, Nat.reduceEqDiff, reduceIte, Nat.reduceAdd, AV.cells, AV.isTuple, setMany, alen, aiaddr, afill, Nat.reduceLeDiff, Nat.reduceMul, Nat.reduceLT, afillE, List.replicate]
            · have hlt : k < xs.length := by simpa using hb
              simp only [walk, wl, rgets, retv, argsEnv, ev, cst, cst1, cstL, AEnv.get, AEnv.trim, envput, qstep, abin, aun, evs, evo, deref, qload, target, if_true, if_false, Nat.reduceEqDiff, reduceIte, Nat.reduceAdd, AV.cells, AV.isTuple, setMany, alen, aiaddr, afill, Nat.reduceLeDiff, Nat.reduceMul, Nat.reduceLT, afillE, List.replicate, ic_get hlt, ic_get (show k < ys.length by omega), amm_max]
              refine acc_append (lo := 0) (by simp) (hacc.push _) rfl rfl AHeap.obj_push_eq (by simp [ic_length]; omega) fun a' H' hl' hacc' hkeep => ?_
              simp only [walk, wl, rgets, retv, argsEnv, ev, cst, cst1, cstL, AEnv.get, AEnv.trim, envput, qstep, abin, aun, evs, evo, deref, qload, target, if_true, if_false, Nat.reduceEqDiff, reduceIte, Nat.reduceAdd, AV.cells, AV.isTuple, setMany, alen, aiaddr, afill, Nat.reduceLeDiff, Nat.reduceMul, Nat.reduceLT, afillE, List.replicate]
              rw [wrap_id (by omega) (by omega)]
              refine loop_end (k + 1, a') hlt (by simp only; omega) rfl ?_
              simp only [zip_take hll hlt, ic_snoc]; exact hacc'
            · have hk' : k = xs.length := by simp at hb; omega
              subst hk'
              rw [List.take_length, hll, List.take_length] at hacc
              exact out_two (hacc.out (ic_simple _)) out_int
        · have e : higher n ds xs ys = ([], 43) := by
            have : holds ds xs = false := by simpa [hx] using h4
            simp [higher, hv, hx, hy, this]
          rw [e]; exact out_noneL
    · have e : higher n ds xs ys = ([], 1) := by
        have : numbers n xs = false := by simpa using h2
        simp [higher, hv, this]
      rw [e]; exact out_noneL
end Go.Proofs.Ytepnijjgdhldeaa
