/- Contracts: water flows through a column. -/
import Derived.Test.YtomejgikdelgkaaGreatDoorQC3
set_option linter.unusedVariables false
set_option linter.unusedSimpArgs false
set_option linter.unusedSectionVars false
namespace Go.Proofs.YtomejgikdelgkaaGreatDoor
open Go.Awp Go.Snow
set_option linter.unusedSimpArgs false
set_option linter.unusedVariables false
set_option linter.unusedSectionVars false
set_option maxRecDepth 10000
theorem amin {n y : Int} : (if y < n then y else n) = min n y := by split <;> omega
theorem set_mid {α : Type} (A d r p : List α) (l l' : α) : (A ++ d ++ l :: r ++ p).set (A.length + d.length) l' = A ++ (d ++ [l']) ++ r ++ p := by
  rw [List.append_assoc, List.append_assoc A d, List.set_append_right _ _ (by omega)]
  rw [show A.length + d.length - A.length = d.length by omega, List.set_append_right _ _ (by omega), Nat.sub_self]
  simp
theorem get_mid {α : Type} (A d r p : List α) (l : α) (h : A.length + d.length < (A ++ d ++ l :: r ++ p).length) : (A ++ d ++ l :: r ++ p)[A.length + d.length] = l := by
  simp [List.getElem_append]
/-- A column lies at h. -/
def ColAt (H : AHeap) (h : Nat) (L : List Lay) (t n o k : Int) : Prop := AHeap.obj H h = some ⟨72, 199, [colC L t n o k]⟩
theorem fill_eq {l : Lay} {w : Nat} (hl : Fine l) : (l.1 + min (w : Int) l.2.2, l.2.1 + min ((w : Int) - min (w : Int) l.2.2) ((l.1 + min (w : Int) l.2.2) / 20 - l.2.1), l.2.2 - min (w : Int) l.2.2) = fill l (min w (room l)) ∧
    (w : Int) - min (w : Int) l.2.2 - min ((w : Int) - min (w : Int) l.2.2) ((l.1 + min (w : Int) l.2.2) / 20 - l.2.1) = ((w - (room l).toNat : Nat) : Int) := by
  obtain ⟨h1, h2, h3, h4, h5⟩ := hl
  unfold fill room
  rcases Int.lt_or_le (w : Int) l.2.2 with hc | hc
  · have e : min (w : Int) l.2.2 = w := by omega
    simp only [e]
    refine ⟨?_, by omega⟩
    refine Prod.ext ?_ (Prod.ext ?_ ?_) <;> simp only <;> omega
  · have e : min (w : Int) l.2.2 = l.2.2 := by omega
    simp only [e]
    refine ⟨?_, by omega⟩
    refine Prod.ext ?_ (Prod.ext ?_ ?_) <;> simp only <;> omega
theorem flow_ok {H0 : AHeap} {h : Nat} {A ls post : List Lay} {t o k : Int} {w0 : Nat} (hL : (A ++ ls ++ post).length = 65) (hc : ColAt H0 h (A ++ ls ++ post) t (A.length + ls.length : Nat) o k) (hK : Nice 1000000000 ls) (hw : w0 ≤ 1000000000) (ho : 0 ≤ o ∧ o ≤ 1000000000000000) :
    ACall Tryz.prog 59 [.ptr h 1 0 0, I (A.length : Int), I (w0 : Int)] H0 fun x H => x = .tuple [] ∧ H.length = H0.length ∧ (∀ i, i ≠ h → i < H0.length → AHeap.obj H i = AHeap.obj H0 i) ∧
      ColAt H h (A ++ (pour w0 ls).1 ++ post) t (A.length + ls.length : Nat) (o + (pour w0 ls).2) k := by
  refine ACall.intro text59 (by simp) ?_
  unfold ir59
  have hh : h < H0.length := AHeap.obj_lt hc
  simp only [walkS, wl, rgets, retv, argsEnv, ev, cst, cst1, cstL, AEnv.get, AEnv.trim, envput, qstep, abin, aun, evs, evo, deref, qload, target, if_true, if_false, Nat.reduceEqDiff, reduceIte, Nat.reduceAdd, AV.cells, AV.isTuple, setMany, alen, aiaddr, afill, Nat.reduceLeDiff, Nat.reduceMul, Nat.reduceLT, afillE, List.replicate]
  refine awp_loop (σ := List Lay × Nat × Nat) (fun s => [(0, .ptr h 1 0 0), (1, I s.2.1), (2, I s.2.2)])
    (fun s H => H.length = H0.length ∧ (∀ i, i ≠ h → i < H0.length → AHeap.obj H i = AHeap.obj H0 i) ∧ ColAt H h s.1 t (A.length + ls.length : Nat) o k)
    (fun s => ∃ d r, s.1 = A ++ d ++ r ++ post ∧ s.2.1 = A.length + d.length ∧ d.length + r.length = ls.length ∧ pour w0 ls = (d ++ (pour s.2.2 r).1, (pour s.2.2 r).2) ∧ Nice 1000000000 r ∧ s.2.2 ≤ w0)
    (fun s => 65 - s.2.1) (A ++ ls ++ post, A.length, w0) ⟨[], ls, by simp, by simp, by simp, by simp, hK, Nat.le_refl _⟩ rfl ⟨rfl, fun _ _ _ => rfl, hc⟩ ?_
  rintro ⟨L, i, w⟩ H ⟨d, r, e1, e2, e3, e4, e5, e6⟩ ⟨c1, c2, c3⟩
  simp only at e1 e2 e3 e4 e5 e6 c3
  have hlen : L.length = 65 := by
    rw [e1]; simp only [List.length_append] at hL ⊢; omega
  have c3' : AHeap.obj H h = some ⟨72, 199, [colC L t (A.length + ls.length : Nat) o k]⟩ := c3
  simp only [walkS, wl, rgets, retv, argsEnv, ev, cst, cst1, cstL, AEnv.get, AEnv.trim, envput, qstep, abin, aun, evs, evo, deref, qload, target, if_true, if_false, Nat.reduceEqDiff, reduceIte, Nat.reduceAdd, AV.cells, AV.isTuple, setMany, alen, aiaddr, afill, Nat.reduceLeDiff, Nat.reduceMul, Nat.reduceLT, afillE, List.replicate, c3', colC_196 hlen]
  refine withGuard_intro ?_ ?_ <;> intro hb <;> simp only [walkS, wl, rgets, retv, argsEnv, ev, cst, cst1, cstL, AEnv.get, AEnv.trim, envput, qstep, abin, aun, evs, evo, deref, qload, target, if_true, if_false, Nat.reduceEqDiff, reduceIte, Nat.reduceAdd, AV.cells, AV.isTuple, setMany, alen, aiaddr, afill, Nat.reduceLeDiff, Nat.reduceMul, Nat.reduceLT, afillE, List.replicate, hb]
  · have hlt : i < A.length + ls.length := by simp at hb; omega
    have hi65 : i < 65 := by simp only [List.length_append] at hL; omega
    refine withBool_intro ?_ ?_ <;> intro hw2 <;> simp only [walkS, wl, rgets, retv, argsEnv, ev, cst, cst1, cstL, AEnv.get, AEnv.trim, envput, qstep, abin, aun, evs, evo, deref, qload, target, if_true, if_false, Nat.reduceEqDiff, reduceIte, Nat.reduceAdd, AV.cells, AV.isTuple, setMany, alen, aiaddr, afill, Nat.reduceLeDiff, Nat.reduceMul, Nat.reduceLT, afillE, List.replicate, amin]
    · have hwp : 0 < w := by simpa using hw2
      cases r with
      | nil => simp at e3; omega
      | cons l r =>
        have hi : i < L.length := by omega
        have hLi : L[i] = l := by
          subst e1 e2
          exact get_mid A d r post l _
        have hl := e5.head
        obtain ⟨hf, hlK⟩ := hl
        have hf' := hf
        obtain ⟨f1, f2, f3, f4, f5⟩ := hf
        have hi0 : (0 : Int) ≤ (i : Int) ∧ (i : Int) < ((65 : Nat) : Int) := ⟨by omega, by omega⟩
        simp only [walkS, wl, rgets, retv, argsEnv, ev, cst, cst1, cstL, AEnv.get, AEnv.trim, envput, qstep, abin, aun, evs, evo, deref, qload, target, if_true, if_false, Nat.reduceEqDiff, reduceIte, Nat.reduceAdd, AV.cells, AV.isTuple, setMany, alen, aiaddr, afill, Nat.reduceLeDiff, Nat.reduceMul, Nat.reduceLT, afillE, List.replicate, hi0, c3', colC_at hi, colC_at1 hi, colC_at2 hi, hLi, amm, amm.go, amin, Nat.add_zero]
        refine storeR rfl rfl c3' rfl ⟨rfl, rfl, rfl, by simp only [colC_length]; omega⟩ fun H1 y1 y2 y3 => ?_
        simp only [AV.cells, setMany, List.set_cons_zero, set_at0 hi, hLi] at y2
        obtain ⟨fz, hfz⟩ : ∃ fz, fz = min (w : Int) l.2.2 := ⟨_, rfl⟩
        rw [← hfz] at y2 ⊢
        rw [wrap_id (by omega) (by omega)] at y2
        obtain ⟨L1, hL1⟩ : ∃ L1, L1 = L.set i (l.1 + fz, l.2.1, l.2.2) := ⟨_, rfl⟩
        rw [← hL1] at y2
        have hl1 : L1.length = 65 := by rw [hL1, List.length_set]; exact hlen
        have hi1 : i < L1.length := by omega
        have g1 : L1[i] = (l.1 + fz, l.2.1, l.2.2) := by subst hL1; simp
        simp only [walkS, wl, rgets, retv, argsEnv, ev, cst, cst1, cstL, AEnv.get, AEnv.trim, envput, qstep, abin, aun, evs, evo, deref, qload, target, if_true, if_false, Nat.reduceEqDiff, reduceIte, Nat.reduceAdd, AV.cells, AV.isTuple, setMany, alen, aiaddr, afill, Nat.reduceLeDiff, Nat.reduceMul, Nat.reduceLT, afillE, List.replicate, hi0, y2, colC_at hi1, colC_at1 hi1, colC_at2 hi1, g1, Nat.add_zero]
        refine storeR rfl rfl y2 rfl ⟨rfl, rfl, rfl, by simp only [colC_length]; omega⟩ fun H2 z1 z2 z3 => ?_
        simp only [AV.cells, setMany, List.set_cons_zero, set_at2 hi1, g1] at z2
        rw [wrap_id (by omega) (by omega)] at z2
        obtain ⟨L2, hL2⟩ : ∃ L2, L2 = L1.set i (l.1 + fz, l.2.1, l.2.2 - fz) := ⟨_, rfl⟩
        rw [← hL2] at z2
        have hl2 : L2.length = 65 := by rw [hL2, List.length_set]; exact hl1
        have hi2 : i < L2.length := by omega
        have g2 : L2[i] = (l.1 + fz, l.2.1, l.2.2 - fz) := by subst hL2; simp
        have hx : IntKind.i64.wrap ((w : Int) - fz) = (w : Int) - fz := wrap_id (by omega) (by omega)
        simp only [walkS, wl, rgets, retv, argsEnv, ev, cst, cst1, cstL, AEnv.get, AEnv.trim, envput, qstep, abin, aun, evs, evo, deref, qload, target, if_true, if_false, Nat.reduceEqDiff, reduceIte, Nat.reduceAdd, AV.cells, AV.isTuple, setMany, alen, aiaddr, afill, Nat.reduceLeDiff, Nat.reduceMul, Nat.reduceLT, afillE, List.replicate, hi0, z2, colC_at hi2, colC_at1 hi2, colC_at2 hi2, g2, Nat.add_zero, hx]
        refine dcall_pure (hold_ok (l := (l.1 + fz, l.2.1, l.2.2 - fz)) (by simp only; omega) (by simp only; omega)) (frzL_of (d := 2) rfl) ?_
        have hx2 : IntKind.i64.wrap ((l.1 + fz) / 20 - l.2.1) = (l.1 + fz) / 20 - l.2.1 := wrap_id (by omega) (by omega)
        simp only [walkS, wl, rgets, retv, argsEnv, ev, cst, cst1, cstL, AEnv.get, AEnv.trim, envput, qstep, abin, aun, evs, evo, deref, qload, target, if_true, if_false, Nat.reduceEqDiff, reduceIte, Nat.reduceAdd, AV.cells, AV.isTuple, setMany, alen, aiaddr, afill, Nat.reduceLeDiff, Nat.reduceMul, Nat.reduceLT, afillE, List.replicate, hi0, z2, colC_at hi2, colC_at1 hi2, colC_at2 hi2, g2, Nat.add_zero, amm, amm.go, amin, hx2]
        obtain ⟨kp, hkp⟩ : ∃ kp, kp = min ((w : Int) - fz) ((l.1 + fz) / 20 - l.2.1) := ⟨_, rfl⟩
        rw [← hkp]
        refine storeR rfl rfl z2 rfl ⟨rfl, rfl, rfl, by simp only [colC_length]; omega⟩ fun H3 u1 u2 u3 => ?_
        simp only [AV.cells, setMany, List.set_cons_zero, set_at1 hi2, g2] at u2
        rw [wrap_id (by omega) (by omega)] at u2
        have hx3 : IntKind.i64.wrap ((w : Int) - fz - kp) = (w : Int) - fz - kp := wrap_id (by omega) (by omega)
        have hx4 : IntKind.i64.wrap ((i : Int) + 1) = ((i + 1 : Nat) : Int) := by rw [wrap_id (by omega) (by omega)]; simp
        simp only [walkS, wl, rgets, retv, argsEnv, ev, cst, cst1, cstL, AEnv.get, AEnv.trim, envput, qstep, abin, aun, evs, evo, deref, qload, target, if_true, if_false, Nat.reduceEqDiff, reduceIte, Nat.reduceAdd, AV.cells, AV.isTuple, setMany, alen, aiaddr, afill, Nat.reduceLeDiff, Nat.reduceMul, Nat.reduceLT, afillE, List.replicate, hx3, hx4]
        obtain ⟨q1, q2⟩ := fill_eq (w := w) hf'
        rw [← hfz, ← hkp] at q1 q2
        rw [q2]
        have hp := pour_cons hf' r w
        have hr0 := room_nonneg hf'
        refine loop_end (L2.set i (l.1 + fz, l.2.1 + kp, l.2.2 - fz), i + 1, w - (room l).toNat) ⟨d ++ [fill l (min w (room l))], r, ?_, by simp only [List.length_append, List.length_cons, List.length_nil]; omega, by simp only [List.length_append, List.length_cons, List.length_nil] at e3 ⊢; omega, ?_, e5.tail, by simp only; omega⟩ (by simp only; omega) rfl
          ⟨by omega, fun j hj hj2 => by rw [u3 j hj, z3 j hj, y3 j hj]; exact c2 j hj hj2, u2⟩
        · rw [q1, hL2, hL1, List.set_set, List.set_set, e1, e2]
          simp only
          rw [set_mid A d r post l _]; simp only [List.append_assoc]
        · rw [e4, hp]; simp only [List.append_assoc, List.cons_append, List.nil_append]
    · have hwz : w = 0 := by simp at hw2; omega
      subst hwz
      have hxo : IntKind.i64.wrap (o + ((0 : Nat) : Int)) = o := by rw [wrap_id (by omega) (by omega)]; simp
      simp only [walkS, wl, rgets, retv, argsEnv, ev, cst, cst1, cstL, AEnv.get, AEnv.trim, envput, qstep, abin, aun, evs, evo, deref, qload, target, if_true, if_false, Nat.reduceEqDiff, reduceIte, Nat.reduceAdd, AV.cells, AV.isTuple, setMany, alen, aiaddr, afill, Nat.reduceLeDiff, Nat.reduceMul, Nat.reduceLT, afillE, List.replicate, c3', colC_197 hlen, hxo]
      refine storeR rfl rfl c3' rfl ⟨rfl, rfl, rfl, by simp only [colC_length]; omega⟩ fun H1 y1 y2 y3 => ?_
      simp only [AV.cells, setMany, List.set_cons_zero, set_197 hlen] at y2
      simp only [walkS, wl, rgets, retv, argsEnv, ev, cst, cst1, cstL, AEnv.get, AEnv.trim, envput, qstep, abin, aun, evs, evo, deref, qload, target, if_true, if_false, Nat.reduceEqDiff, reduceIte, Nat.reduceAdd, AV.cells, AV.isTuple, setMany, alen, aiaddr, afill, Nat.reduceLeDiff, Nat.reduceMul, Nat.reduceLT, afillE, List.replicate]
      refine ⟨by omega, fun j hj hj2 => by rw [y3 j hj]; exact c2 j hj hj2, ?_⟩
      rw [e4]
      simp only [pour, Int.add_zero]
      rw [e1] at y2
      unfold ColAt
      rw [y2]; simp only [List.append_assoc]
  · have hin : i = A.length + ls.length := by simp at hb; omega
    have hr : r = [] := List.eq_nil_of_length_eq_zero (by omega)
    subst hr
    have hxo : IntKind.i64.wrap (o + (w : Int)) = o + w := wrap_id (by omega) (by omega)
    simp only [walkS, wl, rgets, retv, argsEnv, ev, cst, cst1, cstL, AEnv.get, AEnv.trim, envput, qstep, abin, aun, evs, evo, deref, qload, target, if_true, if_false, Nat.reduceEqDiff, reduceIte, Nat.reduceAdd, AV.cells, AV.isTuple, setMany, alen, aiaddr, afill, Nat.reduceLeDiff, Nat.reduceMul, Nat.reduceLT, afillE, List.replicate, c3', colC_197 hlen, hxo]
    refine storeR rfl rfl c3' rfl ⟨rfl, rfl, rfl, by simp only [colC_length]; omega⟩ fun H1 y1 y2 y3 => ?_
    simp only [AV.cells, setMany, List.set_cons_zero, set_197 hlen] at y2
    simp only [walkS, wl, rgets, retv, argsEnv, ev, cst, cst1, cstL, AEnv.get, AEnv.trim, envput, qstep, abin, aun, evs, evo, deref, qload, target, if_true, if_false, Nat.reduceEqDiff, reduceIte, Nat.reduceAdd, AV.cells, AV.isTuple, setMany, alen, aiaddr, afill, Nat.reduceLeDiff, Nat.reduceMul, Nat.reduceLT, afillE, List.replicate]
    refine ⟨by omega, fun j hj hj2 => by rw [y3 j hj]; exact c2 j hj hj2, ?_⟩
    rw [e4, pour_nil]
    rw [e1] at y2
    unfold ColAt
    rw [y2]; simp only [List.append_assoc, List.append_nil]
end Go.Proofs.YtomejgikdelgkaaGreatDoor
