/- Contract: PrintSheet. -/
import Derived.Test.YtgadlckkmhhmbaaGreatDoorQBf
import Derived.Test.YtgadlckkmhhmbaaGreatDoorQC8
set_option linter.unusedVariables false
set_option linter.unusedSimpArgs false
set_option linter.unusedSectionVars false
namespace Go.Proofs.YtgadlckkmhhmbaaGreatDoor
open Go.Awp Go.Grams
set_option linter.unusedSimpArgs false
set_option linter.unusedVariables false
set_option linter.unusedSectionVars false
set_option maxRecDepth 10000
def bSheet : ByteArray := ByteArray.mk (Array.mk [115, 104, 101, 101, 116])
def bSp : ByteArray := ByteArray.mk (Array.mk [32])
def bSl : ByteArray := ByteArray.mk (Array.mk [47])
def shNums (s : Sht) : List Int := [s.no, s.cell, s.day, s.known, s.scale, s.mouth, s.empty, s.emptyDay]
def stakeB (b : ByteArray) (k : Stk) : ByteArray := putB bSl [k.2.1, k.2.2.1, k.2.2.2.1, k.2.2.2.2] (putB bSp [k.1] b)
def sheetB (s : Sht) : ByteArray := s.st.foldl stakeB (putB bSp (shNums s) bSheet)
def prS (s : Sht) : ByteArray := if okSh s = true then sheetB s else ByteArray.mk (Array.mk [])
theorem stakes_size : ∀ (st : List Stk) (b : ByteArray), (∀ k, k ∈ st → okK k = true) → (st.foldl stakeB b).size ≤ b.size + 150 * st.length
  | [], b, _ => by simp
  | k :: r, b, h => by
    have hk := okK_iff.1 (h k (by simp))
    have h1 := stakes_size r (stakeB b k) fun q hq => h q (by simp [hq])
    have h2 := putB_size (sep := bSl) (by decide) [k.2.1, k.2.2.1, k.2.2.2.1, k.2.2.2.2] (putB bSp [k.1] b) (by intro x hx; simp at hx; rcases hx with rfl | rfl | rfl | rfl <;> omega)
    have h3 := putB_size (sep := bSp) (by decide) [k.1] b (by intro x hx; simp at hx; subst hx; omega)
    simp only [List.length_cons, List.length_nil] at h2 h3
    show (r.foldl stakeB (stakeB b k)).size ≤ _
    unfold stakeB at h1 ⊢
    rw [List.length_cons]; omega
theorem putB_ge {sep : ByteArray} : ∀ (xs : List Int) (b : ByteArray), b.size ≤ (putB sep xs b).size
  | [], b => Nat.le_refl _
  | x :: r, b => by
    have := putB_ge (sep := sep) r (b ++ sep ++ itoaB x)
    rw [size_app, size_app] at this
    show b.size ≤ (putB sep r (b ++ sep ++ itoaB x)).size
    omega
theorem stakes_ge : ∀ (st : List Stk) (b : ByteArray), b.size ≤ (st.foldl stakeB b).size
  | [], b => Nat.le_refl _
  | k :: r, b => by
    have h1 := stakes_ge r (stakeB b k)
    have h2 := putB_ge (sep := bSl) [k.2.1, k.2.2.1, k.2.2.2.1, k.2.2.2.2] (putB bSp [k.1] b)
    have h3 := putB_ge (sep := bSp) [k.1] b
    show b.size ≤ (r.foldl stakeB (stakeB b k)).size
    unfold stakeB at h1 ⊢
    omega
theorem Bld.qlt {H : AHeap} {h : Nat} {q : Option Nat} {s : ByteArray} (b : Bld H h q s) : ∀ i, q = some i → i < H.length := by
  obtain ⟨x0, a, ho, hx, hq⟩ := b
  intro i hi
  rcases hq with ⟨rfl, _⟩ | ⟨j, rfl, _, _, h4⟩
  · cases hi
  · cases hi; exact AHeap.obj_lt h4
theorem Bld.push {H : AHeap} {h : Nat} {q : Option Nat} {s : ByteArray} (b : Bld H h q s) (X : AHeap) : Bld (H ++ X) h q s := by
  obtain ⟨x0, a, ho, hx, hq⟩ := b
  refine ⟨x0, a, obj_keep ho, hx, ?_⟩
  rcases hq with h1 | ⟨j, h1, h2, h3, h4⟩
  · exact .inl h1
  · exact .inr ⟨j, h1, h2, h3, obj_keep h4⟩
theorem stake_few {k : Stk} (h : okK k = true) : Few k.1 ∧ Few k.2.1 ∧ Few k.2.2.1 ∧ Few k.2.2.2.1 ∧ Few k.2.2.2.2 := by
  have := okK_iff.1 h; omega
theorem foldl_take {α β : Type} {f : β → α → β} {l : List α} {b : β} {k : Nat} (h : k < l.length) : (l.take (k + 1)).foldl f b = f ((l.take k).foldl f b) l[k] := by
  rw [List.take_succ_eq_append_getElem h, List.foldl_append]; rfl
theorem PrintSheet_ok (s : Sht) : PCall Tryz.prog 7 [sh s] (.tuple [.str (prS s), I (chkSh s)]) := by
  refine PCall.intro text7 (by simp) ?_
  unfold ir7
  simp only [walk, wl, rgets, retv, argsEnv, ev, cst, cst1, cstL, AEnv.get, AEnv.trim, envput, qstep, abin, aun, evs, evo, deref, qload, target, if_true, if_false, Nat.reduceEqDiff, reduceIte, Nat.reduceAdd, AV.cells, AV.isTuple, setMany, alen, aiaddr, afill, Nat.reduceLeDiff, Nat.reduceMul, Nat.reduceLT, afillE, List.replicate]
  refine call_pure (CheckSheet_ok s) (frzL_of' (d := 4) (carL_cons car_sh rfl)) ?_
  simp only [walk, wl, rgets, retv, argsEnv, ev, cst, cst1, cstL, AEnv.get, AEnv.trim, envput, qstep, abin, aun, evs, evo, deref, qload, target, if_true, if_false, Nat.reduceEqDiff, reduceIte, Nat.reduceAdd, AV.cells, AV.isTuple, setMany, alen, aiaddr, afill, Nat.reduceLeDiff, Nat.reduceMul, Nat.reduceLT, afillE, List.replicate]
  refine withBool_intro ?_ ?_ <;> intro h1 <;> simp only [walk, wl, rgets, retv, argsEnv, ev, cst, cst1, cstL, AEnv.get, AEnv.trim, envput, qstep, abin, aun, evs, evo, deref, qload, target, if_true, if_false, Nat.reduceEqDiff, reduceIte, Nat.reduceAdd, AV.cells, AV.isTuple, setMany, alen, aiaddr, afill, Nat.reduceLeDiff, Nat.reduceMul, Nat.reduceLT, afillE, List.replicate]
  · have : prS s = ByteArray.mk (Array.mk []) := by
      unfold prS; rw [if_neg]; intro h; simp [chkSh, h] at h1
    rw [this]; exact out_two (out_of (d := 1) rfl) out_int
  · have h0 : chkSh s = 0 := by simpa using h1
    have hs := chkSh_zero h0
    obtain ⟨n1, n2, n3, d1, d2, d3, ge, hm, hn, hk⟩ := okSh_iff.1 hs
    have hfew : ∀ x, x ∈ shNums s → Few x := by
      simp [okNo, okDay, okGram] at n1 n2 n3 d1 d2 d3 ge
      intro x hx
      simp [shNums] at hx
      rcases hx with rfl | rfl | rfl | rfl | rfl | rfl | rfl | rfl <;> omega
    have hb0 : Bld [some ⟨26, 9, [shR false s]⟩, some ⟨61, 2, [[.nilPtr, .nilSlice]]⟩] 1 none (ByteArray.mk (Array.mk [])) := ⟨_, _, rfl, .inl rfl, .inl ⟨rfl, rfl, rfl⟩⟩
    refine (WriteString_a (s := bSheet) hb0 (by decide)).mono ?_
    rintro x H1 ⟨rfl, q1, hb1, hk1, hn1⟩
    have e0 : ByteArray.mk (Array.mk []) ++ bSheet = bSheet := by decide +kernel
    rw [e0] at hb1
    have k0 : AHeap.obj H1 0 = some ⟨26, 9, [shR false s]⟩ := hk1.2 0 (by simp) (by decide) (fun e => by cases e)
    simp only [walkS, wl, rgets, retv, argsEnv, ev, cst, cst1, cstL, AEnv.get, AEnv.trim, envput, qstep, abin, aun, evs, evo, deref, qload, target, if_true, if_false, Nat.reduceEqDiff, reduceIte, Nat.reduceAdd, AV.cells, AV.isTuple, setMany, alen, aiaddr, afill, Nat.reduceLeDiff, Nat.reduceMul, Nat.reduceLT, afillE, List.replicate, k0]
    refine (put_a (sep := bSp) (xs := shNums s) (v := H1.length) (hb1.push _) obj_app (by have := hb1.lt; omega) (fun e => by have := hb1.qlt _ e; omega) (by decide) hfew (by rw [show bSheet.size = 5 from rfl, show (shNums s).length = 8 from rfl]; omega)).mono ?_
    rintro x H2 ⟨rfl, q2, hb2, hk2, hn2⟩
    have k2 : AHeap.obj H2 0 = some ⟨26, 9, [shR false s]⟩ := by
      have hl1 : 0 < H1.length := AHeap.obj_lt k0
      rw [hk2.2 0 (by simp) (by decide) (fun e => ?_), AHeap.obj_push_lt hl1, k0]
      rcases hn1 with rfl | ⟨j, rfl, hj⟩
      · cases e
      · cases e; simp at hj
    have hsz0 : (putB bSp (shNums s) bSheet).size ≤ 300 := by
      have := putB_size (sep := bSp) (by decide) (shNums s) bSheet hfew
      have h1 : bSheet.size = 5 := rfl
      have h2 : (shNums s).length = 8 := rfl
      omega
    obtain ⟨B0, hB0⟩ : ∃ B0, B0 = putB bSp (shNums s) bSheet := ⟨_, rfl⟩
    have hprS : prS s = s.st.foldl stakeB B0 := by unfold prS; rw [if_pos hs, hB0]; rfl
    have hge : 5 ≤ B0.size := by rw [hB0]; exact putB_ge (sep := bSp) (shNums s) bSheet
    rw [← hB0] at hb2 hsz0
    rw [hprS, h0]
    clear hB0 hprS
    simp only [walkS, wl, rgets, retv, argsEnv, ev, cst, cst1, cstL, AEnv.get, AEnv.trim, envput, qstep, abin, aun, evs, evo, deref, qload, target, if_true, if_false, Nat.reduceEqDiff, reduceIte, Nat.reduceAdd, AV.cells, AV.isTuple, setMany, alen, aiaddr, afill, Nat.reduceLeDiff, Nat.reduceMul, Nat.reduceLT, afillE, List.replicate, k2, krows_length]
    refine awp_loop (σ := Nat) (fun k => [(5, .ptr 1 1 0 0), (34, .ro false (krows s.st)), (35, I s.st.length), (36, I k)]) (fun k H => ∃ q, Bld H 1 q ((s.st.take k).foldl stakeB B0)) (fun k => k ≤ s.st.length) (fun k => s.st.length - k) 0 (Nat.zero_le _) rfl ⟨q2, by rw [List.take_zero]; exact hb2⟩ ?_
    rintro k H hk0 ⟨q, hb⟩
    simp only [walkS, wl, rgets, retv, argsEnv, ev, cst, cst1, cstL, AEnv.get, AEnv.trim, envput, qstep, abin, aun, evs, evo, deref, qload, target, if_true, if_false, Nat.reduceEqDiff, reduceIte, Nat.reduceAdd, AV.cells, AV.isTuple, setMany, alen, aiaddr, afill, Nat.reduceLeDiff, Nat.reduceMul, Nat.reduceLT, afillE, List.replicate]
    refine withBool_intro ?_ ?_ <;> intro hbb <;> simp only [walkS, wl, rgets, retv, argsEnv, ev, cst, cst1, cstL, AEnv.get, AEnv.trim, envput, qstep, abin, aun, evs, evo, deref, qload, target, if_true, if_false, Nat.reduceEqDiff, reduceIte, Nat.reduceAdd, AV.cells, AV.isTuple, setMany, alen, aiaddr, afill, Nat.reduceLeDiff, Nat.reduceMul, Nat.reduceLT, afillE, List.replicate]
    · have hlt : k < s.st.length := by simpa using hbb
      have w1 := w_succ (k := k) (by omega)
      have hkk := hk _ (List.getElem_mem hlt)
      obtain ⟨f1, f2, f3, f4, f5⟩ := stake_few hkk
      have hsz := stakes_size (s.st.take k) B0 fun q hq => hk q (List.mem_of_mem_take hq)
      have hft := foldl_take (f := stakeB) (b := B0) hlt
      have hln : (s.st.take k).length ≤ 32 := by rw [List.length_take]; omega
      simp only [walk, wl, rgets, retv, argsEnv, ev, cst, cst1, cstL, AEnv.get, AEnv.trim, envput, qstep, abin, aun, evs, evo, deref, qload, target, if_true, if_false, Nat.reduceEqDiff, reduceIte, Nat.reduceAdd, AV.cells, AV.isTuple, setMany, alen, aiaddr, afill, Nat.reduceLeDiff, Nat.reduceMul, Nat.reduceLT, afillE, List.replicate, krows_get hlt, List.length_cons]
      obtain ⟨B1, hB1⟩ : ∃ B1, B1 = (s.st.take k).foldl stakeB B0 := ⟨_, rfl⟩
      rw [← hB1] at hb hsz hft
      obtain ⟨kk, hkk'⟩ : ∃ kk, kk = s.st[k] := ⟨_, rfl⟩
      rw [← hkk'] at f1 f2 f3 f4 f5 hft ⊢
      have hlH : 1 < H.length := hb.lt
      have hqH := hb.qlt
      refine (put_a (sep := bSp) (xs := [kk.1]) (v := H.length + 1) (hb.push _) (by rw [obj_app_add]; rfl) (by omega) (fun e => by have := hqH _ e; omega) (by decide) (by intro x hx; simp at hx; subst hx; exact f1) (by simp only [List.length_cons, List.length_nil]; omega)).mono ?_
      rintro x H3 ⟨rfl, q3, hb3, hk3, hn3⟩
      have k3 : AHeap.obj H3 H.length = some ⟨71, 5, [kd kk]⟩ := by
        rw [hk3.2 H.length (by simp) (by omega) (fun e => by have := hqH _ e; omega), obj_app]
      have hsz1 := putB_size (sep := bSp) (by decide) [kk.1] B1 (by intro x hx; simp at hx; subst hx; exact f1)
      simp only [List.length_cons, List.length_nil] at hsz1
      have hlH3 : 1 < H3.length := hb3.lt
      have hqH3 := hb3.qlt
      simp only [walkS, wl, rgets, retv, argsEnv, ev, cst, cst1, cstL, AEnv.get, AEnv.trim, envput, qstep, abin, aun, evs, evo, deref, qload, target, if_true, if_false, Nat.reduceEqDiff, reduceIte, Nat.reduceAdd, AV.cells, AV.isTuple, setMany, alen, aiaddr, afill, Nat.reduceLeDiff, Nat.reduceMul, Nat.reduceLT, afillE, List.replicate, k3]
      refine (put_a (sep := bSl) (xs := [kk.2.1, kk.2.2.1, kk.2.2.2.1, kk.2.2.2.2]) (v := H3.length) (hb3.push _) obj_app (by omega) (fun e => by have := hqH3 _ e; omega) (by decide) (by intro x hx; simp at hx; rcases hx with rfl | rfl | rfl | rfl <;> assumption) (by simp only [List.length_cons, List.length_nil]; omega)).mono ?_
      rintro x H4 ⟨rfl, q4, hb4, hk4, hn4⟩
      simp only [walkS, wl, rgets, retv, argsEnv, ev, cst, cst1, cstL, AEnv.get, AEnv.trim, envput, qstep, abin, aun, evs, evo, deref, qload, target, if_true, if_false, Nat.reduceEqDiff, reduceIte, Nat.reduceAdd, AV.cells, AV.isTuple, setMany, alen, aiaddr, afill, Nat.reduceLeDiff, Nat.reduceMul, Nat.reduceLT, afillE, List.replicate, w1]
      refine loop_end (k + 1) hlt (by omega) rfl ⟨q4, ?_⟩
      rw [hft]; exact hb4
    · have hk' : k = s.st.length := by simp at hbb; omega
      subst hk'
      rw [List.take_length] at hb
      obtain ⟨B1, hB1⟩ : ∃ B1, B1 = s.st.foldl stakeB B0 := ⟨_, rfl⟩
      rw [← hB1] at hb ⊢
      have hB5 : B1.size ≠ 0 := by
        have := stakes_ge s.st B0
        rw [hB1]; omega
      obtain ⟨x0, a, ho, hx, hq⟩ := hb
      rcases hq with ⟨_, h2, _⟩ | ⟨i, h1, h2, rfl, h4⟩
      · exact absurd h2 hB5
      · refine (String_a ho h4 hB5).mono ?_
        rintro x H5 ⟨rfl, rfl⟩
        simp only [walkS, wl, rgets, retv, argsEnv, ev, cst, cst1, cstL, AEnv.get, AEnv.trim, envput, qstep, abin, aun, evs, evo, deref, qload, target, if_true, if_false, Nat.reduceEqDiff, reduceIte, Nat.reduceAdd, AV.cells, AV.isTuple, setMany, alen, aiaddr, afill, Nat.reduceLeDiff, Nat.reduceMul, Nat.reduceLT, afillE, List.replicate]
        exact out_two (out_of (d := 1) rfl) out_int
end Go.Proofs.YtgadlckkmhhmbaaGreatDoor
