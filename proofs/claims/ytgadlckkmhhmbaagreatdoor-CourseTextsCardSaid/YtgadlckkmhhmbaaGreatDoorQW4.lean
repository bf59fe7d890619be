/- Contracts: an integer of a word, of the specification. -/
import Derived.Test.YtgadlckkmhhmbaaGreatDoorQW3
set_option linter.unusedVariables false
set_option linter.unusedSimpArgs false
set_option linter.unusedSectionVars false
namespace Go.Proofs.YtgadlckkmhhmbaaGreatDoor
open Go.Awp Go.Grams
set_option linter.unusedSimpArgs false
set_option linter.unusedVariables false
set_option linter.unusedSectionVars false
set_option maxRecDepth 10000
def rbody : List UInt8 → Bool × List UInt8
  | [] => (false, [])
  | x :: r => if x = 45 then (true, r) else (false, x :: r)
def rbad (neg : Bool) (b : List UInt8) : Bool := decide (b.length = 0) || decide (14 < b.length) || (decide (b.head? = some 48) && (neg || decide (1 < b.length)))
def dig (x : UInt8) : Bool := decide (48 ≤ x.toNat ∧ x.toNat ≤ 57)
def valN (b : List UInt8) : Int := b.foldl (fun n x => 10 * n + ((x.toNat : Int) - 48)) 0
def rres (neg : Bool) (b : List UInt8) : Option Int := if rbad neg b = true then none else if b.all dig = true then some (if neg = true then -(valN b) else valN b) else none
def rintO (s : ByteArray) : Option Int := rres (rbody s.data.toList).1 (rbody s.data.toList).2
theorem valN_snoc {b : List UInt8} {x : UInt8} : valN (b ++ [x]) = 10 * valN b + ((x.toNat : Int) - 48) := by simp [valN, List.foldl_append]
theorem dig_iff {x : UInt8} : dig x = true ↔ 48 ≤ x.toNat ∧ x.toNat ≤ 57 := by simp [dig]
theorem valN_bd {b : List UInt8} (h : b.all dig = true) : ∀ k, k ≤ b.length → 0 ≤ valN (b.take k) ∧ valN (b.take k) < (10 ^ k : Nat)
  | 0, _ => by simp [valN]
  | k + 1, hk => by
    have ih := valN_bd h k (by omega)
    have hlt : k < b.length := hk
    have hd := dig_iff.1 ((List.all_eq_true.1 h) b[k] (List.getElem_mem hlt))
    rw [List.take_succ_eq_append_getElem hlt, valN_snoc, Nat.pow_succ]
    omega
theorem valN_small {b : List UInt8} (h : b.all dig = true) (hl : b.length ≤ 14) : 0 ≤ valN b ∧ valN b < 100000000000000 := by
  have h1 := valN_bd h b.length (Nat.le_refl _)
  rw [List.take_length] at h1
  have : (10 ^ b.length : Nat) ≤ 10 ^ 14 := Nat.pow_le_pow_right (by omega) hl
  omega
def resAV : Option Int → AV
  | some n => .tuple [I n, .bool true]
  | none => .tuple [I 0, .bool false]
theorem out_res0 {H : AHeap} : Out H (.tuple [I 0, .bool false]) (resAV none) := out_two out_int out_bool
theorem int_loop {neg : Bool} {b : ByteArray} {H : AHeap} (h14 : b.size ≤ 14) (hr : rbad neg b.data.toList = false) : awp Tryz.prog ir62c (fnPost [(.tmp 2), (.tmp 3)] fun x H' => Out H' x (resAV (rres neg b.data.toList))) [(0, .str b), (4, .bool neg), (38, .bool false)] H := by
  unfold ir62c
  have sl := size_list b
  simp only [walk, wl, rgets, retv, argsEnv, ev, cst, cst1, cstL, AEnv.get, AEnv.trim, envput, qstep, abin, aun, evs, evo, deref, qload, target, if_true, if_false, Nat.reduceEqDiff, reduceIte, Nat.reduceAdd, AV.cells, AV.isTuple, setMany, alen, aiaddr, afill, Nat.reduceLeDiff, Nat.reduceMul, Nat.reduceLT, afillE, List.replicate]
  refine awp_loop (σ := Nat) (fun k => [(0, .str b), (4, .bool neg), (5, I (valN (b.data.toList.take k))), (6, I k)]) (fun _ _ => True) (fun k => k ≤ b.size ∧ (b.data.toList.take k).all dig = true) (fun k => b.size - k) 0 ⟨Nat.zero_le _, rfl⟩ rfl trivial ?_
  rintro k G ⟨hk, hall⟩ -
  simp only [walk, wl, rgets, retv, argsEnv, ev, cst, cst1, cstL, AEnv.get, AEnv.trim, envput, qstep, abin, aun, evs, evo, deref, qload, target, if_true, if_false, Nat.reduceEqDiff, reduceIte, Nat.reduceAdd, AV.cells, AV.isTuple, setMany, alen, aiaddr, afill, Nat.reduceLeDiff, Nat.reduceMul, Nat.reduceLT, afillE, List.replicate]
  refine withBool_intro ?_ ?_ <;> intro hb <;> simp only [walk, wl, rgets, retv, argsEnv, ev, cst, cst1, cstL, AEnv.get, AEnv.trim, envput, qstep, abin, aun, evs, evo, deref, qload, target, if_true, if_false, Nat.reduceEqDiff, reduceIte, Nat.reduceAdd, AV.cells, AV.isTuple, setMany, alen, aiaddr, afill, Nat.reduceLeDiff, Nat.reduceMul, Nat.reduceLT, afillE, List.replicate]
  · have hlt : k < b.size := by simpa using hb
    have hl2 : k < b.data.toList.length := by omega
    have w1 := w_succ (k := k) (by omega)
    obtain ⟨x, hx⟩ : ∃ x, x = b.data.toList[k] := ⟨_, rfl⟩
    have gx : b[k]? = some x := by rw [hx]; exact byte_get hlt
    have xb : x.toNat < 256 := x.toNat_lt
    have no : ¬ dig x = true → rres neg b.data.toList = none := fun h => by
      unfold rres
      rw [if_neg (by simp [hr]), if_neg]
      intro ha
      exact h ((List.all_eq_true.1 ha) x (hx ▸ List.getElem_mem hl2))
    simp only [walk, wl, rgets, retv, argsEnv, ev, cst, cst1, cstL, AEnv.get, AEnv.trim, envput, qstep, abin, aun, evs, evo, deref, qload, target, if_true, if_false, Nat.reduceEqDiff, reduceIte, Nat.reduceAdd, AV.cells, AV.isTuple, setMany, alen, aiaddr, afill, Nat.reduceLeDiff, Nat.reduceMul, Nat.reduceLT, afillE, List.replicate, gx]
    refine withGuard_intro ?_ ?_ <;> intro h1 <;> simp only [walk, wl, rgets, retv, argsEnv, ev, cst, cst1, cstL, AEnv.get, AEnv.trim, envput, qstep, abin, aun, evs, evo, deref, qload, target, if_true, if_false, Nat.reduceEqDiff, reduceIte, Nat.reduceAdd, AV.cells, AV.isTuple, setMany, alen, aiaddr, afill, Nat.reduceLeDiff, Nat.reduceMul, Nat.reduceLT, afillE, List.replicate, h1, gx]
    · refine withBool_intro ?_ ?_ <;> intro h2 <;> simp only [walk, wl, rgets, retv, argsEnv, ev, cst, cst1, cstL, AEnv.get, AEnv.trim, envput, qstep, abin, aun, evs, evo, deref, qload, target, if_true, if_false, Nat.reduceEqDiff, reduceIte, Nat.reduceAdd, AV.cells, AV.isTuple, setMany, alen, aiaddr, afill, Nat.reduceLeDiff, Nat.reduceMul, Nat.reduceLT, afillE, List.replicate]
      · have : ¬ dig x = true := by rw [dig_iff]; have := of_decide_eq_true h2; omega
        rw [no this]; exact out_res0
      · have hd : 48 ≤ x.toNat ∧ x.toNat ≤ 57 := by
          have e1 := of_decide_eq_false h1
          have e2 := of_decide_eq_false h2
          omega
        have vb := valN_bd (b := b.data.toList.take k) hall k (by rw [List.length_take]; omega)
        rw [List.take_take, Nat.min_self] at vb
        have p14 : (10 ^ k : Nat) ≤ 10 ^ 14 := Nat.pow_le_pow_right (by omega) (by omega)
        obtain ⟨n, hn⟩ : ∃ n, n = valN (b.data.toList.take k) := ⟨_, rfl⟩
        have u1 : IntKind.u8.wrap ((x.toNat : Int) - 48) = (x.toNat : Int) - 48 := by
          have : IntKind.u8.wrap ((x.toNat : Int) - 48) = ((x.toNat : Int) - 48) % 256 := by simp [IntKind.wrap, IntKind.bits, IntKind.signed]
          rw [this]; omega
        have u2 : IntKind.i64.wrap ((x.toNat : Int) - 48) = (x.toNat : Int) - 48 := wrap_id (by omega) (by omega)
        rw [← hn] at vb ⊢
        have u3 : IntKind.i64.wrap (10 * n) = 10 * n := wrap_id (by omega) (by omega)
        have u4 : IntKind.i64.wrap (10 * n + ((x.toNat : Int) - 48)) = 10 * n + ((x.toNat : Int) - 48) := wrap_id (by omega) (by omega)
        simp only [walk, wl, rgets, retv, argsEnv, ev, cst, cst1, cstL, AEnv.get, AEnv.trim, envput, qstep, abin, aun, evs, evo, deref, qload, target, if_true, if_false, Nat.reduceEqDiff, reduceIte, Nat.reduceAdd, AV.cells, AV.isTuple, setMany, alen, aiaddr, afill, Nat.reduceLeDiff, Nat.reduceMul, Nat.reduceLT, afillE, List.replicate, gx, u1, u2, u3, u4, w1]
        refine loop_end (k + 1) ⟨hlt, ?_⟩ (by omega) (by rw [List.take_succ_eq_append_getElem hl2, valN_snoc, ← hn, hx]) trivial
        rw [List.take_succ_eq_append_getElem hl2, List.all_append, hall]
        simp only [List.all_cons, List.all_nil, Bool.and_true, Bool.true_and, ← hx]
        exact dig_iff.2 hd
    · have : ¬ dig x = true := by rw [dig_iff]; have := of_decide_eq_true h1; omega
      rw [no this]; exact out_res0
  · have hk' : k = b.data.toList.length := by simp at hb; omega
    subst hk'
    rw [List.take_length] at hall ⊢
    have hv := valN_small hall (by omega)
    have e : rres neg b.data.toList = some (if neg = true then -(valN b.data.toList) else valN b.data.toList) := by
      unfold rres; rw [if_neg (by simp [hr]), if_pos hall]
    rw [e]
    cases neg with
    | false => simp only [walk, wl, rgets, retv, argsEnv, ev, cst, cst1, cstL, AEnv.get, AEnv.trim, envput, qstep, abin, aun, evs, evo, deref, qload, target, if_true, if_false, Nat.reduceEqDiff, reduceIte, Nat.reduceAdd, AV.cells, AV.isTuple, setMany, alen, aiaddr, afill, Nat.reduceLeDiff, Nat.reduceMul, Nat.reduceLT, afillE, List.replicate]; exact out_two out_int out_bool
    | true =>
      have u5 : IntKind.i64.wrap (0 - valN b.data.toList) = -(valN b.data.toList) := by rw [wrap_id (by omega) (by omega)]; omega
      simp only [walk, wl, rgets, retv, argsEnv, ev, cst, cst1, cstL, AEnv.get, AEnv.trim, envput, qstep, abin, aun, evs, evo, deref, qload, target, if_true, if_false, Nat.reduceEqDiff, reduceIte, Nat.reduceAdd, AV.cells, AV.isTuple, setMany, alen, aiaddr, afill, Nat.reduceLeDiff, Nat.reduceMul, Nat.reduceLT, afillE, List.replicate, u5]
      exact out_two out_int out_bool
theorem rbody_cons {x : UInt8} {r : List UInt8} : rbody (x :: r) = if x = 45 then (true, r) else (false, x :: r) := rfl
theorem int_tail {neg : Bool} {b : ByteArray} {H : AHeap} {X : AEnv} (hs : b.size ≤ 1000000) : awp Tryz.prog ir62b (fnPost [(.tmp 2), (.tmp 3)] fun x H' => Out H' x (resAV (rres neg b.data.toList))) ((0, .str b) :: (4, .bool neg) :: X) H := by
  unfold ir62b
  have sl := size_list b
  have bad : rbad neg b.data.toList = true → rres neg b.data.toList = none := fun h => by unfold rres; rw [if_pos h]
  rcases Nat.eq_zero_or_pos b.size with e0 | h0
  · have c : ((b.size : Int) == 0) = true := by rw [e0]; rfl
    simp only [walk, wl, rgets, retv, argsEnv, ev, cst, cst1, cstL, AEnv.get, AEnv.trim, envput, qstep, abin, aun, evs, evo, deref, qload, target, if_true, if_false, Nat.reduceEqDiff, reduceIte, Nat.reduceAdd, AV.cells, AV.isTuple, setMany, alen, aiaddr, afill, Nat.reduceLeDiff, Nat.reduceMul, Nat.reduceLT, afillE, List.replicate, c]
    rw [bad (by unfold rbad; simp [← sl, e0])]; exact out_res0
  have c : ((b.size : Int) == 0) = false := by simp only [beq_eq_false_iff_ne]; omega
  simp only [walk, wl, rgets, retv, argsEnv, ev, cst, cst1, cstL, AEnv.get, AEnv.trim, envput, qstep, abin, aun, evs, evo, deref, qload, target, if_true, if_false, Nat.reduceEqDiff, reduceIte, Nat.reduceAdd, AV.cells, AV.isTuple, setMany, alen, aiaddr, afill, Nat.reduceLeDiff, Nat.reduceMul, Nat.reduceLT, afillE, List.replicate, c]
  by_cases h14' : b.size ≤ 14
  rotate_left
  · have c : decide ((b.size : Int) > 14) = true := by simp only [decide_eq_true_eq]; omega
    simp only [walk, wl, rgets, retv, argsEnv, ev, cst, cst1, cstL, AEnv.get, AEnv.trim, envput, qstep, abin, aun, evs, evo, deref, qload, target, if_true, if_false, Nat.reduceEqDiff, reduceIte, Nat.reduceAdd, AV.cells, AV.isTuple, setMany, alen, aiaddr, afill, Nat.reduceLeDiff, Nat.reduceMul, Nat.reduceLT, afillE, List.replicate, c]
    have : 14 < b.data.toList.length := by omega
    rw [bad (by unfold rbad; simp only [this, decide_true, Bool.or_true, Bool.true_or])]; exact out_res0
  have h14 : b.size ≤ 14 := h14'
  have c : decide ((b.size : Int) > 14) = false := by simp only [decide_eq_false_iff_not]; omega
  have hl0 : 0 < b.data.toList.length := by omega
  obtain ⟨x0, hx0⟩ : ∃ x0, x0 = b.data.toList[0] := ⟨_, rfl⟩
  have g0 : b[0]? = some x0 := by rw [hx0]; exact byte_get h0
  have hh : b.data.toList.head? = some x0 := by rw [List.head?_eq_getElem?, List.getElem?_eq_getElem hl0, hx0]
  have z0 : ((0 : Int)).toNat = 0 := rfl
  have c0 : (0 : Int) ≤ 0 := Int.le_refl _
  have rest : rbad neg b.data.toList = false → awp Tryz.prog ir62c (fnPost [(.tmp 2), (.tmp 3)] fun x H' => Out H' x (resAV (rres neg b.data.toList))) [(0, .str b), (4, .bool neg), (38, .bool false)] H := fun h => int_loop h14 h
  have rb : rbad neg b.data.toList = (decide (x0 = 48) && (neg || decide (1 < b.size))) := by
    have e1 : decide (b.data.toList.length = 0) = false := by simp only [decide_eq_false_iff_not]; omega
    have e2 : decide (14 < b.data.toList.length) = false := by simp only [decide_eq_false_iff_not]; omega
    unfold rbad
    rw [e1, e2, hh, ← sl]
    simp
  have x48 : (((x0.toNat : Nat) : Int) == 48) = decide (x0 = 48) := by
    rw [Bool.eq_iff_iff]
    simp only [beq_iff_eq, decide_eq_true_eq]
    constructor
    · intro h; exact UInt8.toNat_inj.1 (by show x0.toNat = 48; omega)
    · intro h; rw [h]; rfl
  cases neg with
  | false =>
    simp only [walk, wl, rgets, retv, argsEnv, ev, cst, cst1, cstL, AEnv.get, AEnv.trim, envput, qstep, abin, aun, evs, evo, deref, qload, target, if_true, if_false, Nat.reduceEqDiff, reduceIte, Nat.reduceAdd, AV.cells, AV.isTuple, setMany, alen, aiaddr, afill, Nat.reduceLeDiff, Nat.reduceMul, Nat.reduceLT, afillE, List.replicate, c, g0, z0, c0, x48]
    refine withGuard_intro ?_ ?_ <;> intro h3 <;> simp only [walk, wl, rgets, retv, argsEnv, ev, cst, cst1, cstL, AEnv.get, AEnv.trim, envput, qstep, abin, aun, evs, evo, deref, qload, target, if_true, if_false, Nat.reduceEqDiff, reduceIte, Nat.reduceAdd, AV.cells, AV.isTuple, setMany, alen, aiaddr, afill, Nat.reduceLeDiff, Nat.reduceMul, Nat.reduceLT, afillE, List.replicate, h3]
    · refine withBool_intro ?_ ?_ <;> intro h5 <;> simp only [walk, wl, rgets, retv, argsEnv, ev, cst, cst1, cstL, AEnv.get, AEnv.trim, envput, qstep, abin, aun, evs, evo, deref, qload, target, if_true, if_false, Nat.reduceEqDiff, reduceIte, Nat.reduceAdd, AV.cells, AV.isTuple, setMany, alen, aiaddr, afill, Nat.reduceLeDiff, Nat.reduceMul, Nat.reduceLT, afillE, List.replicate]
      · have : 1 < b.size := by have := of_decide_eq_true h5; omega
        rw [bad (by rw [rb, h3, decide_eq_true this]; rfl)]; exact out_res0
      · have : ¬ 1 < b.size := by have := of_decide_eq_false h5; omega
        exact rest (by rw [rb, h3, decide_eq_false this]; rfl)
    · exact rest (by rw [rb, h3]; rfl)
  | true =>
    simp only [walk, wl, rgets, retv, argsEnv, ev, cst, cst1, cstL, AEnv.get, AEnv.trim, envput, qstep, abin, aun, evs, evo, deref, qload, target, if_true, if_false, Nat.reduceEqDiff, reduceIte, Nat.reduceAdd, AV.cells, AV.isTuple, setMany, alen, aiaddr, afill, Nat.reduceLeDiff, Nat.reduceMul, Nat.reduceLT, afillE, List.replicate, c, g0, z0, c0, x48]
    refine withGuard_intro ?_ ?_ <;> intro h3 <;> simp only [walk, wl, rgets, retv, argsEnv, ev, cst, cst1, cstL, AEnv.get, AEnv.trim, envput, qstep, abin, aun, evs, evo, deref, qload, target, if_true, if_false, Nat.reduceEqDiff, reduceIte, Nat.reduceAdd, AV.cells, AV.isTuple, setMany, alen, aiaddr, afill, Nat.reduceLeDiff, Nat.reduceMul, Nat.reduceLT, afillE, List.replicate, h3]
    · rw [bad (by rw [rb, h3]; rfl)]; exact out_res0
    · exact rest (by rw [rb, h3]; rfl)
theorem rintO_plain {s : ByteArray} (h : (rbody s.data.toList) = (false, s.data.toList)) : rintO s = rres false s.data.toList := by unfold rintO; rw [h]
theorem rintO_neg {s : ByteArray} {r : List UInt8} (h : (rbody s.data.toList) = (true, r)) : rintO s = rres true r := by unfold rintO; rw [h]
theorem asl_one {s : ByteArray} (h : 1 ≤ s.size) : asliceS (.str s) (some (.int .i64 1)) none = some (.str (s.extract 1 s.size)) := asl_lo (a := 1) h
theorem rInteger_ok (s : ByteArray) (hs : s.size ≤ 1000000) : PCall Tryz.prog 62 [.str s] (resAV (rintO s)) := by
  refine PCall.intro text62 (by simp) ?_
  unfold ir62
  have sl := size_list s
  have z0 : ((0 : Int)).toNat = 0 := rfl
  have c0 : (0 : Int) ≤ 0 := Int.le_refl _
  rcases Nat.eq_zero_or_pos s.size with e0 | h0
  · have c : decide ((s.size : Int) > 0) = false := by rw [e0]; rfl
    have el : s.data.toList = [] := List.eq_nil_of_length_eq_zero (by omega)
    have er : rbody s.data.toList = (false, s.data.toList) := by rw [el]; rfl
    rw [rintO_plain er]
    simp only [walk, wl, rgets, retv, argsEnv, ev, cst, cst1, cstL, AEnv.get, AEnv.trim, envput, qstep, abin, aun, evs, evo, deref, qload, target, if_true, if_false, Nat.reduceEqDiff, reduceIte, Nat.reduceAdd, AV.cells, AV.isTuple, setMany, alen, aiaddr, afill, Nat.reduceLeDiff, Nat.reduceMul, Nat.reduceLT, afillE, List.replicate, c]
    exact int_tail hs
  · have c : decide ((s.size : Int) > 0) = true := by simp only [decide_eq_true_eq]; omega
    have hl0 : 0 < s.data.toList.length := by omega
    obtain ⟨x0, hx0⟩ : ∃ x0, x0 = s.data.toList[0] := ⟨_, rfl⟩
    have g0 : s[0]? = some x0 := by rw [hx0]; exact byte_get h0
    have x45 : (((x0.toNat : Nat) : Int) == 45) = decide (x0 = 45) := by
      rw [Bool.eq_iff_iff]
      simp only [beq_iff_eq, decide_eq_true_eq]
      constructor
      · intro h; exact UInt8.toNat_inj.1 (by show x0.toNat = 45; omega)
      · intro h; rw [h]; rfl
    have ec : s.data.toList = x0 :: s.data.toList.drop 1 := by
      have := List.drop_eq_getElem_cons hl0
      rw [List.drop_zero] at this
      rw [hx0]; exact this
    by_cases hm : x0 = 45
    · have er : rbody s.data.toList = (true, (s.extract 1 s.size).data.toList) := by
        rw [extract_list, sl, List.take_length]
        conv => lhs; rw [ec]
        rw [rbody_cons, if_pos hm]
      rw [rintO_neg er]
      rw [decide_eq_true hm] at x45
      have hs2 : (s.extract 1 s.size).size ≤ 1000000 := by
        rw [size_list, extract_list, List.length_drop, List.length_take]; omega
      obtain ⟨b, hb⟩ : ∃ b, b = s.extract 1 s.size := ⟨_, rfl⟩
      have a1 := asl_one (s := s) h0
      rw [← hb] at hs2 a1 ⊢
      simp only [walk, wl, rgets, retv, argsEnv, ev, cst, cst1, cstL, AEnv.get, AEnv.trim, envput, qstep, abin, aun, evs, evo, deref, qload, target, if_true, if_false, Nat.reduceEqDiff, reduceIte, Nat.reduceAdd, AV.cells, AV.isTuple, setMany, alen, aiaddr, afill, Nat.reduceLeDiff, Nat.reduceMul, Nat.reduceLT, afillE, List.replicate, c, g0, z0, c0, x45, a1]
      exact int_tail hs2
    · have er : rbody s.data.toList = (false, s.data.toList) := by
        have : rbody (x0 :: s.data.toList.drop 1) = (false, x0 :: s.data.toList.drop 1) := by rw [rbody_cons, if_neg hm]
        rw [← ec] at this; exact this
      rw [rintO_plain er]
      rw [decide_eq_false hm] at x45
      simp only [walk, wl, rgets, retv, argsEnv, ev, cst, cst1, cstL, AEnv.get, AEnv.trim, envput, qstep, abin, aun, evs, evo, deref, qload, target, if_true, if_false, Nat.reduceEqDiff, reduceIte, Nat.reduceAdd, AV.cells, AV.isTuple, setMany, alen, aiaddr, afill, Nat.reduceLeDiff, Nat.reduceMul, Nat.reduceLT, afillE, List.replicate, c, g0, z0, c0, x45]
      exact int_tail hs
end Go.Proofs.YtgadlckkmhhmbaaGreatDoor
