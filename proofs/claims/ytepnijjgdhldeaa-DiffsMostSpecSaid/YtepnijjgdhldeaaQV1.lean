/- Sums; uses of differences, and what they prove. -/
import Derived.Test.YtepnijjgdhldeaaQG6
import Derived.Test.YtepnijjgdhldeaaQD12
namespace Go.Proofs.Ytepnijjgdhldeaa
open Go.Awp
set_option linter.unusedSimpArgs false
set_option linter.unusedVariables false
theorem chain_stop {ds : List Df} {s : Gs} : ∀ (i a : Nat), bk ds s i a < 0 → ∃ q, q < i ∧ s.last (itp ds s q a) < 0 ∧ ∀ u, u < q → ¬ s.last (itp ds s u a) < 0
  | 0, a, h => by simp [bk] at h; omega
  | i + 1, a, h => by
    have e : bk ds s (i + 1) a = if s.last a < 0 then -1 else bk ds s i (pre ds s a) := rfl
    rw [e] at h
    split at h
    · exact ⟨0, by omega, ‹_›, fun u hu => by omega⟩
    · rename_i hl
      obtain ⟨q, q1, q2, q3⟩ := chain_stop i (pre ds s a) h
      refine ⟨q + 1, by omega, q2, fun u hu => ?_⟩
      cases u with
      | zero => exact hl
      | succ u => exact q3 u (by omega)
theorem Sol.calm_all {n : Nat} {ds : List Df} (h : Sol n ds) : ∀ d, d ∈ ds → (lens n ds (everyone n)).1.long (to d) ≤ (lens n ds (everyone n)).1.long (fr d) + d.2.2 := fun d hd =>
  ((lens_grown h.good h.sol).2 d hd (lens_has (by simp [everyone]; exact h.good.fit.fr d hd)).1).2
def sumN : Nat → (Nat → Int) → Int
  | 0, _ => 0
  | n + 1, f => sumN n f + f n
theorem sumN_congr {f g : Nat → Int} : ∀ (n : Nat), (∀ i, i < n → f i = g i) → sumN n f = sumN n g
  | 0, _ => rfl
  | n + 1, h => by simp only [sumN]; rw [sumN_congr n fun i hi => h i (by omega), h n (by omega)]
theorem sumN_le {f g : Nat → Int} : ∀ (n : Nat), (∀ i, i < n → f i ≤ g i) → sumN n f ≤ sumN n g
  | 0, _ => Int.le_refl _
  | n + 1, h => by
    simp only [sumN]
    have := sumN_le n fun i hi => h i (by omega)
    have := h n (by omega)
    omega
theorem sumN_add {f g : Nat → Int} : ∀ (n : Nat), sumN n (fun i => f i + g i) = sumN n f + sumN n g
  | 0 => rfl
  | n + 1 => by simp only [sumN]; rw [sumN_add n]; omega
theorem sumN_mul {f : Nat → Int} {c : Int} : ∀ (n : Nat), sumN n (fun i => c * f i) = c * sumN n f
  | 0 => by simp [sumN]
  | n + 1 => by simp only [sumN]; rw [sumN_mul n, Int.mul_add]
theorem sumN_zero {f : Nat → Int} (n : Nat) (h : ∀ i, i < n → f i = 0) : sumN n f = 0 := by
  rw [sumN_congr n h]
  induction n with
  | zero => rfl
  | succ n ih => simp only [sumN]; rw [ih fun i hi => h i (by omega)]; rfl
theorem sumN_upd {f : Nat → Int} {a : Nat} {c : Int} : ∀ (n : Nat), sumN n (upd f a c) = sumN n f + (if a < n then c - f a else 0)
  | 0 => by simp [sumN]
  | n + 1 => by
    simp only [sumN]
    rw [sumN_upd n]
    by_cases h : n = a
    · subst h
      rw [upd_eq, if_neg (by omega), if_pos (by omega)]; omega
    · rw [upd_ne h]
      by_cases h2 : a < n
      · rw [if_pos h2, if_pos (by omega)]; omega
      · rw [if_neg h2, if_neg (by omega)]; omega
def dl (a b : Nat) : Int := if a = b then 1 else 0
theorem sumN_dl {g : Nat → Int} {a : Nat} : ∀ (n : Nat), sumN n (fun v => g v * dl a v) = if a < n then g a else 0
  | 0 => by simp [sumN]
  | n + 1 => by
    simp only [sumN]
    rw [sumN_dl n]
    by_cases h : a = n
    · subst h; rw [if_neg (by omega), if_pos (by omega)]; simp [dl]
    · by_cases h2 : a < n
      · rw [if_pos h2, if_pos (by omega)]; simp [dl, h]
      · rw [if_neg h2, if_neg (by omega)]; simp [dl, h]
theorem sumN_pos {f : Nat → Int} {a : Nat} : ∀ (n : Nat), (∀ i, i < n → 0 ≤ f i) → a < n → 0 < f a → 0 < sumN n f
  | 0, _, h, _ => by omega
  | n + 1, h, ha, hp => by
    simp only [sumN]
    have h0 : 0 ≤ sumN n f := by
      have := sumN_le (f := fun _ => 0) (g := f) n fun i hi => h i (by omega)
      rw [sumN_zero n fun _ _ => rfl] at this; exact this
    have hn := h n (by omega)
    by_cases e : a = n
    · subst e; omega
    · have := sumN_pos n (fun i hi => h i (by omega)) (by omega : a < n) hp
      omega
def ed (ds : List Df) (k : Nat) : Df := ds.getD k (0, 0, 0)
theorem ed_get {ds : List Df} {k : Nat} (h : k < ds.length) : ds[k] = ed ds k := by simp [ed, h]
theorem ed_get? {ds : List Df} {k : Nat} (h : k < ds.length) : ds[k]? = some (ed ds k) := by rw [← ed_get h]; exact List.getElem?_eq_getElem h
theorem ed_mem {ds : List Df} {k : Nat} (h : k < ds.length) : ed ds k ∈ ds := by rw [← ed_get h]; exact List.getElem_mem h
/-- What comes to a node, by the first so many differences. -/
def innc (ds : List Df) (F : Nat → Int) (c : Nat) (v : Nat) : Int := sumN c fun k => F k * (dl (to (ed ds k)) v - dl (fr (ed ds k)) v)
def inn (ds : List Df) (F : Nat → Int) (v : Nat) : Int := innc ds F ds.length v
def costN (ds : List Df) (F : Nat → Int) : Int := sumN ds.length fun k => F k * (ed ds k).2.2
theorem pair_dl {x : Nat → Int} {c : Int} {a b n : Nat} (ha : a < n) (hb : b < n) : sumN n (fun v => x v * (c * (dl a v - dl b v))) = c * (x a - x b) := by
  have e : ∀ i, i < n → x i * (c * (dl a i - dl b i)) = (c * x i) * dl a i + (-(c * x i)) * dl b i := fun i _ => by
    rw [Int.mul_sub, Int.mul_sub, ← Int.mul_assoc, ← Int.mul_assoc, Int.mul_comm (x i) c, Int.neg_mul]; omega
  rw [sumN_congr n e, sumN_add, sumN_dl, sumN_dl, if_pos ha, if_pos hb, Int.mul_sub]; omega
theorem pairc {n : Nat} {ds : List Df} {F x : Nat → Int} (hf : ∀ d, d ∈ ds → fr d < n ∧ to d < n) : ∀ c, c ≤ ds.length → sumN n (fun v => x v * innc ds F c v) = sumN c fun k => F k * (x (to (ed ds k)) - x (fr (ed ds k)))
  | 0, _ => by simp only [innc, sumN]; exact sumN_zero n fun _ _ => Int.mul_zero _
  | c + 1, h => by
    have hd := hf _ (ed_mem (ds := ds) (k := c) (by omega))
    have e : ∀ i, i < n → x i * innc ds F (c + 1) i = x i * innc ds F c i + x i * (F c * (dl (to (ed ds c)) i - dl (fr (ed ds c)) i)) := fun i _ => by
      show x i * (innc ds F c i + _) = _
      rw [Int.mul_add]
    rw [sumN_congr n e, sumN_add, pairc hf c (by omega), pair_dl hd.2 hd.1]
    rfl
theorem pair {n : Nat} {ds : List Df} {F x : Nat → Int} (hf : ∀ d, d ∈ ds → fr d < n ∧ to d < n) : sumN n (fun v => x v * inn ds F v) = sumN ds.length fun k => F k * (x (to (ed ds k)) - x (fr (ed ds k))) := pairc hf _ (Nat.le_refl _)
/-- Numbers that fulfil all differences. -/
def Feas (ds : List Df) (x : Nat → Int) : Prop := ∀ k, k < ds.length → x (to (ed ds k)) ≤ x (fr (ed ds k)) + (ed ds k).2.2
/-- Differences that are used hold with equality. -/
def Tight (ds : List Df) (F x : Nat → Int) : Prop := ∀ k, k < ds.length → 0 < F k → x (fr (ed ds k)) + (ed ds k).2.2 ≤ x (to (ed ds k))
/-- A use that brings all nodes what they want. -/
structure Brings (n : Nat) (ds : List Df) (w : Nat → Int) (F : Nat → Int) : Prop where
  nonneg : ∀ k, k < ds.length → 0 ≤ F k
  bal : ∀ v, 0 < v → v < n → inn ds F v = w v
def dot (n : Nat) (w x : Nat → Int) : Int := sumN n fun v => w v * x v
theorem Brings.dot_eq {n : Nat} {ds : List Df} {w F x : Nat → Int} (hf : ∀ d, d ∈ ds → fr d < n ∧ to d < n) (h : Brings n ds w F) (h0 : x 0 = 0) : dot n w x = sumN ds.length fun k => F k * (x (to (ed ds k)) - x (fr (ed ds k))) := by
  rw [← pair hf]
  refine sumN_congr n fun v hv => ?_
  rcases Nat.eq_zero_or_pos v with e | e
  · subst e; rw [h0]; simp
  · rw [h.bal v e hv, Int.mul_comm]
theorem Brings.weak {n : Nat} {ds : List Df} {w F x : Nat → Int} (hf : ∀ d, d ∈ ds → fr d < n ∧ to d < n) (h : Brings n ds w F) (h0 : x 0 = 0) (hx : Feas ds x) : dot n w x ≤ costN ds F := by
  rw [h.dot_eq hf h0]
  refine sumN_le _ fun k hk => Int.mul_le_mul_of_nonneg_left ?_ (h.nonneg k hk)
  have := hx k hk; omega
theorem Brings.strong {n : Nat} {ds : List Df} {w F x : Nat → Int} (hf : ∀ d, d ∈ ds → fr d < n ∧ to d < n) (h : Brings n ds w F) (h0 : x 0 = 0) (hx : Feas ds x) (ht : Tight ds F x) : dot n w x = costN ds F := by
  rw [h.dot_eq hf h0]
  refine sumN_congr _ fun k hk => ?_
  rcases Int.lt_or_eq_of_le (h.nonneg k hk) with e | e
  · have h1 := hx k hk
    have h2 := ht k hk e
    rw [show x (to (ed ds k)) - x (fr (ed ds k)) = (ed ds k).2.2 by omega]
  · rw [← e]; simp
theorem Feas.shift {ds : List Df} {x : Nat → Int} (h : Feas ds x) (c : Int) : Feas ds fun v => x v - c := fun k hk => by have := h k hk; simp only; omega
theorem Tight.shift {ds : List Df} {F x : Nat → Int} (h : Tight ds F x) (c : Int) : Tight ds F fun v => x v - c := fun k hk hp => by have := h k hk hp; simp only; omega
structure Opt (n : Nat) (ds : List Df) (w F : Nat → Int) : Prop where
  brings : Brings n ds w F
  pot : ∃ x, Feas ds x ∧ Tight ds F x
theorem Opt.norm {n : Nat} {ds : List Df} {w F : Nat → Int} (h : Opt n ds w F) : ∃ x, x 0 = 0 ∧ Feas ds x ∧ Tight ds F x := by
  obtain ⟨x, h1, h2⟩ := h.pot
  exact ⟨fun v => x v - x 0, Int.sub_self _, h1.shift _, h2.shift _⟩
theorem Opt.le {n : Nat} {ds : List Df} {w F F' : Nat → Int} (hf : ∀ d, d ∈ ds → fr d < n ∧ to d < n) (h : Opt n ds w F) (h' : Brings n ds w F') : costN ds F ≤ costN ds F' := by
  obtain ⟨x, h0, h1, h2⟩ := h.norm
  rw [← h.brings.strong hf h0 h1 h2]
  exact h'.weak hf h0 h1
theorem Opt.same {n : Nat} {ds : List Df} {w F F' : Nat → Int} (hf : ∀ d, d ∈ ds → fr d < n ∧ to d < n) (h : Opt n ds w F) (h' : Opt n ds w F') : costN ds F = costN ds F' :=
  Int.le_antisymm (h.le hf h'.brings) (h'.le hf h.brings)
/-- A direction in which numbers can go on and on. -/
structure Ray (n : Nat) (ds : List Df) (w y : Nat → Int) : Prop where
  zero : y 0 = 0
  down : ∀ k, k < ds.length → y (to (ed ds k)) ≤ y (fr (ed ds k))
  up : 0 < dot n w y
theorem Ray.none {n : Nat} {ds : List Df} {w y F : Nat → Int} (hf : ∀ d, d ∈ ds → fr d < n ∧ to d < n) (h : Ray n ds w y) (hb : Brings n ds w F) : False := by
  have h1 := h.up
  rw [hb.dot_eq hf h.zero] at h1
  have h2 := sumN_le (f := fun k => F k * (y (to (ed ds k)) - y (fr (ed ds k)))) (g := fun _ => 0) ds.length fun k hk => by
    have a := h.down k hk
    have b := hb.nonneg k hk
    exact Int.mul_nonpos_of_nonneg_of_nonpos b (by omega)
  rw [sumN_zero (f := fun _ => (0 : Int)) ds.length fun _ _ => rfl] at h2
  omega
open Classical in
/-- The greatest sum, as the program answers. -/
noncomputable def mostN (n : Nat) (ds : List Df) (w : Nat → Int) : Int × Bool := if h : ∃ F, Opt n ds w F then (costN ds (Classical.choose h), true) else (0, false)
theorem mostN_t {n : Nat} {ds : List Df} {w F : Nat → Int} (hf : ∀ d, d ∈ ds → fr d < n ∧ to d < n) (h : Opt n ds w F) : mostN n ds w = (costN ds F, true) := by
  have hh : ∃ F, Opt n ds w F := ⟨F, h⟩
  unfold mostN
  rw [dif_pos hh, (Classical.choose_spec hh).same hf h]
theorem mostN_f {n : Nat} {ds : List Df} {w y : Nat → Int} (hf : ∀ d, d ∈ ds → fr d < n ∧ to d < n) (h : Ray n ds w y) : mostN n ds w = (0, false) := by
  unfold mostN
  rw [dif_neg]
  rintro ⟨F, hF⟩
  exact h.none hf hF.brings
end Go.Proofs.Ytepnijjgdhldeaa
/- A use of differences: what it tells of itself. -/
namespace Go.Proofs.Ytepnijjgdhldeaa
open Go.Awp
set_option linter.unusedSimpArgs false
set_option linter.unusedVariables false
set_option maxRecDepth 10000
set_option maxHeartbeats 4000000
def useC (n : Nat) (ds : List Df) (F W : Nat → Int) : List AV := [I n, .ro false (rows ds), .ro false (ic (li ds.length F)), .ro false (ic (li n W))]
theorem nodes149 {n : Nat} {ds : List Df} {F W : Nat → Int} : PCall Try.prog 149 [.rop (useC n ds F W)] (I n) := by
  refine PCall.intro text149 (by simp) ?_
  unfold ir149 useC
  simp only [walkS, wl, rgets, retv, argsEnv, ev, cst, cst1, cstL, AEnv.get, AEnv.trim, envput, qstep, abin, aun, evs, evo, deref, qload, target, if_true, if_false, Nat.reduceEqDiff, reduceIte, Nat.reduceAdd, AV.cells, AV.isTuple, setMany, alen, aiaddr, afill, Nat.reduceLeDiff, Nat.reduceMul, Nat.reduceLT, afillE, List.replicate]
  exact out_int
def usedL (F : Nat → Int) : Nat → List Int
  | 0 => []
  | k + 1 => if 0 < F k then usedL F k ++ [(k : Int)] else usedL F k
theorem usedL_length {F : Nat → Int} : ∀ k, (usedL F k).length ≤ k
  | 0 => Nat.le_refl _
  | k + 1 => by
    have := usedL_length (F := F) k
    unfold usedL
    split
    · rw [List.length_append]; simp; omega
    · omega
theorem usedL_t {F : Nat → Int} {k : Nat} (h : 0 < F k) : usedL F (k + 1) = usedL F k ++ [(k : Int)] := if_pos h
theorem usedL_f {F : Nat → Int} {k : Nat} (h : ¬ 0 < F k) : usedL F (k + 1) = usedL F k := if_neg h
theorem used131 {n : Nat} {ds : List Df} {F W : Nat → Int} (hl : ds.length ≤ 4096) : PCall Try.prog 131 [.rop (useC n ds F W)] (.ro true (ic (usedL F ds.length))) := by
  refine PCall.intro text131 (by simp) ?_
  unfold ir131
  simp only [walkS, wl, rgets, retv, argsEnv, ev, cst, cst1, cstL, AEnv.get, AEnv.trim, envput, qstep, abin, aun, evs, evo, deref, qload, target, if_true, if_false, Nat.reduceEqDiff, reduceIte, Nat.reduceAdd, AV.cells, AV.isTuple, setMany, alen, aiaddr, afill, Nat.reduceLeDiff, Nat.reduceMul, Nat.reduceLT, afillE, List.replicate, useC, ic_length, li_length]
  refine awp_loop (σ := Nat × AV) (fun s => [(3, s.2), (9, .ro false (ic (li ds.length F))), (10, I ds.length), (11, I s.1)]) (fun s H => Acc 0 H s.2 3 1 (ic (usedL F s.1))) (fun s => s.1 ≤ ds.length) (fun s => ds.length - s.1) (0, .nilSlice) (Nat.zero_le _) rfl (.inl ⟨rfl, rfl⟩) ?_
  rintro ⟨k, a⟩ H hk hacc
  simp only at hk hacc
  simp only [walkS, wl, rgets, retv, argsEnv, ev, cst, cst1, cstL, AEnv.get, AEnv.trim, envput, qstep, abin, aun, evs, evo, deref, qload, target, if_true, if_false, Nat.reduceEqDiff, reduceIte, Nat.reduceAdd, AV.cells, AV.isTuple, setMany, alen, aiaddr, afill, Nat.reduceLeDiff, Nat.reduceMul, Nat.reduceLT, afillE, List.replicate]
  refine withBool_intro ?_ ?_ <;> intro hb <;> simp only [walkS, wl, rgets, retv, argsEnv, ev, cst, cst1, cstL, AEnv.get, AEnv.trim, envput, qstep, abin, aun, evs, evo, deref, qload, target, if_true, if_false, Nat.reduceEqDiff, reduceIte, Nat.reduceAdd, AV.cells, AV.isTuple, setMany, alen, aiaddr, afill, Nat.reduceLeDiff, Nat.reduceMul, Nat.reduceLT, afillE, List.replicate]
  · have hlt : k < ds.length := by simpa using hb
    simp only [walkS, wl, rgets, retv, argsEnv, ev, cst, cst1, cstL, AEnv.get, AEnv.trim, envput, qstep, abin, aun, evs, evo, deref, qload, target, if_true, if_false, Nat.reduceEqDiff, reduceIte, Nat.reduceAdd, AV.cells, AV.isTuple, setMany, alen, aiaddr, afill, Nat.reduceLeDiff, Nat.reduceMul, Nat.reduceLT, afillE, List.replicate, li_get hlt]
    refine withBool_intro ?_ ?_ <;> intro hp <;> simp only [walkS, wl, rgets, retv, argsEnv, ev, cst, cst1, cstL, AEnv.get, AEnv.trim, envput, qstep, abin, aun, evs, evo, deref, qload, target, if_true, if_false, Nat.reduceEqDiff, reduceIte, Nat.reduceAdd, AV.cells, AV.isTuple, setMany, alen, aiaddr, afill, Nat.reduceLeDiff, Nat.reduceMul, Nat.reduceLT, afillE, List.replicate]
    · have hF : 0 < F k := by simpa using hp
      have := usedL_length (F := F) k
      refine acc_append (lo := 0) (Nat.zero_le _) (hacc.push _) rfl rfl AHeap.obj_push_eq (by simp only [ic_length]; omega) fun a' H2 hl' hacc' hkeep => ?_
      simp only [walkS, wl, rgets, retv, argsEnv, ev, cst, cst1, cstL, AEnv.get, AEnv.trim, envput, qstep, abin, aun, evs, evo, deref, qload, target, if_true, if_false, Nat.reduceEqDiff, reduceIte, Nat.reduceAdd, AV.cells, AV.isTuple, setMany, alen, aiaddr, afill, Nat.reduceLeDiff, Nat.reduceMul, Nat.reduceLT, afillE, List.replicate]
      rw [wrap_id (by omega) (by omega)]
      refine loop_end (k + 1, a') hlt (by simp only; omega) rfl ?_
      simp only [usedL_t hF, ic_snoc]; exact hacc'
    · have hF : ¬ 0 < F k := by simpa using hp
      rw [wrap_id (by omega) (by omega)]
      refine loop_end (k + 1, a) hlt (by simp only; omega) rfl ?_
      simp only [usedL_f hF]; exact hacc
  · have hk' : k = ds.length := by simp at hb; omega
    subst hk'
    exact hacc.out (ic_simple _)
def givL (W : Nat → Int) : Nat → List Int
  | 0 => [0]
  | k + 1 => if 0 < k ∧ W k < 0 then givL W k ++ [(k : Int)] else givL W k
theorem givL_length {W : Nat → Int} : ∀ k, (givL W k).length ≤ k + 1
  | 0 => Nat.le_refl _
  | k + 1 => by
    have := givL_length (W := W) k
    unfold givL
    split
    · rw [List.length_append]; simp; omega
    · omega
theorem givers127 {n : Nat} {ds : List Df} {F W : Nat → Int} (hn : n ≤ 4096) : PCall Try.prog 127 [.rop (useC n ds F W)] (.ro true (ic (givL W n))) := by
  refine PCall.intro text127 (by simp) ?_
  unfold ir127
  simp only [walkS, wl, rgets, retv, argsEnv, ev, cst, cst1, cstL, AEnv.get, AEnv.trim, envput, qstep, abin, aun, evs, evo, deref, qload, target, if_true, if_false, Nat.reduceEqDiff, reduceIte, Nat.reduceAdd, AV.cells, AV.isTuple, setMany, alen, aiaddr, afill, Nat.reduceLeDiff, Nat.reduceMul, Nat.reduceLT, afillE, List.replicate, useC, ic_length, li_length]
  refine awp_loop (σ := Nat × AV) (fun s => [(3, s.2), (10, .ro false (ic (li n W))), (11, I n), (12, I s.1)]) (fun s H => Acc 0 H s.2 3 1 (ic (givL W s.1))) (fun s => s.1 ≤ n) (fun s => n - s.1) (0, .own 0 1 0 1) (Nat.zero_le _) rfl (.inr ⟨0, Nat.le_refl _, rfl, rfl⟩) ?_
  rintro ⟨k, a⟩ H hk hacc
  simp only at hk hacc
  simp only [walkS, wl, rgets, retv, argsEnv, ev, cst, cst1, cstL, AEnv.get, AEnv.trim, envput, qstep, abin, aun, evs, evo, deref, qload, target, if_true, if_false, Nat.reduceEqDiff, reduceIte, Nat.reduceAdd, AV.cells, AV.isTuple, setMany, alen, aiaddr, afill, Nat.reduceLeDiff, Nat.reduceMul, Nat.reduceLT, afillE, List.replicate]
  refine withBool_intro ?_ ?_ <;> intro hb <;> simp only [walkS, wl, rgets, retv, argsEnv, ev, cst, cst1, cstL, AEnv.get, AEnv.trim, envput, qstep, abin, aun, evs, evo, deref, qload, target, if_true, if_false, Nat.reduceEqDiff, reduceIte, Nat.reduceAdd, AV.cells, AV.isTuple, setMany, alen, aiaddr, afill, Nat.reduceLeDiff, Nat.reduceMul, Nat.reduceLT, afillE, List.replicate]
  · have hlt : k < n := by simpa using hb
    simp only [walkS, wl, rgets, retv, argsEnv, ev, cst, cst1, cstL, AEnv.get, AEnv.trim, envput, qstep, abin, aun, evs, evo, deref, qload, target, if_true, if_false, Nat.reduceEqDiff, reduceIte, Nat.reduceAdd, AV.cells, AV.isTuple, setMany, alen, aiaddr, afill, Nat.reduceLeDiff, Nat.reduceMul, Nat.reduceLT, afillE, List.replicate, li_get hlt]
    have hl' := givL_length (W := W) k
    have no : ¬ (0 < k ∧ W k < 0) → givL W (k + 1) = givL W k := fun h => if_neg h
    by_cases h0 : (k : Int) > 0
    · by_cases hp : W k < 0
      · simp only [walkS, wl, rgets, retv, argsEnv, ev, cst, cst1, cstL, AEnv.get, AEnv.trim, envput, qstep, abin, aun, evs, evo, deref, qload, target, if_true, if_false, Nat.reduceEqDiff, reduceIte, Nat.reduceAdd, AV.cells, AV.isTuple, setMany, alen, aiaddr, afill, Nat.reduceLeDiff, Nat.reduceMul, Nat.reduceLT, afillE, List.replicate, decide_eq_true h0, decide_eq_true hp]
        refine acc_append (lo := 0) (Nat.zero_le _) (hacc.push _) rfl rfl AHeap.obj_push_eq (by simp only [ic_length]; omega) fun a' H2 hl' hacc' hkeep => ?_
        simp only [walkS, wl, rgets, retv, argsEnv, ev, cst, cst1, cstL, AEnv.get, AEnv.trim, envput, qstep, abin, aun, evs, evo, deref, qload, target, if_true, if_false, Nat.reduceEqDiff, reduceIte, Nat.reduceAdd, AV.cells, AV.isTuple, setMany, alen, aiaddr, afill, Nat.reduceLeDiff, Nat.reduceMul, Nat.reduceLT, afillE, List.replicate]
        rw [wrap_id (by omega) (by omega)]
        refine loop_end (k + 1, a') hlt (by simp only; omega) rfl ?_
        have : givL W (k + 1) = givL W k ++ [(k : Int)] := if_pos ⟨by omega, hp⟩
        simp only [this, ic_snoc]; exact hacc'
      · simp only [walkS, wl, rgets, retv, argsEnv, ev, cst, cst1, cstL, AEnv.get, AEnv.trim, envput, qstep, abin, aun, evs, evo, deref, qload, target, if_true, if_false, Nat.reduceEqDiff, reduceIte, Nat.reduceAdd, AV.cells, AV.isTuple, setMany, alen, aiaddr, afill, Nat.reduceLeDiff, Nat.reduceMul, Nat.reduceLT, afillE, List.replicate, decide_eq_true h0, decide_eq_false hp]
        rw [wrap_id (by omega) (by omega)]
        refine loop_end (k + 1, a) hlt (by simp only; omega) rfl ?_
        simp only [no (fun h => hp h.2)]; exact hacc
    · simp only [walkS, wl, rgets, retv, argsEnv, ev, cst, cst1, cstL, AEnv.get, AEnv.trim, envput, qstep, abin, aun, evs, evo, deref, qload, target, if_true, if_false, Nat.reduceEqDiff, reduceIte, Nat.reduceAdd, AV.cells, AV.isTuple, setMany, alen, aiaddr, afill, Nat.reduceLeDiff, Nat.reduceMul, Nat.reduceLT, afillE, List.replicate, decide_eq_false h0]
      rw [wrap_id (by omega) (by omega)]
      refine loop_end (k + 1, a) hlt (by simp only; omega) rfl ?_
      simp only [no (fun h => h0 (by omega))]; exact hacc
  · have hk' : k = n := by simp at hb; omega
    subst hk'
    exact hacc.out (ic_simple _)
/-- The differences of a net, and behind them those that are used, turned round. -/
def rev (d : Df) : Df := (d.2.1, d.1, -d.2.2)
def lns (ds : List Df) (F : Nat → Int) : List Df := ds ++ (usedL F ds.length).map fun k => rev (ed ds k.toNat)
theorem usedL_mem {F : Nat → Int} : ∀ (k : Nat) (x : Int), x ∈ usedL F k → ∃ j : Nat, x = j ∧ j < k ∧ 0 < F j
  | 0, x, h => by simp [usedL] at h
  | k + 1, x, h => by
    unfold usedL at h
    split at h
    · rename_i hp
      rcases List.mem_append.1 h with h | h
      · obtain ⟨j, h1, h2, h3⟩ := usedL_mem k x h
        exact ⟨j, h1, by omega, h3⟩
      · exact ⟨k, by simpa using h, by omega, hp⟩
    · obtain ⟨j, h1, h2, h3⟩ := usedL_mem k x h
      exact ⟨j, h1, by omega, h3⟩
theorem used_rows {n : Nat} {ds : List Df} {F W : Nat → Int} (hl : ds.length ≤ 2048) (hw : ∀ d, d ∈ ds → -1073741824 ≤ d.2.2 ∧ d.2.2 ≤ 1073741824) {a : AV} {H : AHeap} (hacc : Acc 0 H a 39 3 (rows ds)) : ACall Try.prog 131 [.rop (useC n ds F W)] H (fun x H' => x = .ro true (ic (usedL F ds.length)) ∧ H' = H) := by
  refine PCall.lift (used131 (by omega)) (frzL_of' (d := 4) (carL_cons (car_ropF (carL_cons rfl (carL_cons car_rowsF (carL_cons (car_ro_false (ic_simple _)) (carL_cons (car_ro_false (ic_simple _)) rfl))))) rfl))
theorem lines130 {n : Nat} {ds : List Df} {F W : Nat → Int} (hl : ds.length ≤ 2048) (hw : ∀ d, d ∈ ds → -1073741824 ≤ d.2.2 ∧ d.2.2 ≤ 1073741824) : PCall Try.prog 130 [.rop (useC n ds F W)] (.ro true (rows (lns ds F))) := by
  refine PCall.intro text130 (by simp) ?_
  unfold ir130
  simp only [walkS, wl, rgets, retv, argsEnv, ev, cst, cst1, cstL, AEnv.get, AEnv.trim, envput, qstep, abin, aun, evs, evo, deref, qload, target, if_true, if_false, Nat.reduceEqDiff, reduceIte, Nat.reduceAdd, AV.cells, AV.isTuple, setMany, alen, aiaddr, afill, Nat.reduceLeDiff, Nat.reduceMul, Nat.reduceLT, afillE, List.replicate, useC]
  rcases Nat.eq_zero_or_pos ds.length with h0 | h0
  · obtain rfl := List.length_eq_zero_iff.1 h0
    refine call_pure (clone57_nil (b := false)) (frzL_of' (d := 4) rfl) ?_
    simp only [walkS, wl, rgets, retv, argsEnv, ev, cst, cst1, cstL, AEnv.get, AEnv.trim, envput, qstep, abin, aun, evs, evo, deref, qload, target, if_true, if_false, Nat.reduceEqDiff, reduceIte, Nat.reduceAdd, AV.cells, AV.isTuple, setMany, alen, aiaddr, afill, Nat.reduceLeDiff, Nat.reduceMul, Nat.reduceLT, afillE, List.replicate]
    refine (used_rows (n := n) (F := F) (W := W) (H := []) hl hw (.inl ⟨rfl, rfl⟩)).mono fun x H1 hx => ?_
    obtain ⟨rfl, rfl⟩ := hx
    have e : lns [] F = [] := rfl
    simp only [walkS, wl, rgets, retv, argsEnv, ev, cst, cst1, cstL, AEnv.get, AEnv.trim, envput, qstep, abin, aun, evs, evo, deref, qload, target, if_true, if_false, Nat.reduceEqDiff, reduceIte, Nat.reduceAdd, AV.cells, AV.isTuple, setMany, alen, aiaddr, afill, Nat.reduceLeDiff, Nat.reduceMul, Nat.reduceLT, afillE, List.replicate, ic_length, usedL, List.length_nil]
    refine awp_loop (σ := Unit) (fun _ => [(0, .rop (useC n [] F W)), (3, .nilSlice), (14, .ro true (ic [])), (15, I 0), (16, I 0)]) (fun _ _ => True) (fun _ => True) (fun _ => 0) () trivial rfl trivial ?_
    rintro _ H _ _
    have e0 : decide ((0 : Int) < 0) = false := rfl
    simp only [walkS, wl, rgets, retv, argsEnv, ev, cst, cst1, cstL, AEnv.get, AEnv.trim, envput, qstep, abin, aun, evs, evo, deref, qload, target, if_true, if_false, Nat.reduceEqDiff, reduceIte, Nat.reduceAdd, AV.cells, AV.isTuple, setMany, alen, aiaddr, afill, Nat.reduceLeDiff, Nat.reduceMul, Nat.reduceLT, afillE, List.replicate, e0]
    rw [e]
    exact out_nil
  · have hd : ds ≠ [] := by intro h; rw [h] at h0; simp at h0
    refine call_new (clone57_new (b := false) hd (by omega)) (frzL_of' (d := 4) (carL_cons car_rowsF rfl)) ?_
    simp only [walkS, wl, rgets, retv, argsEnv, ev, cst, cst1, cstL, AEnv.get, AEnv.trim, envput, qstep, abin, aun, evs, evo, deref, qload, target, if_true, if_false, Nat.reduceEqDiff, reduceIte, Nat.reduceAdd, AV.cells, AV.isTuple, setMany, alen, aiaddr, afill, Nat.reduceLeDiff, Nat.reduceMul, Nat.reduceLT, afillE, List.replicate]
    refine (used_rows (n := n) (F := F) (W := W) hl hw (.inr ⟨0, Nat.le_refl _, rfl, rfl⟩)).mono fun x H1 hx => ?_
    obtain ⟨rfl, rfl⟩ := hx
    simp only [walkS, wl, rgets, retv, argsEnv, ev, cst, cst1, cstL, AEnv.get, AEnv.trim, envput, qstep, abin, aun, evs, evo, deref, qload, target, if_true, if_false, Nat.reduceEqDiff, reduceIte, Nat.reduceAdd, AV.cells, AV.isTuple, setMany, alen, aiaddr, afill, Nat.reduceLeDiff, Nat.reduceMul, Nat.reduceLT, afillE, List.replicate, ic_length]
    refine awp_loop (σ := Nat × AV) (fun s => [(0, .rop (useC n ds F W)), (3, s.2), (14, .ro true (ic (usedL F ds.length))), (15, I (usedL F ds.length).length), (16, I s.1)]) (fun s H => Acc 0 H s.2 39 3 (rows (ds ++ ((usedL F ds.length).take s.1).map fun k => rev (ed ds k.toNat)))) (fun s => s.1 ≤ (usedL F ds.length).length) (fun s => (usedL F ds.length).length - s.1) (0, .own 0 (rows ds).length 0 (rows ds).length) (Nat.zero_le _) rfl (.inr ⟨0, Nat.le_refl _, by simp, by simp; rfl⟩) ?_
    rintro ⟨k, a⟩ H hk hacc
    simp only at hk hacc
    have hul := usedL_length (F := F) ds.length
    simp only [walkS, wl, rgets, retv, argsEnv, ev, cst, cst1, cstL, AEnv.get, AEnv.trim, envput, qstep, abin, aun, evs, evo, deref, qload, target, if_true, if_false, Nat.reduceEqDiff, reduceIte, Nat.reduceAdd, AV.cells, AV.isTuple, setMany, alen, aiaddr, afill, Nat.reduceLeDiff, Nat.reduceMul, Nat.reduceLT, afillE, List.replicate]
    refine withBool_intro ?_ ?_ <;> intro hb <;> simp only [walkS, wl, rgets, retv, argsEnv, ev, cst, cst1, cstL, AEnv.get, AEnv.trim, envput, qstep, abin, aun, evs, evo, deref, qload, target, if_true, if_false, Nat.reduceEqDiff, reduceIte, Nat.reduceAdd, AV.cells, AV.isTuple, setMany, alen, aiaddr, afill, Nat.reduceLeDiff, Nat.reduceMul, Nat.reduceLT, afillE, List.replicate]
    · have hlt : k < (usedL F ds.length).length := by simpa using hb
      obtain ⟨j, hj, hjk, hFj⟩ := usedL_mem _ _ (List.getElem_mem hlt)
      have hdj := hw _ (ed_mem hjk)
      have hrow : (rows ds)[j]? = some [I (ed ds j).1, I (ed ds j).2.1, I (ed ds j).2.2] := by rw [rows_get hjk, ed_get hjk]
      simp only [walkS, wl, rgets, retv, argsEnv, ev, cst, cst1, cstL, AEnv.get, AEnv.trim, envput, qstep, abin, aun, evs, evo, deref, qload, target, if_true, if_false, Nat.reduceEqDiff, reduceIte, Nat.reduceAdd, AV.cells, AV.isTuple, setMany, alen, aiaddr, afill, Nat.reduceLeDiff, Nat.reduceMul, Nat.reduceLT, afillE, List.replicate, useC, ic_get hlt, hj, hrow, rows_length, if_pos (show (j : Int) < ds.length by omega)]
      refine storeR rfl rfl AHeap.obj_push_eq rfl ⟨rfl, rfl, rfl, by simp⟩ fun H1 q1 q2 q3 => ?_
      simp only [List.set_cons_zero, List.set_cons_succ, setMany, AV.cells, Nat.zero_add, Nat.reduceAdd] at q2
      have hacc1 : Acc 0 H1 a 39 3 (rows (ds ++ ((usedL F ds.length).take k).map fun k => rev (ed ds k.toNat))) := by
        rcases hacc with h | ⟨q, h1, h2, h3⟩
        · exact .inl h
        · exact .inr ⟨q, h1, h2, by rw [q3 q (by have := AHeap.obj_lt h3; omega), AHeap.obj_push_lt (AHeap.obj_lt h3)]; exact h3⟩
      simp only [walkS, wl, rgets, retv, argsEnv, ev, cst, cst1, cstL, AEnv.get, AEnv.trim, envput, qstep, abin, aun, evs, evo, deref, qload, target, if_true, if_false, Nat.reduceEqDiff, reduceIte, Nat.reduceAdd, AV.cells, AV.isTuple, setMany, alen, aiaddr, afill, Nat.reduceLeDiff, Nat.reduceMul, Nat.reduceLT, afillE, List.replicate, q2]
      rw [wrap_id (x := 0 - (ed ds j).2.2) (by omega) (by omega)]
      refine acc_append (lo := 0) (Nat.zero_le _) (hacc1.push _) rfl rfl AHeap.obj_push_eq (by simp only [rows_length, List.length_append, List.length_map, List.length_take]; omega) fun a' H2 hl' hacc' hkeep => ?_
      simp only [walkS, wl, rgets, retv, argsEnv, ev, cst, cst1, cstL, AEnv.get, AEnv.trim, envput, qstep, abin, aun, evs, evo, deref, qload, target, if_true, if_false, Nat.reduceEqDiff, reduceIte, Nat.reduceAdd, AV.cells, AV.isTuple, setMany, alen, aiaddr, afill, Nat.reduceLeDiff, Nat.reduceMul, Nat.reduceLT, afillE, List.replicate]
      rw [wrap_id (by omega) (by omega)]
      refine loop_end (k + 1, a') hlt (by simp only; omega) rfl ?_
      have e : rows (ds ++ ((usedL F ds.length).take (k + 1)).map fun k => rev (ed ds k.toNat)) = rows (ds ++ ((usedL F ds.length).take k).map fun k => rev (ed ds k.toNat)) ++ [[I (ed ds j).2.1, I (ed ds j).1, I (0 - (ed ds j).2.2)]] := by
        rw [List.take_succ_eq_append_getElem hlt, List.map_append, ← List.append_assoc, hj]
        simp [rows, rev, dc]
      simp only [e]; exact hacc'
    · have hk' : k = (usedL F ds.length).length := by simp at hb; omega
      subst hk'
      rw [List.take_length] at hacc
      exact hacc.out (rows_simple _)
theorem use_car {n : Nat} {ds : List Df} {F W : Nat → Int} {H : AHeap} {d : Nat} : carry false H (d + 3) (.rop (useC n ds F W)) = some (.rop (useC n ds F W)) :=
  car_ropF (carL_cons rfl (carL_cons (car_rowsF (d := d)) (carL_cons (car_ro_false (ic_simple _)) (carL_cons (car_ro_false (ic_simple _)) rfl))))
theorem use_graph {n : Nat} {ds : List Df} {F W : Nat → Int} (hl : ds.length ≤ 2048) (hw : ∀ d, d ∈ ds → -1073741824 ≤ d.2.2 ∧ d.2.2 ≤ 1073741824) : IsGraph 91 (.rop (useC n ds F W)) n (lns ds F) :=
  ⟨⟨149, _, by kernel_rfl, nodes149, fun H => carL_cons use_car rfl⟩, ⟨130, by kernel_rfl, fun H => (PCall.lift (lines130 hl hw) (frzL_of' (d := 4) (carL_cons use_car rfl))).mono fun x H' h => ⟨⟨[], by rw [h.2, List.append_nil]⟩, true, h.1⟩⟩⟩
end Go.Proofs.Ytepnijjgdhldeaa
/- Uses of differences: what can still be changed, and how it is. -/
namespace Go.Proofs.Ytepnijjgdhldeaa
open Go.Awp
set_option linter.unusedSimpArgs false
set_option linter.unusedVariables false
theorem usedL_in {F : Nat → Int} {j : Nat} (hp : 0 < F j) : ∀ k, j < k → (j : Int) ∈ usedL F k
  | 0, h => by omega
  | k + 1, h => by
    by_cases e : j = k
    · subst e; rw [usedL_t hp]; simp
    · have := usedL_in hp k (by omega)
      unfold usedL
      split
      · exact List.mem_append_left _ this
      · exact this
def jx (ds : List Df) (F : Nat → Int) (p : Nat) : Nat := if p < ds.length then p else ((usedL F ds.length).getD (p - ds.length) 0).toNat
theorem lns_length {ds : List Df} {F : Nat → Int} : (lns ds F).length = ds.length + (usedL F ds.length).length := by simp [lns]
theorem lns_lo {ds : List Df} {F : Nat → Int} {p : Nat} (h : p < ds.length) : (lns ds F)[p]? = some (ed ds p) := by
  unfold lns
  rw [List.getElem?_append_left h, ed_get? h]
theorem lns_hi {ds : List Df} {F : Nat → Int} {p : Nat} (h : ds.length ≤ p) (h2 : p < (lns ds F).length) : (lns ds F)[p]? = some (rev (ed ds (jx ds F p))) ∧ jx ds F p < ds.length ∧ 0 < F (jx ds F p) ∧ (usedL F ds.length)[p - ds.length]? = some (jx ds F p : Int) := by
  rw [lns_length] at h2
  have hlt : p - ds.length < (usedL F ds.length).length := by omega
  obtain ⟨j, hj, hjk, hp⟩ := usedL_mem _ _ (List.getElem_mem hlt)
  have e : jx ds F p = j := by
    unfold jx
    rw [if_neg (by omega)]
    simp [hlt, hj]
  rw [e]
  refine ⟨?_, hjk, hp, by rw [List.getElem?_eq_getElem hlt, hj]⟩
  unfold lns
  rw [List.getElem?_append_right h, List.getElem?_map, List.getElem?_eq_getElem hlt, hj]
  simp
theorem lns_good {n : Nat} {ds : List Df} {F : Nat → Int} (hg : Good n ds) (hl : ds.length ≤ 2048) : Good n (lns ds F) := by
  have hul := usedL_length (F := F) ds.length
  have mem : ∀ d, d ∈ lns ds F → d ∈ ds ∨ ∃ d', d' ∈ ds ∧ d = rev d' := fun d hd => by
    unfold lns at hd
    rcases List.mem_append.1 hd with h | h
    · exact .inl h
    · obtain ⟨k, hk, rfl⟩ := List.mem_map.1 h
      obtain ⟨j, rfl, hj, _⟩ := usedL_mem _ _ hk
      exact .inr ⟨_, ed_mem hj, rfl⟩
  refine ⟨hg.pos, hg.small, by rw [lns_length]; omega, ⟨fun d hd => ?_, fun d hd => ?_, fun d hd => ?_, fun d hd => ?_⟩, fun d hd => ?_⟩ <;> rcases mem d hd with h | ⟨d', h, rfl⟩
  · exact hg.fit.ge1 d h
  · exact hg.fit.ge d' h
  · exact hg.fit.ge d h
  · exact hg.fit.ge1 d' h
  · exact hg.fit.fr d h
  · exact hg.fit.to d' h
  · exact hg.fit.to d h
  · exact hg.fit.fr d' h
  · exact hg.w d h
  · have := hg.w d' h; simp only [rev]; omega
theorem calm_lns {ds : List Df} {F x : Nat → Int} (h1 : Feas ds x) (h2 : Tight ds F x) : Calm (lns ds F) (fun _ => True) x := fun d hd _ => by
  refine ⟨trivial, ?_⟩
  unfold lns at hd
  rcases List.mem_append.1 hd with h | h
  · obtain ⟨k, hk, rfl⟩ := List.mem_iff_getElem.1 h
    rw [ed_get hk]; exact h1 k hk
  · obtain ⟨k, hk, rfl⟩ := List.mem_map.1 h
    obtain ⟨j, rfl, hj, hp⟩ := usedL_mem _ _ hk
    have := h2 j hj hp
    rw [Int.toNat_natCast]
    have e1 : fr (rev (ed ds j)) = to (ed ds j) := rfl
    have e2 : to (rev (ed ds j)) = fr (ed ds j) := rfl
    show x (fr (ed ds j)) ≤ x (to (ed ds j)) + -(ed ds j).2.2
    omega
theorem lns_calm {ds : List Df} {F x : Nat → Int} (h : Calm (lns ds F) (fun _ => True) x) : Feas ds x ∧ Tight ds F x := by
  constructor
  · intro k hk
    exact (h (ed ds k) (List.mem_append_left _ (ed_mem hk)) trivial).2
  · intro k hk hp
    have : rev (ed ds k) ∈ lns ds F := List.mem_append_right _ (List.mem_map.2 ⟨(k : Int), usedL_in hp _ hk, by simp⟩)
    have := (h _ this trivial).2
    have e : x (fr (ed ds k)) ≤ x (to (ed ds k)) + -(ed ds k).2.2 := this
    omega
theorem bounded (f : Nat → Int) : ∀ n : Nat, ∃ A, ∀ i, i < n → f i ≤ A
  | 0 => ⟨0, fun i h => by omega⟩
  | n + 1 => by
    obtain ⟨A, h⟩ := bounded f n
    refine ⟨max A (f n), fun i hi => ?_⟩
    by_cases e : i = n
    · subst e; omega
    · have := h i (by omega); omega
/-- Labels, as part of numbers that fulfil all. -/
theorem extend {n : Nat} {ls : List Df} (hg : Good n ls) {x long : Nat → Int} {has : Nat → Bool} (hx : Calm ls (fun _ => True) x) (hc : Calm ls (fun v => has v = true) long) : ∃ y, Calm ls (fun _ => True) y ∧ ∀ v, has v = true → y v = long v := by
  obtain ⟨A, hA⟩ := bounded long n
  obtain ⟨B, hB⟩ := bounded (fun v => - x v) n
  refine ⟨fun v => if has v then long v else (A + B + 1073741824) + x v, fun d hd _ => ⟨trivial, ?_⟩, fun v hv => by simp [hv]⟩
  have w := hg.w d hd
  have hu := hg.fit.fr d hd
  have hv := hg.fit.to d hd
  cases h1 : has (fr d) with
  | true =>
    obtain ⟨h2, h3⟩ := hc d hd h1
    simp only [h1, h2, if_true]; exact h3
  | false =>
    have h4 := (hx d hd trivial).2
    cases h2 : has (to d) with
    | true =>
      have := hA _ hv
      have := hB _ hu
      simp only [h1, h2, Bool.false_eq_true, if_false, if_true]
      omega
    | false => simp only [h1, h2, Bool.false_eq_true, if_false]; omega
/-- The way back from a node to one of those from which it began. -/
structure Way (n : Nat) (ls : List Df) (s : Gs) (S : Nat → Bool) (a q : Nat) : Prop where
  node : a < n
  lt : q < n
  stop : s.last (itp ls s q a) < 0
  root : S (itp ls s q a) = true
  zero : s.long (itp ls s q a) = 0
  has : ∀ t, t ≤ q → s.has (itp ls s t a) = true
  led : ∀ t, t < q → ∃ (j : Nat) (d : Df), s.last (itp ls s t a) = j ∧ ls[j]? = some d ∧ to d = itp ls s t a ∧ fr d = itp ls s (t + 1) a ∧ s.long (itp ls s t a) = s.long (itp ls s (t + 1) a) + d.2.2
theorem way_of {n : Nat} {ls : List Df} (hg : Good n ls) {S : Nat → Bool} {a : Nat} (hc : Calm ls (fun v => (lens n ls S).1.has v = true) (lens n ls S).1.long) (ha : a < n) (hh : (lens n ls S).1.has a = true) : ∃ q, Way n ls (lens n ls S).1 S a q := by
  obtain ⟨r, e⟩ := lens_iter (n := n) (ds := ls) (S := S)
  rw [e] at hc hh ⊢
  have hb := calm_no_loop hc (s := startL S) (fun _ => rfl) (fun v hv => (falls (ds := ls) (s := startL S) ⟨hv, Int.le_refl _⟩ r).1) hg.fit.fr ha r
  obtain ⟨q, q1, q2, q3⟩ := chain_stop n a hb
  have lead : ∀ v, ¬ (iter ls (startL S) r).last v < 0 → ∃ (j : Nat) (d : Df), (iter ls (startL S) r).last v = j ∧ ls[j]? = some d ∧ to d = v ∧ pre ls (iter ls (startL S) r) v = fr d ∧ (iter ls (startL S) r).has (fr d) = true ∧ (iter ls (startL S) r).long v = (iter ls (startL S) r).long (fr d) + d.2.2 := fun v hv => by
    obtain ⟨j, d, a1, a2, a3, a4, a5, _, a7⟩ := led_calm hc (v := v) (by omega)
    exact ⟨j, d, a1, a2, a3, a4, a5, a7⟩
  have has : ∀ t, t ≤ q → (iter ls (startL S) r).has (itp ls (iter ls (startL S) r) t a) = true := fun t ht => by
    cases t with
    | zero => exact hh
    | succ t =>
      obtain ⟨j, d, _, _, _, a4, a5, _⟩ := lead _ (q3 t (by omega))
      rw [itp_succ, a4]; exact a5
  have hlast : (iter ls (startL S) r).last (itp ls (iter ls (startL S) r) q a) = -1 := by
    rcases led_iter (ds := ls) (s := startL S) (fun _ => rfl) r (itp ls (iter ls (startL S) r) q a) with h | ⟨j, d, h, _⟩
    · exact h
    · omega
  have hroot := root_iter (ds := ls) (S := S) r _ hlast
  refine ⟨q, ha, q1, q2, hroot.2 (has q (Nat.le_refl _)), hroot.1, has, fun t ht => ?_⟩
  obtain ⟨j, d, a1, a2, a3, a4, _, a6⟩ := lead _ (q3 t ht)
  exact ⟨j, d, a1, a2, a3, by rw [itp_succ, a4], by rw [itp_succ, a4]; exact a6⟩
theorem Way.distinct {n : Nat} {ds : List Df} {s : Gs} {S : Nat → Bool} {a q : Nat} (h : Way n ds s S a q) {u v : Nat} (huv : u < v) (hv : v ≤ q) : itp ds s u a ≠ itp ds s v a := by
  intro e
  have e2 : itp ds s (u + (q - v)) a = itp ds s q a := by
    rw [show u + (q - v) = (q - v) + u by omega, itp_add, e, ← itp_add]
    congr 1; omega
  obtain ⟨j, d, h1, _⟩ := h.led (u + (q - v)) (by omega)
  have := h.stop
  rw [← e2] at this
  omega
theorem Way.itp_lt {n : Nat} {ls : List Df} {s : Gs} {S : Nat → Bool} {a q : Nat} (h : Way n ls s S a q) (hg : Good n ls) (t : Nat) (ht : t ≤ q) : itp ls s t a < n := by
  cases t with
  | zero => exact h.node
  | succ t =>
    obtain ⟨k, d, _, p2, _, p4, _⟩ := h.led t (by omega)
    rw [← p4]; exact hg.fit.fr d (List.mem_of_getElem? p2)
end Go.Proofs.Ytepnijjgdhldeaa
/- Uses of differences: one walk more. -/
namespace Go.Proofs.Ytepnijjgdhldeaa
open Go.Awp
set_option linter.unusedSimpArgs false
set_option linter.unusedVariables false
theorem innc_upd {ds : List Df} {F : Nat → Int} {j v : Nat} {y : Int} : ∀ c, innc ds (upd F j y) c v = innc ds F c v + (if j < c then (y - F j) * (dl (to (ed ds j)) v - dl (fr (ed ds j)) v) else 0)
  | 0 => by simp [innc, sumN]
  | c + 1 => by
    show innc ds (upd F j y) c v + upd F j y c * _ = innc ds F c v + F c * _ + _
    rw [innc_upd c]
    by_cases h : c = j
    · subst h
      rw [upd_eq, if_neg (by omega), if_pos (by omega), Int.sub_mul]; omega
    · rw [upd_ne h]
      by_cases h2 : j < c
      · rw [if_pos h2, if_pos (by omega)]; omega
      · rw [if_neg h2, if_neg (by omega)]; omega
theorem inn_upd {ds : List Df} {F : Nat → Int} {j v : Nat} {y : Int} (hj : j < ds.length) : inn ds (upd F j y) v = inn ds F v + (y - F j) * (dl (to (ed ds j)) v - dl (fr (ed ds j)) v) := by
  unfold inn; rw [innc_upd, if_pos hj]
def pth (ls : List Df) (s : Gs) (a t : Nat) : Nat := (s.last (itp ls s t a)).toNat
def augs (ds : List Df) (F : Nat → Int) (s : Gs) (a : Nat) (c : Int) : Nat → Nat → Int
  | 0 => F
  | t + 1 => upd (augs ds F s a c t) (jx ds F (pth (lns ds F) s a t)) (augs ds F s a c t (jx ds F (pth (lns ds F) s a t)) + if pth (lns ds F) s a t < ds.length then c else -c)
structure Hop (ds : List Df) (F : Nat → Int) (s : Gs) (a t : Nat) : Prop where
  last : s.last (itp (lns ds F) s t a) = pth (lns ds F) s a t
  lt : pth (lns ds F) s a t < (lns ds F).length
  jlt : jx ds F (pth (lns ds F) s a t) < ds.length
  row : (lns ds F)[pth (lns ds F) s a t]? = some (if pth (lns ds F) s a t < ds.length then ed ds (jx ds F (pth (lns ds F) s a t)) else rev (ed ds (jx ds F (pth (lns ds F) s a t))))
  frm : fr (if pth (lns ds F) s a t < ds.length then ed ds (jx ds F (pth (lns ds F) s a t)) else rev (ed ds (jx ds F (pth (lns ds F) s a t)))) = itp (lns ds F) s (t + 1) a
  cas : (pth (lns ds F) s a t < ds.length ∧ to (ed ds (jx ds F (pth (lns ds F) s a t))) = itp (lns ds F) s t a ∧ fr (ed ds (jx ds F (pth (lns ds F) s a t))) = itp (lns ds F) s (t + 1) a ∧ s.long (itp (lns ds F) s t a) = s.long (itp (lns ds F) s (t + 1) a) + (ed ds (jx ds F (pth (lns ds F) s a t))).2.2) ∨
    (¬ pth (lns ds F) s a t < ds.length ∧ fr (ed ds (jx ds F (pth (lns ds F) s a t))) = itp (lns ds F) s t a ∧ to (ed ds (jx ds F (pth (lns ds F) s a t))) = itp (lns ds F) s (t + 1) a ∧ 0 < F (jx ds F (pth (lns ds F) s a t)) ∧ (usedL F ds.length)[pth (lns ds F) s a t - ds.length]? = some (jx ds F (pth (lns ds F) s a t) : Int))
theorem Way.hop {n : Nat} {ds : List Df} {F : Nat → Int} {s : Gs} {S : Nat → Bool} {a q : Nat} (h : Way n (lns ds F) s S a q) {t : Nat} (ht : t < q) : Hop ds F s a t := by
  obtain ⟨p, d, h1, h2, h3, h4, h5⟩ := h.led t ht
  have hp : pth (lns ds F) s a t = p := by unfold pth; rw [h1]; rfl
  have hlt := (List.getElem?_eq_some_iff.1 h2).1
  by_cases hk : p < ds.length
  · have hj : jx ds F p = p := if_pos hk
    have e := lns_lo (F := F) hk
    rw [h2] at e
    obtain rfl : d = ed ds p := by cases e; rfl
    refine ⟨by rw [hp]; exact h1, by rw [hp]; exact hlt, by rw [hp, hj]; exact hk, by rw [hp, if_pos hk, hj]; exact h2, by rw [hp, if_pos hk, hj]; exact h4, .inl ?_⟩
    rw [hp, hj]; exact ⟨hk, h3, h4, h5⟩
  · obtain ⟨e, e2, e3, e4⟩ := lns_hi (F := F) (by omega : ds.length ≤ p) hlt
    rw [h2] at e
    obtain rfl : d = rev (ed ds (jx ds F p)) := by cases e; rfl
    refine ⟨by rw [hp]; exact h1, by rw [hp]; exact hlt, by rw [hp]; exact e2, by rw [hp, if_neg hk]; exact h2, by rw [hp, if_neg hk]; exact h4, .inr ?_⟩
    rw [hp]; exact ⟨hk, h3, h4, e3, e4⟩
section
variable {n : Nat} {ds : List Df} {F : Nat → Int} {s : Gs} {S : Nat → Bool} {a q : Nat} {c : Int}
theorem augs_inn (h : Way n (lns ds F) s S a q) (v : Nat) : ∀ t, t ≤ q → inn ds (augs ds F s a c t) v = inn ds F v + c * (dl a v - dl (itp (lns ds F) s t a) v)
  | 0, _ => by simp [augs, itp, Int.sub_self]
  | t + 1, ht => by
    have hp := h.hop (show t < q by omega)
    show inn ds (upd _ _ _) v = _
    rw [inn_upd hp.jlt, augs_inn h v t (by omega)]
    rcases hp.cas with ⟨k1, k2, k3, _⟩ | ⟨k1, k2, k3, _⟩
    · rw [if_pos k1, k2, k3, show ∀ z : Int, z + c - z = c by intro z; omega, Int.add_assoc, ← Int.mul_add]
      congr 2; omega
    · rw [if_neg k1, k2, k3, show ∀ z : Int, z + -c - z = -c by intro z; omega, Int.add_assoc, Int.neg_mul, ← Int.mul_neg, ← Int.mul_add]
      congr 2; omega
/-- Which differences the walk leads along, and which back. -/
def Ahead (ds : List Df) (F : Nat → Int) (s : Gs) (a u j : Nat) : Prop := pth (lns ds F) s a u < ds.length ∧ jx ds F (pth (lns ds F) s a u) = j
def Back (ds : List Df) (F : Nat → Int) (s : Gs) (a u j : Nat) : Prop := ¬ pth (lns ds F) s a u < ds.length ∧ jx ds F (pth (lns ds F) s a u) = j
theorem Way.one_ahead (h : Way n (lns ds F) s S a q) {u t j : Nat} (hu : u < t) (ht : t < q) (h1 : Ahead ds F s a u j) (h2 : Ahead ds F s a t j) : False := by
  have p1 := (h.hop (show u < q by omega)).cas
  have p2 := (h.hop ht).cas
  have := h.distinct hu (by omega : t ≤ q)
  rcases p1 with p1 | p1
  · rcases p2 with p2 | p2
    · rw [h1.2] at p1; rw [h2.2] at p2
      exact this (p1.2.1.symm.trans p2.2.1)
    · exact p2.1 h2.1
  · exact p1.1 h1.1
theorem Way.one_back (h : Way n (lns ds F) s S a q) {u t j : Nat} (hu : u < t) (ht : t < q) (h1 : Back ds F s a u j) (h2 : Back ds F s a t j) : False := by
  have p1 := (h.hop (show u < q by omega)).cas
  have p2 := (h.hop ht).cas
  have := h.distinct hu (by omega : t ≤ q)
  rcases p1 with p1 | p1
  · exact h1.1 p1.1
  · rcases p2 with p2 | p2
    · exact h2.1 p2.1
    · rw [h1.2] at p1; rw [h2.2] at p2
      exact this (p1.2.1.symm.trans p2.2.1)
theorem augs_bound (h : Way n (lns ds F) s S a q) (hc : 0 ≤ c) (j : Nat) : ∀ t, t ≤ q → ((∀ u, u < t → ¬ Back ds F s a u j) → F j ≤ augs ds F s a c t j) ∧ F j - c ≤ augs ds F s a c t j ∧ ((∀ u, u < t → ¬ Ahead ds F s a u j) → augs ds F s a c t j ≤ F j) ∧ augs ds F s a c t j ≤ F j + c
  | 0, _ => ⟨fun _ => Int.le_refl _, by simp only [augs]; omega, fun _ => Int.le_refl _, by simp only [augs]; omega⟩
  | t + 1, ht => by
    obtain ⟨i1, i2, i3, i4⟩ := augs_bound h hc j t (by omega)
    have hp := h.hop (show t < q by omega)
    by_cases e : j = jx ds F (pth (lns ds F) s a t)
    · have ev : augs ds F s a c (t + 1) j = augs ds F s a c t j + if pth (lns ds F) s a t < ds.length then c else -c := by
        show upd _ _ _ j = _
        rw [e, upd_eq]
      rw [ev]
      by_cases k : pth (lns ds F) s a t < ds.length
      · rw [if_pos k]
        have hA : Ahead ds F s a t j := ⟨k, e.symm⟩
        have no : ∀ u, u < t → ¬ Ahead ds F s a u j := fun u hu h1 => h.one_ahead hu (by omega) h1 hA
        have := i3 no
        exact ⟨fun hb => by have := i1 fun u hu => hb u (by omega); omega, by omega, fun hb => absurd hA (hb t (by omega)), by omega⟩
      · rw [if_neg k]
        have hB : Back ds F s a t j := ⟨k, e.symm⟩
        have no : ∀ u, u < t → ¬ Back ds F s a u j := fun u hu h1 => h.one_back hu (by omega) h1 hB
        have := i1 no
        exact ⟨fun hb => absurd hB (hb t (by omega)), by omega, fun hb => by have := i3 fun u hu => hb u (by omega); omega, by omega⟩
    · have ev : augs ds F s a c (t + 1) j = augs ds F s a c t j := by
        show upd _ _ _ j = _
        rw [upd_ne e]
      rw [ev]
      exact ⟨fun hb => i1 fun u hu => hb u (by omega), i2, fun hb => i3 fun u hu => hb u (by omega), i4⟩
theorem augs_pos (h : Way n (lns ds F) s S a q) (hc : 0 ≤ c) (hn : ∀ k, k < ds.length → 0 ≤ F k) (hm : ∀ u, u < q → ¬ pth (lns ds F) s a u < ds.length → c ≤ F (jx ds F (pth (lns ds F) s a u))) {j : Nat} (hj : j < ds.length) : 0 ≤ augs ds F s a c q j := by
  obtain ⟨i1, i2, _, _⟩ := augs_bound h hc j q (Nat.le_refl _)
  by_cases hb : ∀ u, u < q → ¬ Back ds F s a u j
  · have := i1 hb; have := hn j hj; omega
  · obtain ⟨u, hu⟩ := Classical.not_forall.1 hb
    obtain ⟨hu1, hu2⟩ := Classical.not_imp.1 hu
    have hu3 := Classical.not_not.1 hu2
    have := hm u hu1 hu3.1
    rw [hu3.2] at this; omega
theorem augs_tight (h : Way n (lns ds F) s S a q) (hc : 0 ≤ c) {y : Nat → Int} (hy : ∀ v, s.has v = true → y v = s.long v) (ht : Tight ds F y) : Tight ds (augs ds F s a c q) y := fun j hj hp => by
  obtain ⟨_, _, i3, _⟩ := augs_bound h hc j q (Nat.le_refl _)
  by_cases hF : 0 < F j
  · exact ht j hj hF
  · by_cases hb : ∀ u, u < q → ¬ Ahead ds F s a u j
    · have := i3 hb; omega
    · obtain ⟨u, hu⟩ := Classical.not_forall.1 hb
      obtain ⟨hu1, hu2⟩ := Classical.not_imp.1 hu
      obtain ⟨hu3, hu4⟩ := Classical.not_not.1 hu2
      rcases (h.hop hu1).cas with ⟨_, k2, k3, k4⟩ | k
      · rw [hu4] at k2 k3 k4
        have e1 := hy _ (h.has u (by omega))
        have e2 := hy _ (h.has (u + 1) (by omega))
        rw [k2, k3, e1, e2]; omega
      · exact absurd hu3 k.1
end
def absI (x : Int) : Int := if x < 0 then -x else x
def phi (n : Nat) (W : Nat → Int) : Int := sumN n fun v => if v = 0 then 0 else absI (W v)
theorem phi_upd {n : Nat} {W : Nat → Int} {a : Nat} {y : Int} (ha : a < n) (h0 : a ≠ 0) : phi n (upd W a y) = phi n W + (absI y - absI (W a)) := by
  have e : ∀ i, i < n → (if i = 0 then 0 else absI (upd W a y i)) = upd (fun v => if v = 0 then 0 else absI (W v)) a (absI y) i := fun i _ => by
    by_cases h : i = a
    · subst h; rw [upd_eq, upd_eq, if_neg h0]
    · rw [upd_ne h, upd_ne h]
  unfold phi
  rw [sumN_congr n e, sumN_upd, if_pos ha, if_neg h0]
theorem phi_nonneg {n : Nat} {W : Nat → Int} : 0 ≤ phi n W := by
  have := sumN_le (f := fun _ => 0) (g := fun v => if v = 0 then 0 else absI (W v)) n fun i _ => by
    simp only [absI]
    split
    · omega
    · split <;> omega
  rwa [sumN_zero n fun _ _ => rfl] at this
structure Inv (n : Nat) (ds : List Df) (w : Nat → Int) (T : Int) (F W : Nat → Int) : Prop where
  nonneg : ∀ k, k < ds.length → 0 ≤ F k
  bal : ∀ v, 0 < v → v < n → inn ds F v + W v = w v
  pot : ∃ x, Feas ds x ∧ Tight ds F x
  cap : ∀ k, k < ds.length → F k + phi n W ≤ T
/-- What is wanted, some of it brought from one node to another. -/
def shiftW (W : Nat → Int) (a r : Nat) (c : Int) : Nat → Int :=
  let W1 := if a = 0 then W else upd W a (W a - c)
  if r = 0 then W1 else upd W1 r (W1 r + c)
structure Much (W : Nat → Int) (a r : Nat) (c : Int) : Prop where
  pos : 0 < c
  ne : a ≠ r
  to : a ≠ 0 → c ≤ W a
  frm : r ≠ 0 → c ≤ - W r
  some : a ≠ 0 ∨ r ≠ 0
theorem shiftW_at {W : Nat → Int} {a r : Nat} {c : Int} (h : Much W a r c) {v : Nat} (hv : 0 < v) : shiftW W a r c v = W v - c * (dl a v - dl r v) := by
  have hne := h.ne
  unfold shiftW dl
  by_cases h1 : r = v
  · subst h1
    rw [if_neg (by omega : ¬ r = 0), if_neg hne, if_pos rfl, upd_eq]
    split <;> (try rw [upd_ne (Ne.symm hne)]) <;> simp <;> omega
  · by_cases h2 : a = v
    · subst h2
      rw [if_neg h1, if_pos rfl, if_neg (by omega : ¬ a = 0)]
      split <;> (try rw [upd_ne hne]) <;> rw [upd_eq] <;> simp
    · rw [if_neg h1, if_neg h2]
      have : (if a = 0 then W else upd W a (W a - c)) v = W v := by
        split
        · rfl
        · rw [upd_ne (Ne.symm h2)]
      split <;> (try rw [upd_ne (Ne.symm h1)]) <;> rw [this] <;> simp
theorem shiftW_phi {n : Nat} {W : Nat → Int} {a r : Nat} {c : Int} (h : Much W a r c) (ha : a < n) (hr : r < n) : phi n (shiftW W a r c) ≤ phi n W - c := by
  have hp := h.pos
  have hne := h.ne
  unfold shiftW
  by_cases h1 : a = 0
  · rw [if_pos h1]
    have h2 : r ≠ 0 := by omega
    rw [if_neg h2, phi_upd hr h2]
    have := h.frm h2
    simp only [absI]
    rw [if_pos (by omega : W r < 0)]
    split <;> omega
  · rw [if_neg h1]
    have k1 := h.to h1
    have e1 : phi n (upd W a (W a - c)) = phi n W - c := by
      rw [phi_upd ha h1]
      simp only [absI]
      rw [if_neg (by omega : ¬ W a < 0), if_neg (by omega : ¬ W a - c < 0)]; omega
    by_cases h2 : r = 0
    · rw [if_pos h2, e1]; omega
    · have k2 := h.frm h2
      rw [if_neg h2, phi_upd hr h2, e1, upd_ne (Ne.symm hne)]
      simp only [absI]
      rw [if_pos (by omega : W r < 0)]
      split <;> omega
theorem shiftW_signs {W : Nat → Int} {a r : Nat} {c : Int} (h : Much W a r c) {v : Nat} (hv : 0 < v) : (W v ≤ 0 → shiftW W a r c v ≤ 0) ∧ (W v = 0 → shiftW W a r c v = 0) := by
  rw [shiftW_at h hv]
  have hne := h.ne
  have hp := h.pos
  unfold dl
  by_cases h1 : r = v
  · subst h1
    have := h.frm (by omega)
    rw [if_neg hne, if_pos rfl]; omega
  · by_cases h2 : a = v
    · subst h2
      have := h.to (by omega)
      rw [if_neg h1, if_pos rfl]; omega
    · rw [if_neg h1, if_neg h2]; simp
theorem move {n : Nat} {ds : List Df} {w F W : Nat → Int} {T : Int} (hg : Good n ds) (hl : ds.length ≤ 2048) (inv : Inv n ds w T F W) {S : Nat → Bool} {a q : Nat}
    (hs : Calm (lns ds F) (fun v => (lens n (lns ds F) S).1.has v = true) (lens n (lns ds F) S).1.long) (hw : Way n (lns ds F) (lens n (lns ds F) S).1 S a q) {c : Int}
    (hm : Much W a (itp (lns ds F) (lens n (lns ds F) S).1 q a) c) (hb : ∀ u, u < q → ¬ pth (lns ds F) (lens n (lns ds F) S).1 a u < ds.length → c ≤ F (jx ds F (pth (lns ds F) (lens n (lns ds F) S).1 a u))) :
    Inv n ds w T (augs ds F (lens n (lns ds F) S).1 a c q) (shiftW W a (itp (lns ds F) (lens n (lns ds F) S).1 q a) c) := by
  have hp := hm.pos
  have hr : itp (lns ds F) (lens n (lns ds F) S).1 q a < n := hw.itp_lt (lns_good hg hl) q (Nat.le_refl _)
  refine ⟨fun k hk => augs_pos hw (by omega) inv.nonneg hb hk, fun v h0 hv => ?_, ?_, fun k hk => ?_⟩
  · rw [augs_inn hw v q (Nat.le_refl _), shiftW_at hm h0, ← inv.bal v h0 hv]; omega
  · obtain ⟨x, h1, h2⟩ := inv.pot
    obtain ⟨y, y1, y2⟩ := extend (lns_good hg hl) (calm_lns h1 h2) hs
    obtain ⟨y3, y4⟩ := lns_calm y1
    exact ⟨y, y3, augs_tight hw (by omega) y2 y4⟩
  · have h1 := (augs_bound hw (by omega : 0 ≤ c) k q (Nat.le_refl _)).2.2.2
    have h2 := shiftW_phi hm hw.node hr
    have h3 := inv.cap k hk
    omega
end Go.Proofs.Ytepnijjgdhldeaa
/- Uses of differences: where nothing more can be brought. -/
namespace Go.Proofs.Ytepnijjgdhldeaa
open Go.Awp
set_option linter.unusedSimpArgs false
set_option linter.unusedVariables false
theorem Inv.grown {n : Nat} {ds : List Df} {w F W : Nat → Int} {T : Int} (hg : Good n ds) (hl : ds.length ≤ 2048) (inv : Inv n ds w T F W) (S : Nat → Bool) : grown n (lns ds F) S = ((lens n (lns ds F) S).1, -1) ∧ Calm (lns ds F) (fun v => (lens n (lns ds F) S).1.has v = true) (lens n (lns ds F) S).1.long := by
  obtain ⟨x, h1, h2⟩ := inv.pot
  exact lens_grown (lns_good hg hl) (lens_calm (lns_good hg hl) (calm_lns h1 h2) fun _ _ => trivial)
theorem Inv.sol {n : Nat} {ds : List Df} {w F W : Nat → Int} {T : Int} (hg : Good n ds) (hl : ds.length ≤ 2048) (inv : Inv n ds w T F W) : Sol n (lns ds F) := by
  obtain ⟨x, h1, h2⟩ := inv.pot
  exact ⟨lns_good hg hl, lens_calm (lns_good hg hl) (calm_lns h1 h2) fun _ _ => trivial⟩
theorem Inv.dot_eq {n : Nat} {ds : List Df} {w F W y : Nat → Int} {T : Int} (hf : ∀ d, d ∈ ds → fr d < n ∧ to d < n) (inv : Inv n ds w T F W) (h0 : y 0 = 0) : dot n w y = (sumN ds.length fun k => F k * (y (to (ed ds k)) - y (fr (ed ds k)))) + dot n W y := by
  rw [← pair hf]
  unfold dot
  rw [← sumN_add]
  refine sumN_congr n fun v hv => ?_
  rcases Nat.eq_zero_or_pos v with e | e
  · subst e; rw [h0]; simp
  · rw [← inv.bal v e hv, Int.add_mul, Int.mul_comm (y v)]
theorem flat_zero {ds : List Df} {F y : Nat → Int} (hn : ∀ k, k < ds.length → 0 ≤ F k) (h : ∀ k, k < ds.length → 0 < F k → y (to (ed ds k)) = y (fr (ed ds k))) : (sumN ds.length fun k => F k * (y (to (ed ds k)) - y (fr (ed ds k)))) = 0 :=
  sumN_zero _ fun k hk => by
    rcases Int.lt_or_eq_of_le (hn k hk) with e | e
    · rw [h k hk e, Int.sub_self, Int.mul_zero]
    · rw [← e, Int.zero_mul]
theorem closed {ds : List Df} {F long : Nat → Int} {has : Nat → Bool} (hc : Calm (lns ds F) (fun v => has v = true) long) {k : Nat} (hk : k < ds.length) : (has (fr (ed ds k)) = true → has (to (ed ds k)) = true) ∧ (0 < F k → has (to (ed ds k)) = true → has (fr (ed ds k)) = true) := by
  refine ⟨fun h => (hc _ (List.mem_append_left _ (ed_mem hk)) h).1, fun hp h => ?_⟩
  have : rev (ed ds k) ∈ lns ds F := List.mem_append_right _ (List.mem_map.2 ⟨(k : Int), usedL_in hp _ hk, by simp⟩)
  exact (hc _ this h).1
theorem ray_up {n : Nat} {ds : List Df} {w F W : Nat → Int} {T : Int} (hg : Good n ds) (inv : Inv n ds w T F W) {has : Nat → Bool} {long : Nat → Int} (hc : Calm (lns ds F) (fun v => has v = true) long) {a : Nat} (ha : a < n) (h0 : has 0 = true) (hW : ∀ v, 0 < v → v < n → W v < 0 → has v = true) (hp : 0 < W a) (hno : has a = false) : ∃ y, Ray n ds w y := by
  obtain ⟨y, hy⟩ : ∃ y : Nat → Int, ∀ v, y v = if has v then 0 else 1 := ⟨_, fun _ => rfl⟩
  have hy0 : y 0 = 0 := by rw [hy, h0]; rfl
  refine ⟨y, hy0, fun k hk => ?_, ?_⟩
  · have h1 := (closed hc hk).1
    rw [hy, hy]
    cases e1 : has (fr (ed ds k)) with
    | true => rw [h1 e1]; exact Int.le_refl _
    | false => split <;> simp
  · rw [inv.dot_eq (fun d hd => ⟨hg.fit.fr d hd, hg.fit.to d hd⟩) hy0, flat_zero inv.nonneg fun k hk hpos => ?_, Int.zero_add]
    · refine sumN_pos n (fun v hv => ?_) ha (by rw [hy, hno]; simp [hp])
      rw [hy]
      cases e : has v with
      | true => simp
      | false =>
        simp only [Bool.false_eq_true, if_false, Int.mul_one]
        rcases Nat.eq_zero_or_pos v with e0 | e0
        · subst e0; rw [h0] at e; cases e
        · have := hW v e0 hv
          rcases Int.lt_or_le (W v) 0 with k | k
          · rw [this k] at e; cases e
          · exact k
    · obtain ⟨h1, h2⟩ := closed hc hk
      have : has (to (ed ds k)) = has (fr (ed ds k)) := by
        cases e1 : has (fr (ed ds k)) with
        | true => exact h1 e1
        | false =>
          cases e2 : has (to (ed ds k)) with
          | true => rw [h2 hpos e2] at e1; cases e1
          | false => rfl
      rw [hy, hy, this]
theorem ray_down {n : Nat} {ds : List Df} {w F W : Nat → Int} {T : Int} (hg : Good n ds) (inv : Inv n ds w T F W) {has : Nat → Bool} {long : Nat → Int} (hc : Calm (lns ds F) (fun v => has v = true) long) {a : Nat} (ha : a < n) (h0 : has 0 = false) (hW : ∀ v, 0 < v → v < n → W v ≤ 0) (hp : W a < 0) (hyes : has a = true) : ∃ y, Ray n ds w y := by
  obtain ⟨y, hy⟩ : ∃ y : Nat → Int, ∀ v, y v = if has v then -1 else 0 := ⟨_, fun _ => rfl⟩
  have hy0 : y 0 = 0 := by rw [hy, h0]; rfl
  refine ⟨y, hy0, fun k hk => ?_, ?_⟩
  · have h1 := (closed hc hk).1
    rw [hy, hy]
    cases e1 : has (fr (ed ds k)) with
    | true => rw [h1 e1]; exact Int.le_refl _
    | false => split <;> simp
  · rw [inv.dot_eq (fun d hd => ⟨hg.fit.fr d hd, hg.fit.to d hd⟩) hy0, flat_zero inv.nonneg fun k hk hpos => ?_, Int.zero_add]
    · refine sumN_pos n (fun v hv => ?_) ha (by rw [hy, hyes]; simp; omega)
      rw [hy]
      cases e : has v with
      | false => simp
      | true =>
        simp only [if_true]
        rcases Nat.eq_zero_or_pos v with e0 | e0
        · subst e0; rw [h0] at e; cases e
        · have := hW v e0 hv
          omega
    · obtain ⟨h1, h2⟩ := closed hc hk
      have : has (to (ed ds k)) = has (fr (ed ds k)) := by
        cases e1 : has (fr (ed ds k)) with
        | true => exact h1 e1
        | false =>
          cases e2 : has (to (ed ds k)) with
          | true => rw [h2 hpos e2] at e1; cases e1
          | false => rfl
      rw [hy, hy, this]
theorem Inv.opt {n : Nat} {ds : List Df} {w F W : Nat → Int} {T : Int} (inv : Inv n ds w T F W) (hz : ∀ v, 0 < v → v < n → W v = 0) : Opt n ds w F :=
  ⟨⟨inv.nonneg, fun v h0 hv => by have := inv.bal v h0 hv; rw [hz v h0 hv] at this; omega⟩, inv.pot⟩
theorem inn_zero {ds : List Df} {v : Nat} : inn ds (fun _ => 0) v = 0 := sumN_zero _ fun _ _ => Int.zero_mul _
theorem inv_start {n : Nat} {ds : List Df} {w : Nat → Int} (h : Sol n ds) : Inv n ds w (phi n w) (fun _ => 0) w :=
  ⟨fun _ _ => Int.le_refl _, fun v _ _ => by rw [inn_zero]; omega, ⟨_, fun k hk => h.calm_all _ (ed_mem hk), fun k _ hp => absurd hp (Int.lt_irrefl _)⟩, fun k _ => by omega⟩
end Go.Proofs.Ytepnijjgdhldeaa
