/- Plain facts about packs: water is kept. -/
import Derived.Test.YtmcndbldbemebaaDoorQR7
import Derived.Test.YtmcndbldbemebaaDoorQC15
set_option linter.unusedVariables false
set_option linter.unusedSimpArgs false
set_option linter.unusedSectionVars false
namespace Go.Snow
set_option linter.unusedSimpArgs false
set_option linter.unusedVariables false
theorem melt1_water {K : Int} {ls : List Lay} (h : Firm K ls) : water (melt1 ls).1 + (melt1 ls).2 = water ls ∧ 0 ≤ (melt1 ls).2 := by
  cases ls with
  | nil => simp [melt1, water]
  | cons l r =>
    simp only [melt1]
    split
    · simp [water]
    · have := lose_water (more := 1) (by omega) h
      omega
theorem times_melt_water {K : Int} : ∀ (n : Nat) {ls : List Lay}, Firm K ls → water (times melt1 n ls).1 + (times melt1 n ls).2 = water ls ∧ 0 ≤ (times melt1 n ls).2
  | 0, ls, h => by simp [times]
  | n + 1, ls, h => by
    have h1 := melt1_water h
    have h2 := times_melt_water n (melt1_good h)
    simp only [times]; omega
theorem times_loss_water {K : Int} : ∀ (n : Nat) {ls : List Lay}, Firm K ls → water (times loss1 n ls).1 + (times loss1 n ls).2 + taken loss1 n ls = water ls ∧ 0 ≤ (times loss1 n ls).2 ∧ (taken loss1 n ls = n ∨ (0 ≤ taken loss1 n ls ∧ taken loss1 n ls < n ∧ (times loss1 n ls).1 = []))
  | 0, ls, h => by simp [times, taken]
  | n + 1, [], h => by
    have e := times_nil (f := loss1) rfl (n + 1)
    rw [e]
    simp only [water, taken]
    exact ⟨by omega, by omega, .inr ⟨by omega, by omega, trivial⟩⟩
  | n + 1, l :: r, h => by
    have h1 := lose_water (more := 0) (by omega) h
    obtain ⟨h2, h3, h4⟩ := times_loss_water n (loss1_good h)
    have e : lose 0 (l :: r) = loss1 (l :: r) := rfl
    rw [e] at h1
    simp only [times, taken]
    refine ⟨by omega, by omega, ?_⟩
    rcases h4 with h4 | ⟨h4, h5, h6⟩
    · exact .inl (by omega)
    · exact .inr ⟨by omega, by omega, h6⟩
theorem frz_water : ∀ (c : Int) (ls : List Lay), water (frz c ls).1 = water ls
  | c, [] => rfl
  | c, l :: r => by
    have := frz_water (c - min c l.2.1) r
    simp only [frz, water]; omega
theorem frost_water (c : Int) (ls : List Lay) : water (frost c ls) = water ls := by
  have := frz_water c ls
  unfold frost
  cases h : (frz c ls).1 with
  | nil => rw [h] at this; simpa [chill] using this
  | cons x r => rw [h] at this; simpa [chill, water] using this
theorem water_nonneg' {K : Int} : ∀ {ls : List Lay}, Firm K ls → 0 ≤ water ls
  | [], _ => by simp [water]
  | l :: r, h => by
    have := water_nonneg' h.tail
    have := h.1.head.1
    obtain ⟨a, b, c, d, e⟩ := this
    simp only [water]; omega
theorem doS_water {K k m c : Int} {p : List Lay} (h : Firm K p) (hs : 1 ≤ k ∧ k ≤ 6 ∧ 0 ≤ m) :
    0 ≤ (doS k m c p).2.1 ∧ (k = 1 → water (doS k m c p).1 = water p + m ∧ (doS k m c p).2.1 = 0) ∧ (k = 2 → water (doS k m c p).1 + (doS k m c p).2.1 = water p + m) ∧
      (k = 3 → water (doS k m c p).1 + (doS k m c p).2.1 = water p) ∧ (k = 4 → water (doS k m c p).1 = water p ∧ (doS k m c p).2.1 = 0) ∧
      (k = 5 ∨ k = 6 → water p - water (doS k m c p).1 - (doS k m c p).2.1 = m ∨ (0 ≤ water p - water (doS k m c p).1 - (doS k m c p).2.1 ∧ water p - water (doS k m c p).1 - (doS k m c p).2.1 < m ∧ (doS k m c p).1 = [])) := by
  obtain ⟨s1, s2, s3⟩ := hs
  have hm : ((m.toNat : Nat) : Int) = m := Int.toNat_of_nonneg s3
  have hk : k = 1 ∨ k = 2 ∨ k = 3 ∨ k = 4 ∨ k = 5 ∨ k = 6 := by omega
  rcases hk with rfl | rfl | rfl | rfl | rfl | rfl
  · simp only [doS, if_true]
    split
    · simp [water]; omega
    · simp; omega
  · have h1 := pour_water m.toNat p
    have h2 := pour_ran m.toNat p
    simp [doS]; omega
  · have h1 := times_melt_water m.toNat h
    simp [doS]; omega
  · have h1 := frost_water m p
    simp [doS, h1]
  all_goals
    obtain ⟨h1, h2, h3⟩ := times_loss_water m.toNat h
    rw [hm] at h3
    simp [doS]
    refine ⟨h2, ?_⟩
    rcases h3 with h3 | ⟨h3, h4, h5⟩
    · exact .inl (by omega)
    · exact .inr ⟨by omega, by omega, h5⟩
theorem applyV_fail {p : List Lay} {k m c : Int} (h : (applyV p k m c).2.2 ≠ 0) : (applyV p k m c).1 = [] ∧ (applyV p k m c).2.1 = 0 := by
  unfold applyV at h ⊢
  repeat' split at h
  all_goals simp_all
theorem applyV_ok {p : List Lay} {k m c : Int} (h : (applyV p k m c).2.2 = 0) : okP p = true ∧ okS k m c = true ∧ okP (doS k m c p).1 = true ∧ applyV p k m c = ((doS k m c p).1, (doS k m c p).2.1, 0) := by
  unfold applyV at h ⊢
  repeat' split at h
  all_goals simp_all
end Go.Snow
/- Plain facts about packs: steps in two parts. -/
namespace Go.Snow
set_option linter.unusedSimpArgs false
set_option linter.unusedVariables false
theorem frz_add : ∀ (a b : Int) (ls : List Lay), 0 ≤ a → 0 ≤ b → frz (a + b) ls = ((frz b (frz a ls).1).1, (frz a ls).2 + (frz b (frz a ls).1).2) ∧ 0 ≤ (frz a ls).2
  | a, b, [], ha, hb => ⟨rfl, ha⟩
  | a, b, l :: r, ha, hb => by
    obtain ⟨h1, h2⟩ := frz_add (a - min a l.2.1) (b - min b (l.2.1 - min a l.2.1)) r (by omega) (by omega)
    have e : a + b - min (a + b) l.2.1 = a - min a l.2.1 + (b - min b (l.2.1 - min a l.2.1)) := by omega
    have e2 : l.1 + min (a + b) l.2.1 = l.1 + min a l.2.1 + min b (l.2.1 - min a l.2.1) := by omega
    have e3 : l.2.1 - min (a + b) l.2.1 = l.2.1 - min a l.2.1 - min b (l.2.1 - min a l.2.1) := by omega
    simp only [frz]
    rw [e, h1, e2, e3]
    exact ⟨rfl, h2⟩
theorem frz_chill (c d : Int) (ls : List Lay) : frz c (chill d ls) = (chill d (frz c ls).1, (frz c ls).2) := by
  cases ls with
  | nil => rfl
  | cons l r => simp only [chill, frz]
theorem chill_chill (c d : Int) (ls : List Lay) : chill c (chill d ls) = chill (d + c) ls := by
  cases ls with
  | nil => rfl
  | cons l r => simp only [chill]; rw [Int.add_assoc]
theorem frost_add {a b : Int} (ls : List Lay) (ha : 0 ≤ a) (hb : 0 ≤ b) : frost (a + b) ls = frost b (frost a ls) := by
  have h := (frz_add a b ls ha hb).1
  unfold frost
  rw [h, frz_chill, chill_chill]
theorem doS_add {k a b : Int} (ls : List Lay) (hk : 2 ≤ k ∧ k ≤ 6) (ha : 0 ≤ a) (hb : 0 ≤ b) :
    (doS k (a + b) 0 ls).1 = (doS k b 0 (doS k a 0 ls).1).1 ∧ (doS k (a + b) 0 ls).2.1 = (doS k a 0 ls).2.1 + (doS k b 0 (doS k a 0 ls).1).2.1 := by
  have e : (a + b).toNat = a.toNat + b.toNat := by omega
  have hk : k = 2 ∨ k = 3 ∨ k = 4 ∨ k = 5 ∨ k = 6 := by omega
  rcases hk with rfl | rfl | rfl | rfl | rfl
  · simp only [doS, Int.reduceEq, if_true, if_false]; rw [e, pour_add]; exact ⟨rfl, rfl⟩
  · simp only [doS, Int.reduceEq, if_true, if_false]; rw [e, times_add]; exact ⟨rfl, rfl⟩
  · simp only [doS, Int.reduceEq, if_true, if_false]; rw [frost_add ls ha hb]; exact ⟨rfl, rfl⟩
  · simp only [doS, Int.reduceEq, if_true, if_false]; rw [e, times_add]; exact ⟨rfl, rfl⟩
  · simp only [doS, Int.reduceEq, if_true, if_false]; rw [e, times_add]; exact ⟨rfl, rfl⟩
end Go.Snow
/- Plain facts about packs: joining, running. -/
namespace Go.Proofs.YtmcndbldbemebaaDoor
open Go.Awp Go.Snow
set_option linter.unusedSimpArgs false
set_option linter.unusedVariables false
/-- A joined pack is a pack as well: what it is made of fits. -/
def Full (ls : List Lay) : Prop := Mild ls ∧ (∀ l, l ∈ ls → 1 ≤ l.1 ∧ l.2.1 ≤ l.1 / 20 ∧ (l.2.1 = 0 ∨ l.2.2 = 0)) ∧ ls.length ≤ 64
theorem okP_full {ls : List Lay} (h : okP ls = true) : Full ls := by
  obtain ⟨h1, h2, h3, h4⟩ := okP_iff.1 h
  exact ⟨okP_mild h, fun l hl => by have := right_iff.1 (h2 l hl); omega, h1⟩
theorem cold_in {ls : List Lay} (hm : Mild ls) {l : Lay} (hl : l ∈ ls) : l.1 + l.2.1 ≤ water ls ∧ l.2.2 ≤ cold ls := by
  obtain ⟨h, -, -⟩ := hm
  induction ls with
  | nil => cases hl
  | cons x r ih =>
    have n1 := water_nonneg (ls := r) fun y hy => h y (by simp [hy])
    have hx := h x (by simp)
    simp only [water, cold]
    rcases List.mem_cons.1 hl with rfl | hl
    · omega
    · have := ih hl (fun y hy => h y (by simp [hy]))
      omega
theorem full_okP {ls : List Lay} (h : Full ls) : okP ls = true := by
  obtain ⟨hm, h2, h3⟩ := h
  refine okP_iff.2 ⟨h3, fun l hl => right_iff.2 ?_, hm.2.1, hm.2.2⟩
  have a := cold_in hm hl
  have b := hm.1 l hl
  have c := h2 l hl
  have := hm.2
  omega
theorem full_jstep {ls : List Lay} (h : Full ls) (h2 : 2 ≤ ls.length) : Full (jstep ls) := by
  obtain ⟨hm, hr, hl⟩ := h
  refine ⟨(hm.jstep h2).1, ?_, by rw [jstep_length h2]; omega⟩
  obtain ⟨a, h1, -, p2, p3, e⟩ := jstep_eq h2
  rw [e]
  intro l hl
  rcases List.mem_append.1 hl with hl | hl
  · exact hr l (List.mem_of_mem_take hl)
  · rcases List.mem_cons.1 hl with rfl | hl
    · have ha := hr ls[a] (List.getElem_mem p2)
      have hb := hr ls[a + 1] (List.getElem_mem p3)
      have ha2 := hm.1 ls[a] (List.getElem_mem p2)
      have hb2 := hm.1 ls[a + 1] (List.getElem_mem p3)
      simp only [join, dry, join0]
      omega
    · exact hr l (List.mem_of_mem_drop hl)
/-- Cold less liquid water. -/
def bal : List Lay → Int
  | [] => 0
  | l :: r => l.2.2 - l.2.1 + bal r
theorem bal_app (a b : List Lay) : bal (a ++ b) = bal a + bal b := by
  induction a with
  | nil => simp [bal]
  | cons x r ih => simp only [List.cons_append, bal, ih]; omega
theorem bal_take {ls : List Lay} {k : Nat} (h : k < ls.length) : bal (ls.take (k + 1)) = bal (ls.take k) + (ls[k].2.2 - ls[k].2.1) := by
  rw [List.take_succ_eq_append_getElem h, bal_app]; simp [bal]
theorem bal_jstep {ls : List Lay} (h2 : 2 ≤ ls.length) : bal (jstep ls) = bal ls := by
  obtain ⟨a, h1, -, p2, p3, e⟩ := jstep_eq h2
  have e0 := split_two h1
  rw [e]
  conv => rhs; rw [e0]
  rw [bal_app, bal_app]
  simp only [bal, join, dry, join0]; omega
theorem jnF_full : ∀ (f : Nat) {ls : List Lay}, Full ls → f + 1 ≤ ls.length ∨ f = 0 → Full (jnF f ls) ∧ (jnF f ls).length = ls.length - f ∧ water (jnF f ls) = water ls ∧ bal (jnF f ls) = bal ls
  | 0, ls, h, _ => ⟨h, rfl, rfl, rfl⟩
  | f + 1, ls, h, hf => by
    have h2 : 2 ≤ ls.length := by omega
    have hl := jstep_length h2
    obtain ⟨a, b, c, d⟩ := jnF_full f (full_jstep h h2) (by omega)
    simp only [jnF]
    exact ⟨a, by omega, by rw [c]; exact (h.1.jstep h2).2, by rw [d]; exact bal_jstep h2⟩
theorem jnF_add : ∀ (a b : Nat) (ls : List Lay), jnF (a + b) ls = jnF b (jnF a ls)
  | 0, b, ls => by simp [jnF]
  | a + 1, b, ls => by
    rw [Nat.add_right_comm]
    simp only [jnF]
    exact jnF_add a b (jstep ls)
theorem runGo_app (os : List Int) : ∀ (a b : List Lay) (ls : List Lay) (os1 os2 : List Int), (runGo ls os1 a).2.2 = 0 →
    runGo ls os1 (a ++ b) = runGo (runGo ls os1 a).1 (runGo ls os1 a).2.1 b
  | [], b, ls, os1, os2, h => rfl
  | s :: a, b, ls, os1, os2, h => by
    simp only [runGo, List.cons_append] at h ⊢
    split
    · rename_i h1
      rw [if_pos h1] at h
      exact runGo_app os a b _ _ os2 h
    · rename_i h1
      rw [if_neg h1] at h
      exact absurd h h1
theorem runGo_err : ∀ (a b : List Lay) (ls : List Lay) (os1 : List Int), (runGo ls os1 a).2.2 ≠ 0 → runGo ls os1 (a ++ b) = runGo ls os1 a ∧ runGo ls os1 a = ([], [], (runGo ls os1 a).2.2)
  | [], b, ls, os1, h => absurd rfl h
  | s :: a, b, ls, os1, h => by
    simp only [runGo, List.cons_append] at h ⊢
    split
    · rename_i h1
      rw [if_pos h1] at h
      exact runGo_err a b _ _ h
    · exact ⟨rfl, rfl⟩
/-- What has run out before stays ahead. -/
theorem runGo_pre : ∀ (b : List Lay) (ls : List Lay) (os : List Int), (runGo ls os b).1 = (runGo ls [] b).1 ∧ (runGo ls os b).2.2 = (runGo ls [] b).2.2 ∧ ((runGo ls [] b).2.2 = 0 → (runGo ls os b).2.1 = os ++ (runGo ls [] b).2.1)
  | [], ls, os => ⟨rfl, rfl, fun _ => by simp [runGo]⟩
  | s :: b, ls, os => by
    simp only [runGo]
    split
    · obtain ⟨a1, a2, a3⟩ := runGo_pre b (applyV ls s.1 s.2.1 s.2.2).1 (os ++ [(applyV ls s.1 s.2.1 s.2.2).2.1])
      obtain ⟨b1, b2, b3⟩ := runGo_pre b (applyV ls s.1 s.2.1 s.2.2).1 ([] ++ [(applyV ls s.1 s.2.1 s.2.2).2.1])
      refine ⟨by rw [a1, b1], by rw [a2, b2], fun h => ?_⟩
      rw [b2] at h
      rw [a3 h, b3 h]; simp
    · exact ⟨rfl, rfl, fun h => by rename_i h1; exact absurd h h1⟩
theorem runGo_ok : ∀ (b : List Lay) (ls : List Lay) (os : List Int), okP ls = true → (runGo ls os b).2.2 = 0 → okP (runGo ls os b).1 = true
  | [], ls, os, h, _ => h
  | s :: b, ls, os, h, h2 => by
    simp only [runGo] at h2 ⊢
    split
    · rename_i h1
      rw [if_pos h1] at h2
      obtain ⟨-, -, o3, o4⟩ := applyV_ok h1
      exact runGo_ok b _ _ (by rw [o4]; exact o3) h2
    · rename_i h1
      rw [if_neg h1] at h2
      exact absurd h2 h1
end Go.Proofs.YtmcndbldbemebaaDoor
