/- Plain facts about packs: what melts; what lies within what. -/
import Derived.Test.YtmcndbldbemebaaDoorQG4
set_option linter.unusedVariables false
set_option linter.unusedSimpArgs false
set_option linter.unusedSectionVars false
namespace Go.Proofs.YtmcndbldbemebaaDoor
open Go.Awp Go.Snow
set_option linter.unusedSimpArgs false
set_option linter.unusedVariables false
theorem one_cold {ls : List Lay} : cold (one ls).1 ≤ cold ls := by
  induction ls with
  | nil => simp [one, cold]
  | cons l r ih =>
    simp only [one]
    split
    · simp only [cold]; omega
    · split
      · simp only [cold]; omega
      · simp only [cold]; omega
theorem pour_cold : ∀ (n : Nat) {ls : List Lay}, cold (pour n ls).1 ≤ cold ls
  | 0, ls => by simp [pour]
  | n + 1, ls => by
    rw [pour_succ]
    have h1 := pour_cold n (ls := ls)
    have h2 := one_cold (ls := (pour n ls).1)
    simp only; omega
theorem lose_cold {K more : Int} {ls : List Lay} (h : Firm K ls) : cold (lose more ls).1 ≤ cold ls := by
  cases ls with
  | nil => simp [lose, cold]
  | cons l r =>
    have hl := h.1.head.1
    obtain ⟨a, b, c, d, e⟩ := hl
    simp only [lose]
    split
    · have := pour_cold (l.2.1 + more).toNat (ls := r)
      simp only [cold]; omega
    · have := pour_cold (l.2.1 + more - min (l.2.1 + more) ((l.1 - 1) / 20)).toNat (ls := r)
      simp only [cold]; omega
theorem melt1_cold {K : Int} {ls : List Lay} (h : Firm K ls) : cold (melt1 ls).1 ≤ cold ls := by
  cases ls with
  | nil => simp [melt1, cold]
  | cons l r =>
    simp only [melt1]
    split
    · simp only [cold]; omega
    · exact lose_cold h
theorem times_melt_cold {K : Int} : ∀ (n : Nat) {ls : List Lay}, Firm K ls → cold (times melt1 n ls).1 ≤ cold ls
  | 0, ls, h => by simp [times]
  | n + 1, ls, h => by
    have h1 := melt1_cold h
    have h2 := times_melt_cold n (melt1_good h)
    simp only [times]; omega
theorem firm_okP {K : Int} {ls : List Lay} (h : Firm K ls) (h1 : ls.length ≤ 64) (h2 : water ls ≤ 65536) (h3 : cold ls ≤ 65536) : okP ls = true := by
  refine full_okP ⟨⟨fun l hl => ?_, h2, h3⟩, fun l hl => ?_, h1⟩
  · obtain ⟨a, b, c, d, e⟩ := (h.1 l hl).1; omega
  · obtain ⟨a, b, c, d, e⟩ := (h.1 l hl).1
    have := h.2 l hl
    omega
theorem melt_okP {ls : List Lay} (h : okP ls = true) (n : Nat) : okP (times melt1 n ls).1 = true := by
  have hf := okP_good h
  obtain ⟨h1, -, h2, h3⟩ := okP_iff.1 h
  have w := times_melt_water n hf
  have c := times_melt_cold n hf
  have l := times_le n ls
  exact firm_okP (times_good (fun ls h => melt1_good h) hf n) (by omega) (by omega) (by omega)
theorem melt_mono {ls : List Lay} (h : okP ls = true) {a b : Nat} (hab : a ≤ b) : (times melt1 a ls).2 ≤ (times melt1 b ls).2 := by
  have hf := okP_good h
  rw [show b = a + (b - a) by omega, times_add]
  have := (times_melt_water (b - a) (times_good (f := melt1) (fun ls h => melt1_good h) hf a)).2
  simp only; omega
theorem search_spec {ls : List Lay} {out : Int} : ∀ (f n : Nat), (∀ m, m < n → (times melt1 m ls).2 < out) →
    (∃ k : Nat, search ls out f n = ((k : Int), true) ∧ k < n + f ∧ out ≤ (times melt1 k ls).2 ∧ ∀ m, m < k → (times melt1 m ls).2 < out) ∨ (search ls out f n = (0, false) ∧ ∀ m, m < n + f → (times melt1 m ls).2 < out)
  | 0, n, h => .inr ⟨rfl, by simpa using h⟩
  | f + 1, n, h => by
    simp only [search]
    split
    · rename_i h1
      exact .inl ⟨n, rfl, by omega, h1, h⟩
    · rename_i h1
      have := search_spec f (n + 1) (fun m hm => by
        rcases Nat.lt_or_ge m n with h2 | h2
        · exact h m h2
        · obtain rfl : m = n := by omega
          omega)
      rw [show n + 1 + f = n + (f + 1) by omega] at this
      exact this
theorem within_refl : ∀ (p : List Lay), Go.Proofs.YtmcndbldbemebaaDoor.within p p = true
  | [] => rfl
  | l :: r => by simp [Go.Proofs.YtmcndbldbemebaaDoor.within, leL, within_refl r]
theorem lessB_refl (p : List Lay) : lessB p p = true := by simp [lessB, within_refl]
theorem within_trans : ∀ {a b c : List Lay}, Go.Proofs.YtmcndbldbemebaaDoor.within a b = true → Go.Proofs.YtmcndbldbemebaaDoor.within b c = true → Go.Proofs.YtmcndbldbemebaaDoor.within a c = true
  | [], _, _, _, _ => rfl
  | x :: a, [], _, h, _ => by simp [Go.Proofs.YtmcndbldbemebaaDoor.within] at h
  | x :: a, y :: b, [], _, h => by simp [Go.Proofs.YtmcndbldbemebaaDoor.within] at h
  | x :: a, y :: b, z :: c, h1, h2 => by
    simp only [Go.Proofs.YtmcndbldbemebaaDoor.within, Bool.and_eq_true] at h1 h2 ⊢
    refine ⟨?_, within_trans h1.2 h2.2⟩
    have a1 := of_decide_eq_true h1.1
    have a2 := of_decide_eq_true h2.1
    exact decide_eq_true (by omega)
theorem within_drop : ∀ (k : Nat) {a b : List Lay}, Go.Proofs.YtmcndbldbemebaaDoor.within a b = true → Go.Proofs.YtmcndbldbemebaaDoor.within (a.drop k) (b.drop k) = true
  | 0, _, _, h => h
  | k + 1, [], b, h => by simp [Go.Proofs.YtmcndbldbemebaaDoor.within]
  | k + 1, x :: a, [], h => by simp [Go.Proofs.YtmcndbldbemebaaDoor.within] at h
  | k + 1, x :: a, y :: b, h => by
    simp only [Go.Proofs.YtmcndbldbemebaaDoor.within, Bool.and_eq_true] at h
    simpa using within_drop k h.2
theorem within_anti : ∀ {a b : List Lay}, Go.Proofs.YtmcndbldbemebaaDoor.within a b = true → Go.Proofs.YtmcndbldbemebaaDoor.within b a = true → a = b
  | [], [], _, _ => rfl
  | [], y :: b, _, h => by simp [Go.Proofs.YtmcndbldbemebaaDoor.within] at h
  | x :: a, [], h, _ => by simp [Go.Proofs.YtmcndbldbemebaaDoor.within] at h
  | x :: a, y :: b, h1, h2 => by
    simp only [Go.Proofs.YtmcndbldbemebaaDoor.within, Bool.and_eq_true] at h1 h2
    have a1 := of_decide_eq_true h1.1
    have a2 := of_decide_eq_true h2.1
    rw [within_anti h1.2 h2.2]
    obtain ⟨x1, x2, x3⟩ := x
    obtain ⟨y1, y2, y3⟩ := y
    simp only at a1 a2
    rw [show x1 = y1 by omega, show x2 = y2 by omega, show x3 = y3 by omega]
theorem lessB_iff {p q : List Lay} : lessB p q = true ↔ p.length ≤ q.length ∧ Go.Proofs.YtmcndbldbemebaaDoor.within p (q.drop (q.length - p.length)) = true := by simp [lessB]
theorem lessB_trans {p q r : List Lay} (h1 : lessB p q = true) (h2 : lessB q r = true) : lessB p r = true := by
  rw [lessB_iff] at h1 h2 ⊢
  refine ⟨by omega, within_trans h1.2 ?_⟩
  have := within_drop (q.length - p.length) h2.2
  rw [List.drop_drop] at this
  rwa [show r.length - q.length + (q.length - p.length) = r.length - p.length by omega] at this
theorem lessB_anti {p q : List Lay} : (lessB p q && lessB q p) = decide (p = q) := by
  cases h : (lessB p q && lessB q p) with
  | true =>
    rw [Bool.and_eq_true, lessB_iff, lessB_iff] at h
    obtain ⟨⟨a1, a2⟩, b1, b2⟩ := h
    rw [show q.length - p.length = 0 by omega, List.drop_zero] at a2
    rw [show p.length - q.length = 0 by omega, List.drop_zero] at b2
    rw [decide_eq_true (within_anti a2 b2)]
  | false =>
    symm
    rw [decide_eq_false_iff_not]
    rintro rfl
    rw [lessB_refl] at h
    cases h
theorem within_sums : ∀ {a b : List Lay}, a.length = b.length → Go.Proofs.YtmcndbldbemebaaDoor.within a b = true → water a ≤ water b ∧ cold a ≤ cold b
  | [], [], _, _ => by simp [water, cold]
  | [], y :: b, h, _ => by simp at h
  | x :: a, [], h, _ => by simp at h
  | x :: a, y :: b, h1, h2 => by
    simp only [Go.Proofs.YtmcndbldbemebaaDoor.within, Bool.and_eq_true] at h2
    have a1 := of_decide_eq_true h2.1
    have := within_sums (a := a) (b := b) (by simpa using h1) h2.2
    simp only [water, cold]; omega
theorem lessB_sums {p q : List Lay} (hq : okP q = true) (h : lessB p q = true) : water p ≤ water q ∧ cold p ≤ cold q := by
  rw [lessB_iff] at h
  have h1 := within_sums (by simp; omega) h.2
  have hm := (okP_mild hq).1
  have e := List.take_append_drop (q.length - p.length) q
  have n1 := water_nonneg (ls := q.take (q.length - p.length)) fun l hl => hm l (List.mem_of_mem_take hl)
  have w : water q = water (q.take (q.length - p.length)) + water (q.drop (q.length - p.length)) := by rw [← water_app, e]
  have c : cold q = cold (q.take (q.length - p.length)) + cold (q.drop (q.length - p.length)) := by rw [← cold_app, e]
  omega
theorem lessB_cons (l : Lay) (p : List Lay) : lessB p (l :: p) = true := by
  rw [lessB_iff]
  refine ⟨by simp, ?_⟩
  rw [show (l :: p).length - p.length = 1 by simp]
  exact within_refl p
end Go.Proofs.YtmcndbldbemebaaDoor
