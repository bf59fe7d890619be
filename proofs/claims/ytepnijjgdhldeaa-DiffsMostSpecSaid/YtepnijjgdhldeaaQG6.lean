/- Rounds among the differences that last led to nodes: they are of negative length. -/
import Derived.Test.YtepnijjgdhldeaaQG5
namespace Go.Proofs.Ytepnijjgdhldeaa
set_option linter.unusedSimpArgs false
set_option linter.unusedVariables false
def itp (ds : List Df) (s : Gs) : Nat → Nat → Nat
  | 0, v => v
  | i + 1, v => itp ds s i (pre ds s v)
theorem itp_succ {ds : List Df} {s : Gs} : ∀ (i v : Nat), itp ds s (i + 1) v = pre ds s (itp ds s i v)
  | 0, v => rfl
  | i + 1, v => itp_succ i (pre ds s v)
theorem itp_add {ds : List Df} {s : Gs} : ∀ (i j v : Nat), itp ds s (i + j) v = itp ds s i (itp ds s j v)
  | i, 0, v => rfl
  | i, j + 1, v => by
    rw [show i + (j + 1) = (i + j) + 1 by omega]
    show itp ds s (i + j) (pre ds s v) = itp ds s i (itp ds s j (pre ds s v))
    exact itp_add i j _
def InvS (ds : List Df) (s : Gs) (T : Nat → Nat) : Prop := ∀ v (j : Nat) (d : Df), 0 < T v → s.last v = j → ds[j]? = some d → T v ≤ T (fr d) → s.long (fr d) + d.2.2 < s.long v
theorem InvS.step {ds : List Df} {s : Gs} {T : Nat → Nat} {r k : Nat} {d : Df} (hd : ds[k]? = some d) (h : InvT ds s T r k) (hS : InvS ds s T) :
    InvS ds (if better s d then gstep s k d else s) (if better s d then upd T (to d) (r * ds.length + k + 1) else T) := by
  by_cases hb : better s d = true
  · rw [if_pos hb, if_pos hb]
    obtain ⟨b1, b2⟩ := better_iff.1 hb
    intro v j d' hv hj hjd hT
    by_cases e : v = to d
    · subst e
      simp only [gstep, upd_eq] at hj
      have : j = k := by omega
      subst this
      rw [hd] at hjd; cases hjd
      rw [upd_eq] at hT
      by_cases e : fr d = to d
      · have := b2 (e ▸ b1)
        simp only [gstep, e, upd_eq]
        rw [e] at this; omega
      · rw [upd_ne e] at hT
        have := h.le (fr d); omega
    · rw [upd_ne e] at hv hT
      simp only [gstep, upd_ne e] at hj
      obtain ⟨j', d'', p1, p2, p3, p4, p5, p6, p7⟩ := h.pos v hv
      have : j' = j := by omega
      subst this
      rw [hjd] at p2; cases p2
      by_cases e' : fr d' = to d
      · rw [e'] at p4 p6
        have := b2 p4
        simp only [gstep, upd_ne e, e', upd_eq]; omega
      · rw [upd_ne e'] at hT
        simp only [gstep, upd_ne e, upd_ne e']
        exact hS v j' d' hv hj hjd hT
  · rw [if_neg hb, if_neg hb]; exact hS
theorem InvS.part {ds : List Df} {s : Gs} {T : Nat → Nat} {r : Nat} (h : InvT ds s T r 0) (hS : InvS ds s T) : ∀ k, k ≤ ds.length → InvS ds (part ds s k).1 (partT ds s T (r * ds.length) k)
  | 0, _ => hS
  | k + 1, hk => by
    have ih := InvS.part h hS k (by omega)
    have hd : ds[k]? = some ds[k] := List.getElem?_eq_getElem (by omega)
    have := ih.step hd (h.part k (by omega))
    rw [part_succ hd, partT_succ hd]
    split <;> rename_i hb <;> simpa only [hb, if_true, if_false, Bool.false_eq_true] using this
theorem InvS.iter {ds : List Df} {s : Gs} (hl : ∀ v, s.last v = -1) : ∀ r, InvS ds (iter ds s r) (iterT ds s r)
  | 0 => fun v j d h => by simp [iterT] at h
  | r + 1 => (InvS.iter hl r).part (InvT.iter hl r) _ (Nat.le_refl _)
def wt (ds : List Df) (s : Gs) (v : Nat) : Int := match ds[(s.last v).toNat]? with | some d => d.2.2 | none => 0
def sumw (ds : List Df) (s : Gs) : Nat → Nat → Int
  | 0, _ => 0
  | i + 1, a => wt ds s a + sumw ds s i (pre ds s a)
/-- Where growing finds a round: its first way back. -/
structure Round (n : Nat) (ds : List Df) (s : Gs) (a p : Nat) : Prop where
  node : a < n
  pos : 0 < p
  le : p ≤ n
  back : itp ds s p a = a
  first : ∀ t, 0 < t → t < p → itp ds s t a ≠ a
  led : ∀ t, t < p → ∃ (j : Nat) (d : Df), s.last (itp ds s t a) = j ∧ ds[j]? = some d ∧ to d = itp ds s t a ∧ fr d = itp ds s (t + 1) a
  neg : sumw ds s p a < 0
theorem Round.distinct {n : Nat} {ds : List Df} {s : Gs} {a p : Nat} (h : Round n ds s a p) {i j : Nat} (hi : 0 < i) (hij : i < j) (hj : j ≤ p) : itp ds s i a ≠ itp ds s j a := by
  intro e
  have : itp ds s (i + (p - j)) a = a := by
    rw [show i + (p - j) = (p - j) + i by omega, itp_add, e, ← itp_add, show p - j + j = p by omega]
    exact h.back
  exact h.first _ (by omega) (by omega) this
end Go.Proofs.Ytepnijjgdhldeaa
