/- Rounds among the differences that last led to nodes: they are of negative length. -/
import Derived.Test.YtepnijjgdhldeaaQG5
namespace Go.Proofs.Ytepnijjgdhldeaa
set_option linter.unusedSimpArgs false
set_option linter.unusedVariables false
def itp (ds : List Df) (s : Gs) : Nat → Nat → Nat
  | 0, v => v
  | i + 1, v => itp ds s i (pre ds s v)
theorem itp_succ {ds : List Df} {s : Gs} : ∀ (i v : Nat), itp ds s (i + 1) v = pre ds s (itp ds s i v)
  | 0, v => rfl
  | i + 1, v => itp_succ i (pre ds s v)
theorem itp_add {ds : List Df} {s : Gs} : ∀ (i j v : Nat), itp ds s (i + j) v = itp ds s i (itp ds s j v)
  | i, 0, v => rfl
  | i, j + 1, v => by
    rw [show i + (j + 1) = (i + j) + 1 by omega]
    show itp ds s (i + j) (pre ds s v) = itp ds s i (itp ds s j (pre ds s v))
    exact itp_add i j _
theorem bk_itp {ds : List Df} {s : Gs} : ∀ (i a : Nat), 0 ≤ bk ds s i a → bk ds s i a = itp ds s i a ∧ ∀ t, t < i → ¬ s.last (itp ds s t a) < 0
  | 0, a, _ => ⟨rfl, fun t h => by omega⟩
  | i + 1, a, h => by
    have e : bk ds s (i + 1) a = if s.last a < 0 then -1 else bk ds s i (pre ds s a) := rfl
    rw [e] at h ⊢
    split at h
    · omega
    · rename_i hl
      rw [if_neg hl]
      obtain ⟨h1, h2⟩ := bk_itp i (pre ds s a) h
      refine ⟨h1, fun t ht => ?_⟩
      cases t with
      | zero => exact hl
      | succ t => exact h2 t (by omega)
def InvS (ds : List Df) (s : Gs) (T : Nat → Nat) : Prop := ∀ v (j : Nat) (d : Df), 0 < T v → s.last v = j → ds[j]? = some d → T v ≤ T (fr d) → s.long (fr d) + d.2.2 < s.long v
theorem InvS.step {ds : List Df} {s : Gs} {T : Nat → Nat} {r k : Nat} {d : Df} (hd : ds[k]? = some d) (h : InvT ds s T r k) (hS : InvS ds s T) :
    InvS ds (if better s d then gstep s k d else s) (if better s d then upd T (to d) (r * ds.length + k + 1) else T) := by
  by_cases hb : better s d = true
  · rw [if_pos hb, if_pos hb]
    obtain ⟨b1, b2⟩ := better_iff.1 hb
    intro v j d' hv hj hjd hT
    by_cases e : v = to d
    · subst e
      simp only [gstep, upd_eq] at hj
      have : j = k := by omega
      subst this
      rw [hd] at hjd; cases hjd
      rw [upd_eq] at hT
      by_cases e : fr d = to d
      · have := b2 (e ▸ b1)
        simp only [gstep, e, upd_eq]
        rw [e] at this; omega
      · rw [upd_ne e] at hT
        have := h.le (fr d); omega
    · rw [upd_ne e] at hv hT
      simp only [gstep, upd_ne e] at hj
      obtain ⟨j', d'', p1, p2, p3, p4, p5, p6, p7⟩ := h.pos v hv
      have : j' = j := by omega
      subst this
      rw [hjd] at p2; cases p2
      by_cases e' : fr d' = to d
      · rw [e'] at p4 p6
        have := b2 p4
        simp only [gstep, upd_ne e, e', upd_eq]; omega
      · rw [upd_ne e'] at hT
        simp only [gstep, upd_ne e, upd_ne e']
        exact hS v j' d' hv hj hjd hT
  · rw [if_neg hb, if_neg hb]; exact hS
theorem InvS.part {ds : List Df} {s : Gs} {T : Nat → Nat} {r : Nat} (h : InvT ds s T r 0) (hS : InvS ds s T) : ∀ k, k ≤ ds.length → InvS ds (part ds s k).1 (partT ds s T (r * ds.length) k)
  | 0, _ => hS
  | k + 1, hk => by
    have ih := InvS.part h hS k (by omega)
    have hd : ds[k]? = some ds[k] := List.getElem?_eq_getElem (by omega)
    have := ih.step hd (h.part k (by omega))
    rw [part_succ hd, partT_succ hd]
    split <;> rename_i hb <;> simpa only [hb, if_true, if_false, Bool.false_eq_true] using this
theorem InvS.iter {ds : List Df} {s : Gs} (hl : ∀ v, s.last v = -1) : ∀ r, InvS ds (iter ds s r) (iterT ds s r)
  | 0 => fun v j d h => by simp [iterT] at h
  | r + 1 => (InvS.iter hl r).part (InvT.iter hl r) _ (Nat.le_refl _)
def wt (ds : List Df) (s : Gs) (v : Nat) : Int := match ds[(s.last v).toNat]? with | some d => d.2.2 | none => 0
def sumw (ds : List Df) (s : Gs) : Nat → Nat → Int
  | 0, _ => 0
  | i + 1, a => wt ds s a + sumw ds s i (pre ds s a)
theorem sumw_le {ds : List Df} {s : Gs} {T : Nat → Nat} {r k : Nat} (h : InvT ds s T r k) (hS : InvS ds s T) : ∀ (p a : Nat), (∀ t, t < p → ¬ s.last (itp ds s t a) < 0) → sumw ds s p a ≤ s.long a - s.long (itp ds s p a) ∧ (sumw ds s p a < s.long a - s.long (itp ds s p a) ∨ T (itp ds s p a) < T a ∨ p = 0)
  | 0, a, _ => ⟨by simp [sumw, itp], .inr (.inr rfl)⟩
  | p + 1, a, hl => by
    have hla := hl 0 (by omega)
    have hT : 0 < T a := by
      rcases Nat.eq_zero_or_pos (T a) with e | e
      · have := h.zero a e
        have : s.last (itp ds s 0 a) = -1 := this
        omega
      · exact e
    obtain ⟨j, d, p1, p2, p3, p4, p5, p6, p7⟩ := h.pos a hT
    have hp : pre ds s a = fr d := by unfold pre; rw [p1]; simp only [Int.toNat_natCast, p2]
    have hw : wt ds s a = d.2.2 := by unfold wt; rw [p1]; simp only [Int.toNat_natCast, p2]
    have e1 : sumw ds s (p + 1) a = d.2.2 + sumw ds s p (fr d) := by show wt ds s a + sumw ds s p (pre ds s a) = _; rw [hw, hp]
    have e2 : itp ds s (p + 1) a = itp ds s p (fr d) := by show itp ds s p (pre ds s a) = _; rw [hp]
    rw [e1, e2]
    obtain ⟨i1, i2⟩ := sumw_le h hS p (fr d) fun t ht => by
      have := hl (t + 1) (by omega)
      rw [show itp ds s (t + 1) a = itp ds s t (pre ds s a) from rfl, hp] at this
      exact this
    refine ⟨by omega, ?_⟩
    by_cases hc : T a ≤ T (fr d)
    · left; have := hS a j d hT p1 p2 hc; omega
    · rcases i2 with i2 | i2 | i2
      · left; omega
      · right; left; omega
      · subst i2
        right; left
        show T (fr d) < T a
        omega
theorem round_neg {ds : List Df} {s : Gs} {T : Nat → Nat} {r k : Nat} (h : InvT ds s T r k) (hS : InvS ds s T) {p a : Nat} (hp : 0 < p) (hc : itp ds s p a = a) (hl : ∀ t, t < p → ¬ s.last (itp ds s t a) < 0) : sumw ds s p a < 0 := by
  obtain ⟨h1, h2⟩ := sumw_le h hS p a hl
  rw [hc] at h1 h2
  rcases h2 with h2 | h2 | h2 <;> omega
theorem pigeon (n : Nat) (f : Nat → Nat) (hf : ∀ i, i ≤ n → f i < n) : ∃ i j, i < j ∧ j ≤ n ∧ f i = f j := by
  by_cases hex : ∃ i j, i < j ∧ j ≤ n ∧ f i = f j
  · exact hex
  · exfalso
    have hnd : ((List.range (n + 1)).map f).Nodup := by
      rw [List.Nodup, List.pairwise_map]
      refine List.Pairwise.imp_of_mem ?_ (List.pairwise_lt_range (n := n + 1))
      intro i j hi hj hij e
      exact hex ⟨i, j, hij, by have := List.mem_range.1 hj; omega, e⟩
    have := nodup_lt n _ hnd fun x hx => by
      obtain ⟨i, hi, rfl⟩ := List.mem_map.1 hx
      exact hf i (by have := List.mem_range.1 hi; omega)
    simp at this
    omega
/-- The first time that the way back comes back. -/
theorem first_back {f : Nat → Nat} {a : Nat} (p : Nat) (hp : 0 < p) (he : f p = a) : ∃ q, 0 < q ∧ q ≤ p ∧ f q = a ∧ ∀ u, 0 < u → u < q → f u ≠ a := by
  induction p using Nat.strongRecOn with
  | ind t ih =>
    by_cases hex : ∃ u, 0 < u ∧ u < t ∧ f u = a
    · obtain ⟨u, u1, u2, u3⟩ := hex
      obtain ⟨q, q1, q2, q3, q4⟩ := ih u u2 u1 u3
      exact ⟨q, q1, by omega, q3, q4⟩
    · exact ⟨t, hp, Nat.le_refl _, he, fun u h1 h2 h3 => hex ⟨u, h1, h2, h3⟩⟩
/-- Where growing finds a round: its first way back. -/
structure Round (n : Nat) (ds : List Df) (s : Gs) (a p : Nat) : Prop where
  node : a < n
  pos : 0 < p
  le : p ≤ n
  back : itp ds s p a = a
  first : ∀ t, 0 < t → t < p → itp ds s t a ≠ a
  led : ∀ t, t < p → ∃ (j : Nat) (d : Df), s.last (itp ds s t a) = j ∧ ds[j]? = some d ∧ to d = itp ds s t a ∧ fr d = itp ds s (t + 1) a
  neg : sumw ds s p a < 0
theorem round_of {n : Nat} {ds : List Df} (hg : Good n ds) {S : Nat → Bool} {q c : Nat} (hc : c < n) (h : 0 ≤ bk ds (iter ds (startL S) q) n c) : ∃ a p : Nat, bk ds (iter ds (startL S) q) n c = a ∧ Round n ds (iter ds (startL S) q) a p := by
  have hT := InvT.iter (ds := ds) (s := startL S) (fun _ => rfl) q
  have hS := InvS.iter (ds := ds) (s := startL S) (fun _ => rfl) q
  generalize iter ds (startL S) q = s at h hT hS ⊢
  generalize iterT ds (startL S) q = T at hT hS
  obtain ⟨e, hl⟩ := bk_itp n c h
  have lead : ∀ v, ¬ s.last v < 0 → ∃ (j : Nat) (d : Df), s.last v = j ∧ ds[j]? = some d ∧ to d = v ∧ fr d = pre ds s v := fun v hv => by
    have hTv : 0 < T v := by
      rcases Nat.eq_zero_or_pos (T v) with e | e
      · have := hT.zero v e; omega
      · exact e
    obtain ⟨j, d, p1, p2, p3, _⟩ := hT.pos v hTv
    exact ⟨j, d, p1, p2, p3, by unfold pre; rw [p1]; simp only [Int.toNat_natCast, p2]⟩
  have hn : ∀ t, t ≤ n → itp ds s t c < n := fun t ht => by
    cases t with
    | zero => exact hc
    | succ t =>
      obtain ⟨j, d, _, p2, _, p4⟩ := lead _ (hl t (by omega))
      rw [itp_succ, ← p4]
      exact hg.fit.fr d (List.mem_of_getElem? p2)
  obtain ⟨i, j, hij, hj, heq⟩ := pigeon n (fun t => itp ds s t c) hn
  -- the period
  have per : ∀ t, i ≤ t → itp ds s (t + (j - i)) c = itp ds s t c := fun t ht => by
    rw [show t + (j - i) = (t - i) + j by omega, itp_add, ← heq, ← itp_add]
    congr 1; omega
  have hback : itp ds s (j - i) (itp ds s n c) = itp ds s n c := by
    rw [← itp_add, Nat.add_comm]; exact per n (by omega)
  obtain ⟨p, p1, p2, p3, p4⟩ := first_back (f := fun t => itp ds s t (itp ds s n c)) (a := itp ds s n c) (j - i) (by omega) hback
  have hl' : ∀ t, t < j - i → ¬ s.last (itp ds s t (itp ds s n c)) < 0 := fun t ht => by
    have : itp ds s t (itp ds s n c) = itp ds s (n + t - (j - i)) c := by
      rw [← itp_add, ← per (n + t - (j - i)) (by omega)]
      congr 1; omega
    rw [this]
    exact hl _ (by omega)
  have hl2 : ∀ t, t < p → ¬ s.last (itp ds s t (itp ds s n c)) < 0 := fun t ht => hl' t (by omega)
  refine ⟨itp ds s n c, p, e, hn n (Nat.le_refl _), p1, by omega, p3, p4, fun t ht => ?_, round_neg hT hS p1 p3 hl2⟩
  obtain ⟨j, d, q1, q2, q3, q4⟩ := lead _ (hl2 t ht)
  exact ⟨j, d, q1, q2, q3, by rw [q4, itp_succ]⟩
theorem Round.distinct {n : Nat} {ds : List Df} {s : Gs} {a p : Nat} (h : Round n ds s a p) {i j : Nat} (hi : 0 < i) (hij : i < j) (hj : j ≤ p) : itp ds s i a ≠ itp ds s j a := by
  intro e
  have : itp ds s (i + (p - j)) a = a := by
    rw [show i + (p - j) = (p - j) + i by omega, itp_add, e, ← itp_add, show p - j + j = p by omega]
    exact h.back
  exact h.first _ (by omega) (by omega) this
/-- What grow answers that ends in a round. -/
theorem grown_round {n : Nat} {ds : List Df} (hg : Good n ds) {S : Nat → Bool} (h : 0 ≤ (grown n ds S).2) : ∃ a p : Nat, (grown n ds S).2 = (a : Int) ∧ Round n ds (grown n ds S).1 a p := by
  have hb : (lens n ds S).2 = false := by
    cases hl : (lens n ds S).2 with
    | false => rfl
    | true => rw [(lens_grown hg hl).1] at h; simp at h
  obtain ⟨h1, _⟩ := lenR_bad _ _ hb
  obtain ⟨q, _, _, hc, h5, h6⟩ := grow_bad (ds := ds) hg.pos (s := startL S) (fun _ => rfl) n 0 (by omega) (fun p _ hp => h1 p (by omega) (by omega)) hg.pos
  obtain ⟨a, p, e, hr⟩ := round_of hg (S := S) (q := q + 1) (chg_lt hg.fit hc) h5
  have e6 : grown n ds S = (iter ds (startL S) (q + 1), bk ds (iter ds (startL S) (q + 1)) n (chg ds (startL S) q).toNat) := h6
  rw [e6]
  exact ⟨a, p, e, hr⟩
end Go.Proofs.Ytepnijjgdhldeaa
