/- Theory: the flow of the specification. -/
import Derived.Test.YtepnijjgdhldeaaQV5
namespace Go.Proofs.Ytepnijjgdhldeaa
open Go.Awp
set_option linter.unusedSimpArgs false
set_option linter.unusedVariables false
set_option linter.unusedSectionVars false
set_option maxRecDepth 10000
theorem iter_stay {ls : List Df} {s : Gs} {q : Nat} (h : iter ls s (q + 1) = iter ls s q) : ∀ p, iter ls s (q + p) = iter ls s q
  | 0 => rfl
  | p + 1 => by
    have ih := iter_stay h p
    have e1 : iter ls s (q + (p + 1)) = (part ls (iter ls s (q + p)) ls.length).1 := rfl
    have e2 : iter ls s (q + 1) = (part ls (iter ls s q) ls.length).1 := rfl
    rw [e1, ih, ← e2, h]
theorem iter_lens {n : Nat} {ls : List Df} (hg : Good n ls) {S : Nat → Bool} (h : (lens n ls S).2 = true) : iter ls (startL S) n = (lens n ls S).1 := by
  have e : lenR ls (startL S) (n + 1) 0 = ((lens n ls S).1, true) := by rw [← h]; rfl
  obtain ⟨q, h1, h2, h3, h4, h5⟩ := lenR_ok _ _ e
  have hs := (chg_calm (fun d hd => hg.fit.ge d hd) h3).1
  rw [h4, hs]
  have := iter_stay hs (n - q)
  rw [show q + (n - q) = n by omega] at this
  exact this
/-- Nothing that lacks something is reached from a node that has too much: then numbers can go on and on. -/
theorem ray_cut {n : Nat} {ds : List Df} {w F W : Nat → Int} {T : Int} (hg : Good n ds) (inv : Inv n ds w T F W) {has : Nat → Bool} {long : Nat → Int} (hc : Calm (lns ds F) (fun v => has v = true) long) {a : Nat} (ha : a < n)
    (hsum : sumN n W = 0) (hle : ∀ v, v < n → has v = true → W v ≤ 0) (hp : W a < 0) (hyes : has a = true) : ∃ y, Ray n ds w y := by
  obtain ⟨z, hz⟩ : ∃ z : Nat → Int, ∀ v, z v = if has v then -1 else 0 := ⟨_, fun _ => rfl⟩
  have hcl := fun {k : Nat} (hk : k < ds.length) => closed hc hk
  refine ⟨fun v => z v - z 0, Int.sub_self _, fun k hk => ?_, ?_⟩
  · have h1 := (hcl hk).1
    simp only [hz]
    cases e1 : has (fr (ed ds k)) with
    | true => rw [h1 e1]; exact Int.le_refl _
    | false =>
      generalize (if has 0 = true then (-1 : Int) else 0) = z0
      cases has (to (ed ds k)) <;> simp <;> omega
  · rw [inv.dot_eq (fun d hd => ⟨hg.fit.fr d hd, hg.fit.to d hd⟩) (Int.sub_self _), flat_zero (y := fun v => z v - z 0) inv.nonneg fun k hk hpos => ?_, Int.zero_add]
    · have e : dot n W (fun v => z v - z 0) = sumN n (fun v => W v * z v) := by
        unfold dot
        have e1 : sumN n (fun v => W v * (z v - z 0)) = sumN n (fun v => W v * z v + (- z 0) * W v) := sumN_congr n fun v _ => by rw [Int.mul_sub, Int.neg_mul, Int.mul_comm (z 0)]; omega
        rw [e1, sumN_add, sumN_mul, hsum]; simp
      rw [e]
      refine sumN_pos n (fun v hv => ?_) ha (by rw [hz, hyes]; simp; omega)
      rw [hz]
      cases e : has v with
      | true => have := hle v hv e; simp; omega
      | false => simp
    · obtain ⟨h1, h2⟩ := hcl hk
      have : has (to (ed ds k)) = has (fr (ed ds k)) := by
        cases e1 : has (fr (ed ds k)) with
        | true => exact h1 e1
        | false =>
          cases e2 : has (to (ed ds k)) with
          | true => rw [h2 hpos e2] at e1; cases e1
          | false => rfl
      simp only [hz, this]
theorem phi_congr {n : Nat} {W W' : Nat → Int} (h : ∀ v, 0 < v → v < n → W' v = W v) : phi n W' = phi n W :=
  sumN_congr n fun v hv => by
    by_cases e : v = 0
    · rw [if_pos e, if_pos e]
    · rw [if_neg e, if_neg e, h v (by omega) hv]
theorem Inv.congr {n : Nat} {ds : List Df} {w F W W' : Nat → Int} {T : Int} (inv : Inv n ds w T F W) (h : ∀ v, 0 < v → v < n → W' v = W v) : Inv n ds w T F W' :=
  ⟨inv.nonneg, fun v h0 hv => by rw [h v h0 hv]; exact inv.bal v h0 hv, inv.pot, fun k hk => by rw [phi_congr h]; exact inv.cap k hk⟩
/-- How much goes along a way: no more than is lacking at either end, nor than is used where the way goes backwards. -/
def muchR (ds : List Df) (F : Nat → Int) (s : Gs) (a : Nat) (c0 : Int) : Nat → Int
  | 0 => c0
  | t + 1 => if pth (lns ds F) s a t < ds.length then muchR ds F s a c0 t else min (muchR ds F s a c0 t) (F (jx ds F (pth (lns ds F) s a t)))
theorem muchR_succ {ds : List Df} {F : Nat → Int} {s : Gs} {a : Nat} {c0 : Int} {t : Nat} : muchR ds F s a c0 (t + 1) = if pth (lns ds F) s a t < ds.length then muchR ds F s a c0 t else min (muchR ds F s a c0 t) (F (jx ds F (pth (lns ds F) s a t))) := rfl
theorem muchR_le {ds : List Df} {F : Nat → Int} {s : Gs} {a : Nat} {c0 : Int} : ∀ t, muchR ds F s a c0 t ≤ c0 ∧ ∀ u, u < t → ¬ pth (lns ds F) s a u < ds.length → muchR ds F s a c0 t ≤ F (jx ds F (pth (lns ds F) s a u))
  | 0 => ⟨Int.le_refl _, fun u hu => by omega⟩
  | t + 1 => by
    have ih := muchR_le (ds := ds) (F := F) (s := s) (a := a) (c0 := c0) t
    have hle : muchR ds F s a c0 (t + 1) ≤ muchR ds F s a c0 t := by rw [muchR_succ]; split <;> omega
    refine ⟨by omega, fun u hu hb => ?_⟩
    by_cases e : u = t
    · subst e
      rw [muchR_succ, if_neg hb]; omega
    · have := ih.2 u (by omega) hb; omega
theorem muchR_pos {n : Nat} {ds : List Df} {F : Nat → Int} {s : Gs} {S : Nat → Bool} {a q : Nat} {c0 : Int} (h : Way n (lns ds F) s S a q) (hc : 0 < c0) : ∀ t, t ≤ q → 0 < muchR ds F s a c0 t
  | 0, _ => hc
  | t + 1, ht => by
    have ih := muchR_pos h hc t (by omega)
    rw [muchR_succ]
    split
    · exact ih
    · rename_i hb
      rcases (h.hop (t := t) (by omega)).cas with k | k
      · exact absurd k.1 hb
      · have := k.2.2.2.1; omega
theorem sum_move {n : Nat} {L : Nat → Int} {f a : Nat} {c : Int} (hf : f < n) (ha : a < n) (hne : f ≠ a) : sumN n (upd (upd L f (L f + c)) a (upd L f (L f + c) a - c)) = sumN n L := by
  rw [sumN_upd, if_pos ha, sumN_upd, if_pos hf]
  omega
theorem ref_step {n : Nat} {ds : List Df} {w F L : Nat → Int} {T c : Int} (hg : Good n ds) (hl : ds.length ≤ 2048) (inv : Inv n ds w T F L) {f a q : Nat} (hf : f < n)
    (hw : Way n (lns ds F) (lens n (lns ds F) (one f)).1 (one f) a q) (hLf : L f < 0) (hLa : 0 < L a) (hc : 0 < c) (h1 : c ≤ - L f) (h2 : c ≤ L a)
    (hb : ∀ u, u < q → ¬ pth (lns ds F) (lens n (lns ds F) (one f)).1 a u < ds.length → c ≤ F (jx ds F (pth (lns ds F) (lens n (lns ds F) (one f)).1 a u))) :
    Inv n ds w T (augs ds F (lens n (lns ds F) (one f)).1 a c q) (upd (upd L f (L f + c)) a (upd L f (L f + c) a - c)) ∧ phi n (upd (upd L f (L f + c)) a (upd L f (L f + c) a - c)) < phi n L := by
  have hroot : itp (lns ds F) (lens n (lns ds F) (one f)).1 q a = f := by have := hw.root; simpa [one] using this
  have hne : a ≠ f := fun e => by rw [e] at hLa; omega
  have hcalm := (inv.grown hg hl (one f)).2
  have hm : Much L a (itp (lns ds F) (lens n (lns ds F) (one f)).1 q a) c := by
    rw [hroot]
    exact ⟨hc, hne, fun _ => h2, fun _ => h1, by omega⟩
  have mv := move hg hl inv hcalm hw hm hb
  have ph := shiftW_phi (n := n) hm hw.node (by rw [hroot]; exact hf)
  rw [hroot] at mv ph hm
  have e : ∀ v, 0 < v → v < n → upd (upd L f (L f + c)) a (upd L f (L f + c) a - c) v = shiftW L a f c v := fun v h0 hv => by
    rw [shiftW_at hm h0]
    unfold dl
    by_cases e1 : v = a
    · subst e1
      rw [upd_eq, upd_ne hne, if_pos rfl, if_neg (Ne.symm hne)]; omega
    · rw [upd_ne e1, if_neg (Ne.symm e1)]
      by_cases e2 : v = f
      · subst e2; rw [upd_eq, if_pos rfl]; omega
      · rw [upd_ne e2, if_neg (Ne.symm e2)]; omega
  exact ⟨mv.congr e, by rw [phi_congr e]; omega⟩
end Go.Proofs.Ytepnijjgdhldeaa
/- Theory: bounds of what nodes lack. -/
namespace Go.Proofs.Ytepnijjgdhldeaa
open Go.Awp
set_option linter.unusedSimpArgs false
set_option linter.unusedVariables false
set_option linter.unusedSectionVars false
theorem absI_ge {x : Int} : x ≤ absI x ∧ -x ≤ absI x ∧ 0 ≤ absI x := by unfold absI; split <;> omega
theorem phi_each {n : Nat} {W : Nat → Int} {v : Nat} (h0 : 0 < v) (hv : v < n) : absI (W v) ≤ phi n W := by
  have h := sumN_le (f := fun u => absI (W v) * dl v u) (g := fun u => if u = 0 then 0 else absI (W u)) n fun u hu => by
    unfold dl
    by_cases e : v = u
    · subst e; rw [if_pos rfl, if_neg (by omega)]; omega
    · rw [if_neg e, Int.mul_zero]; split
      · omega
      · exact absI_ge.2.2
  rw [sumN_dl (g := fun _ => absI (W v)), if_pos hv] at h
  exact h
theorem phi_sum {n : Nat} {W : Nat → Int} : -(phi n W) ≤ sumN n (fun v => if v = 0 then 0 else W v) ∧ sumN n (fun v => if v = 0 then 0 else W v) ≤ phi n W := by
  constructor
  · have h := sumN_le (f := fun v => (-1) * (if v = 0 then 0 else W v)) (g := fun v => if v = 0 then 0 else absI (W v)) n fun v hv => by
      split
      · simp
      · have := absI_ge (x := W v); omega
    rw [sumN_mul] at h
    unfold phi; omega
  · exact sumN_le n fun v hv => by
      split
      · omega
      · exact absI_ge.1
theorem lack_zero {n : Nat} {W : Nat → Int} (hn : 0 < n) : sumN n W = W 0 + sumN n (fun v => if v = 0 then 0 else W v) := by
  have e : sumN n W = sumN n (fun v => W 0 * dl 0 v + (if v = 0 then 0 else W v)) := sumN_congr n fun v _ => by
    unfold dl
    by_cases e : v = 0
    · subst e; simp
    · rw [if_neg e, if_neg (Ne.symm e)]; simp
  rw [e, sumN_add, sumN_dl (g := fun _ => W 0), if_pos hn]
theorem lack_bound {n : Nat} {W : Nat → Int} {B : Int} (hn : 0 < n) (hs : sumN n W = 0) (hp : phi n W ≤ B) : ∀ v, v < n → -B ≤ W v ∧ W v ≤ B := fun v hv => by
  rcases Nat.eq_zero_or_pos v with e | e
  · subst e
    have h1 := lack_zero (W := W) hn
    have h2 := phi_sum (n := n) (W := W)
    omega
  · have h1 := phi_each (n := n) (W := W) e hv
    have h2 := absI_ge (x := W v)
    omega
theorem all_zero {n : Nat} {W : Nat → Int} (hs : sumN n W = 0) (h : ∀ v, v < n → 0 ≤ W v) : ∀ v, v < n → W v = 0 := fun v hv => by
  rcases Int.lt_or_eq_of_le (h v hv) with e | e
  · have := sumN_pos n h hv e; omega
  · exact e.symm
theorem phi_weights {n : Nat} {w : Nat → Int} (hw : ∀ v, -4096 ≤ w v ∧ w v ≤ 4096) : phi n w ≤ 4096 * (n : Int) := by
  have h := sumN_le (f := fun v => if v = 0 then 0 else absI (w v)) (g := fun _ => 4096) n fun v hv => by
    split
    · omega
    · have := hw v; unfold absI; split <;> omega
  have e : ∀ k : Nat, sumN k (fun _ => (4096 : Int)) = 4096 * (k : Int) := fun k => by
    induction k with
    | zero => simp [sumN]
    | succ k ih => simp only [sumN, ih]; omega
  rw [e] at h
  exact h
end Go.Proofs.Ytepnijjgdhldeaa
