/- The greatest sums: there is one, or a direction in which there is none; sums of weights. -/
import Derived.Test.YtepnijjgdhldeaaQV4
namespace Go.Proofs.Ytepnijjgdhldeaa
open Go.Awp
set_option linter.unusedSimpArgs false
set_option linter.unusedVariables false
theorem Inv.go {n : Nat} {ds : List Df} {w : Nat → Int} {T : Int} (hg : Good n ds) (hl : ds.length ≤ 2048) : ∀ (p : Nat) (F W : Nat → Int), Inv n ds w T F W → (phi n W).toNat ≤ p → (∃ F' W', Inv n ds w T F' W' ∧ Opt n ds w F') ∨ ∃ y, Ray n ds w y
  | p, F, W, inv, hp => by
    by_cases hz : ∀ v, 0 < v → v < n → W v = 0
    · exact .inl ⟨F, W, inv, inv.opt hz⟩
    · have hpos := phi_nonneg (n := n) (W := W)
      have step : ∀ (S : Nat → Bool) (a : Nat), a < n → (lens n (lns ds F) S).1.has a = true → S a = false → (a ≠ 0 → 0 < W a) → (∀ r, S r = true → r ≠ 0 → W r < 0) → (a ≠ 0 ∨ S 0 = false) → (∃ F' W', Inv n ds w T F' W' ∧ Opt n ds w F') ∨ ∃ y, Ray n ds w y := by
        intro S a ha hh hSa h1 h2 h3
        obtain ⟨hgr, hcalm⟩ := inv.grown hg hl S
        obtain ⟨q, hq⟩ := way_of (lns_good hg hl) hcalm ha hh
        have hr0 := hq.root
        have hrn := hq.itp_lt (lns_good hg hl) q (Nat.le_refl _)
        have hne : a ≠ itp (lns ds F) (lens n (lns ds F) S).1 q a := fun e => by rw [← e, hSa] at hr0; cases hr0
        have hm : Much W a (itp (lns ds F) (lens n (lns ds F) S).1 q a) 1 := ⟨by decide, hne, fun h => by have := h1 h; omega, fun h => by have := h2 _ hr0 h; omega, by
          rcases h3 with h | h
          · exact .inl h
          · exact .inr fun e => by rw [e, h] at hr0; cases hr0⟩
        have mv := move hg hl inv hcalm hq hm fun u hu hb => by
          rcases (hq.hop hu).cas with k | k
          · exact absurd k.1 hb
          · have := k.2.2.2.1; omega
        have hph := shiftW_phi (n := n) hm ha hrn
        have h0 := phi_nonneg (n := n) (W := shiftW W a (itp (lns ds F) (lens n (lns ds F) S).1 q a) 1)
        cases p with
        | zero => omega
        | succ p => exact Inv.go hg hl p _ _ mv (by omega)
      by_cases hu : ∃ a, 0 < a ∧ a < n ∧ 0 < W a
      · obtain ⟨a, a0, an, aW⟩ := hu
        obtain ⟨hgr, hcalm⟩ := inv.grown hg hl (marksOf (givL W n))
        cases hh : (lens n (lns ds F) (marksOf (givL W n))).1.has a with
        | true =>
          refine step _ a an hh ?_ (fun _ => aW) (fun r hr h0 => ?_) (.inl (by omega))
          · cases e : marksOf (givL W n) a with
            | false => rfl
            | true => rcases marks_giv.1 e with h | h <;> omega
          · rcases marks_giv.1 hr with h | h
            · omega
            · exact h.2.2
        | false => exact .inr (ray_up hg inv hcalm an (lens_has (marks_giv.2 (.inl rfl))).1 (fun v h1 h2 h3 => (lens_has (marks_giv.2 (.inr ⟨h1, h2, h3⟩))).1) aW hh)
      · have hneg : ∀ v, 0 < v → v < n → W v ≤ 0 := fun v h1 h2 => by
          rcases Int.lt_or_le 0 (W v) with h | h
          · exact absurd ⟨v, h1, h2, h⟩ hu
          · exact h
        obtain ⟨a, ha⟩ := Classical.not_forall.1 hz
        obtain ⟨a0, ha⟩ := Classical.not_imp.1 ha
        obtain ⟨an, aW⟩ := Classical.not_imp.1 ha
        have aneg : W a < 0 := by have := hneg a a0 an; omega
        obtain ⟨hgr, hcalm⟩ := inv.grown hg hl (one a)
        cases hh : (lens n (lns ds F) (one a)).1.has 0 with
        | true => exact step (one a) 0 hg.pos hh (by simp [one]; omega) (fun h => absurd rfl h) (fun r hr _ => by rw [show r = a from by simpa [one] using hr]; exact aneg) (.inr (by simp [one]; omega))
        | false => exact .inr (ray_down hg inv hcalm an hh hneg aneg (lens_has (by simp [one])).1)
  termination_by p => p
theorem inn_add {ds : List Df} {F G : Nat → Int} {v : Nat} : inn ds (fun k => F k + G k) v = inn ds F v + inn ds G v := by
  unfold inn innc
  rw [← sumN_add]
  exact sumN_congr _ fun k _ => Int.add_mul ..
theorem Brings.add {n : Nat} {ds : List Df} {w v u F G : Nat → Int} (h : Brings n ds w F) (h' : Brings n ds v G) (hu : ∀ i, 0 < i → i < n → u i = w i + v i) : Brings n ds u fun k => F k + G k :=
  ⟨fun k hk => by have := h.nonneg k hk; have := h'.nonneg k hk; omega, fun i h0 hi => by rw [inn_add, h.bal i h0 hi, h'.bal i h0 hi, hu i h0 hi]⟩
end Go.Proofs.Ytepnijjgdhldeaa
