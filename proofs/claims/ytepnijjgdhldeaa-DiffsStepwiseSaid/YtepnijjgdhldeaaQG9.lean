/- The table of a net with one difference more, from the table of the net. -/
import Derived.Test.YtepnijjgdhldeaaQD27
import Derived.Test.YtepnijjgdhldeaaQG4
namespace Go.Proofs.Ytepnijjgdhldeaa
open Go.Awp
set_option linter.unusedSimpArgs false
set_option linter.unusedVariables false
set_option linter.unusedSectionVars false
set_option maxRecDepth 10000
/-- Whether, and how far, one node is from another. -/
abbrev hs' (m : Nat) (es : List Df) (i j : Nat) : Bool := (lens m es (one i)).1.has j
abbrev ds' (m : Nat) (es : List Df) (i j : Nat) : Int := (lens m es (one i)).1.long j
theorem calm_sub {es es' : List Df} {R : Nat → Prop} {φ : Nat → Int} (h : Calm es' R φ) (hs : ∀ d, d ∈ es → d ∈ es') : Calm es R φ := fun d hd => h d (hs d hd)
theorem good_sub {m : Nat} {es es' : List Df} (h : Good m es') (hs : ∀ d, d ∈ es → d ∈ es') (hl : es.length ≤ 8192) : Good m es :=
  ⟨h.pos, h.small, hl, ⟨fun d hd => h.fit.ge1 d (hs d hd), fun d hd => h.fit.ge d (hs d hd), fun d hd => h.fit.fr d (hs d hd), fun d hd => h.fit.to d (hs d hd)⟩, fun d hd => h.w d (hs d hd)⟩
theorem Sol.sub {m : Nat} {es es' : List Df} (h : Sol m es') (hs : ∀ d, d ∈ es → d ∈ es') (hl : es.length ≤ 8192) : Sol m es :=
  ⟨good_sub h.good hs hl, lens_calm (good_sub h.good hs hl) (calm_sub (lens_grown h.good h.sol).2 hs) fun v hv => (lens_has hv).1⟩
theorem sub_le {m : Nat} {es es' : List Df} (h : Sol m es') (hs : ∀ d, d ∈ es → d ∈ es') {a : Nat} (ha : a < m) (v : Nat) (hv : hs' m es a v = true) : hs' m es' a v = true ∧ ds' m es' a v ≤ ds' m es a v :=
  lens_under (calm_sub (h.calm1 ha) hs) (S := one a) (fun v hv => by
    have e : v = a := by simpa [one] using hv
    subst e
    have := h.self ha
    exact ⟨this.1, by omega⟩) v hv
theorem set_same {m : Nat} {es es' : List Df} (h : Sol m es) (h' : Sol m es') (hs : ∀ d, d ∈ es ↔ d ∈ es') {a : Nat} (ha : a < m) (v : Nat) : hs' m es a v = hs' m es' a v ∧ ds' m es a v = ds' m es' a v := by
  have p := sub_le h' (fun d hd => (hs d).1 hd) ha v
  have q := sub_le h (fun d hd => (hs d).2 hd) ha v
  have e : hs' m es a v = hs' m es' a v := by rw [Bool.eq_iff_iff]; exact ⟨fun x => (p x).1, fun x => (q x).1⟩
  refine ⟨e, ?_⟩
  cases hx : hs' m es a v with
  | true => have := (p hx).2; have := (q (by rw [← e]; exact hx)).2; omega
  | false =>
    obtain ⟨r, e1⟩ := lens_iter (n := m) (ds := es) (S := one a)
    obtain ⟨r', e1'⟩ := lens_iter (n := m) (ds := es') (S := one a)
    have hx' : hs' m es' a v = false := by rw [← e]; exact hx
    unfold hs' ds' at *
    rw [e1] at hx ⊢
    rw [e1'] at hx' ⊢
    rw [unset_iter r v hx, unset_iter r' v hx']
theorem unset {m : Nat} {es : List Df} {a v : Nat} (hx : hs' m es a v = false) : ds' m es a v = 0 := by
  obtain ⟨r, e1⟩ := lens_iter (n := m) (ds := es) (S := one a)
  unfold hs' ds' at *
  rw [e1] at hx ⊢
  exact unset_iter r v hx
section
variable {m : Nat} {es : List Df} {d : Df} (h : Sol m es) (hg : Good m (es ++ [d]))
include h hg
theorem more_bad (h1 : hs' m es (to d) (fr d) = true) (h2 : ds' m es (to d) (fr d) + d.2.2 < 0) : ¬ Sol m (es ++ [d]) := fun h' => by
  have hv := hg.fit.to d (by simp)
  have p := sub_le h' (fun x hx => by simp [hx]) hv (fr d) h1
  have q := h'.calm1 hv d (by simp) p.1
  have := (h'.self hv).2
  have := q.2
  have := p.2
  unfold ds' at *
  omega
theorem more_sol (hn : ¬ (hs' m es (to d) (fr d) = true ∧ ds' m es (to d) (fr d) + d.2.2 < 0)) : Sol m (es ++ [d]) := by
  refine ⟨hg, ?_⟩
  have hu := hg.fit.fr d (by simp)
  have hv := hg.fit.to d (by simp)
  have x0 := (lens_grown h.good h.sol).2
  have all : ∀ x, x < m → (lens m es (everyone m)).1.has x = true := fun x hx => (lens_has (by simp [everyone, hx])).1
  generalize (lens m es (everyone m)).1.long = X at x0
  generalize hφ : (fun x => if hs' m es (to d) x = true ∧ X (fr d) + d.2.2 + ds' m es (to d) x < X x then X (fr d) + d.2.2 + ds' m es (to d) x else X x) = φ
  have f1 : ∀ x, φ x ≤ X x := fun x => by rw [← hφ]; simp only; split <;> omega
  have f2 : ∀ x, hs' m es (to d) x = true → φ x ≤ X (fr d) + d.2.2 + ds' m es (to d) x := fun x hx => by
    rw [← hφ]; simp only [hx, true_and]; split <;> omega
  have f3 : ∀ x, φ x = X x ∨ (hs' m es (to d) x = true ∧ φ x = X (fr d) + d.2.2 + ds' m es (to d) x) := fun x => by
    rw [← hφ]; simp only
    split
    · rename_i c; exact .inr ⟨c.1, rfl⟩
    · exact .inl rfl
  refine lens_calm hg (R := fun v => v < m) (φ := φ) (fun e he _ => ?_) (fun v hv => by simpa [everyone] using hv)
  refine ⟨hg.fit.to e he, ?_⟩
  rcases List.mem_append.1 he with he' | he'
  · have hx := (x0 e he' (all _ (h.good.fit.fr e he'))).2
    rcases f3 (fr e) with c | ⟨c1, c2⟩
    · have := f1 (to e); omega
    · have q := h.calm1 hv e he' c1
      have := f2 (to e) q.1
      have := q.2
      unfold ds' at *
      omega
  · have : e = d := by simpa using he'
    subst this
    have s := h.self hv
    have := f2 (to e) s.1
    have s2 := s.2
    rcases f3 (fr e) with c | ⟨c1, c2⟩
    · unfold ds' at *; omega
    · have : 0 ≤ ds' m es (to e) (fr e) + e.2.2 := by
        by_cases c : ds' m es (to e) (fr e) + e.2.2 < 0
        · exact absurd ⟨c1, c⟩ hn
        · omega
      unfold ds' at *; omega
/-- What the table says of a pair, with the one difference more. -/
theorem more_at (h' : Sol m (es ++ [d])) {i : Nat} (hi : i < m) (j : Nat) :
    hs' m (es ++ [d]) i j = (hs' m es i j || (hs' m es i (fr d) && hs' m es (to d) j)) ∧
    (hs' m (es ++ [d]) i j = true → ds' m (es ++ [d]) i j = if (hs' m es i (fr d) && (hs' m es (to d) j && (!(hs' m es i j) || decide (ds' m es i (fr d) + d.2.2 + ds' m es (to d) j < ds' m es i j)))) = true then ds' m es i (fr d) + d.2.2 + ds' m es (to d) j else ds' m es i j) := by
  have hu := hg.fit.fr d (by simp)
  have hv := hg.fit.to d (by simp)
  have hround : hs' m es (to d) (fr d) = true → 0 ≤ ds' m es (to d) (fr d) + d.2.2 := fun c1 => by
    by_cases c : ds' m es (to d) (fr d) + d.2.2 < 0
    · exact absurd h' (more_bad h hg c1 c)
    · omega
  generalize hψ : (fun j => if (hs' m es i (fr d) && (hs' m es (to d) j && (!(hs' m es i j) || decide (ds' m es i (fr d) + d.2.2 + ds' m es (to d) j < ds' m es i j)))) = true then ds' m es i (fr d) + d.2.2 + ds' m es (to d) j else ds' m es i j) = ψ
  have hR : ∀ j, (hs' m es i j || (hs' m es i (fr d) && hs' m es (to d) j)) = true ↔ hs' m es i j = true ∨ (hs' m es i (fr d) = true ∧ hs' m es (to d) j = true) := fun j => by simp
  have f1 : ∀ x, hs' m es i x = true → ψ x ≤ ds' m es i x := fun x hx => by
    rw [← hψ]; simp only [hx, Bool.not_true, Bool.false_or]
    split
    · rename_i c; simp at c; omega
    · omega
  have f2 : ∀ x, hs' m es i (fr d) = true → hs' m es (to d) x = true → ψ x ≤ ds' m es i (fr d) + d.2.2 + ds' m es (to d) x := fun x h1 h2 => by
    rw [← hψ]; simp only [h1, h2, Bool.true_and]
    split
    · omega
    · rename_i c; simp at c; omega
  have f3 : ∀ x, (hs' m es i x = true ∨ (hs' m es i (fr d) = true ∧ hs' m es (to d) x = true)) → (hs' m es i x = true ∧ ψ x = ds' m es i x) ∨ (hs' m es i (fr d) = true ∧ hs' m es (to d) x = true ∧ ψ x = ds' m es i (fr d) + d.2.2 + ds' m es (to d) x) := fun x hx => by
    rw [← hψ]; simp only
    split
    · rename_i c
      simp only [Bool.and_eq_true] at c
      exact .inr ⟨c.1, c.2.1, rfl⟩
    · rename_i c
      left
      refine ⟨?_, rfl⟩
      rcases hx with hx | ⟨h1, h2⟩
      · exact hx
      · simp [h1, h2] at c
        exact c.1
  have lower := lens_under (n := m) (ds := es ++ [d]) (R := fun x => hs' m es i x = true ∨ (hs' m es i (fr d) = true ∧ hs' m es (to d) x = true)) (ψ := ψ) (fun e he hr => by
    rcases List.mem_append.1 he with he' | he'
    · have qi := fun c => h.calm1 hi e he' c
      have qv := fun c => h.calm1 hv e he' c
      refine ⟨?_, ?_⟩
      · rcases hr with hr | ⟨h1, h2⟩
        · exact .inl (qi hr).1
        · exact .inr ⟨h1, (qv h2).1⟩
      · rcases f3 _ hr with ⟨c1, c2⟩ | ⟨c1, c2, c3⟩
        · have := (qi c1).2; have := f1 _ (qi c1).1; unfold ds' at *; omega
        · have := (qv c2).2; have := f2 _ c1 (qv c2).1; unfold ds' at *; omega
    · have : e = d := by simpa using he'
      subst this
      have s := h.self hv
      have hi1 : hs' m es i (fr e) = true := by
        rcases hr with hr | ⟨h1, _⟩
        · exact hr
        · exact h1
      refine ⟨.inr ⟨hi1, s.1⟩, ?_⟩
      have := f2 (to e) hi1 s.1
      have s2 := s.2
      rcases f3 _ hr with ⟨c1, c2⟩ | ⟨c1, c2, c3⟩
      · unfold ds' at *; omega
      · have := hround c2; unfold ds' at *; omega) (S := one i) (fun x hx => by
    have e : x = i := by simpa [one] using hx
    subst e
    have s := h.self hi
    have s2 := s.2
    exact ⟨.inl s.1, by have := f1 x s.1; unfold ds' at *; omega⟩)
  have upper : ∀ x, (hs' m es i x = true ∨ (hs' m es i (fr d) = true ∧ hs' m es (to d) x = true)) → hs' m (es ++ [d]) i x = true ∧ ds' m (es ++ [d]) i x ≤ ψ x := fun x hx => by
    have sub : ∀ e, e ∈ es → e ∈ es ++ [d] := fun e he => by simp [he]
    rcases f3 x hx with ⟨c1, c2⟩ | ⟨c1, c2, c3⟩
    · have := sub_le h' sub hi x c1
      exact ⟨this.1, by rw [c2]; exact this.2⟩
    · have p1 := sub_le h' sub hi _ c1
      have p2 := sub_le h' sub hv _ c2
      have p3 := h'.calm1 hi d (by simp) p1.1
      have p4 := h'.tri hi p3.1 p2.1
      have a1 := p1.2
      have a2 := p2.2
      have a3 := p3.2
      have a4 := p4.2
      exact ⟨p4.1, by rw [c3]; unfold ds' at *; omega⟩
  have e : hs' m (es ++ [d]) i j = (hs' m es i j || (hs' m es i (fr d) && hs' m es (to d) j)) := by
    rw [Bool.eq_iff_iff, hR]
    exact ⟨fun c => (lower j c).1, fun c => (upper j c).1⟩
  refine ⟨e, fun c => ?_⟩
  have l1 := (lower j c)
  have u1 := upper j l1.1
  have : ds' m (es ++ [d]) i j = ψ j := by have := l1.2; have := u1.2; unfold ds' at *; omega
  rw [this, ← hψ]
end
end Go.Proofs.Ytepnijjgdhldeaa
