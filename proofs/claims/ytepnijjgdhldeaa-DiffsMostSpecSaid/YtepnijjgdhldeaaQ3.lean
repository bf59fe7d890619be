/- How labels grow along differences: the plain law of the rounds that relax them (nothing of the program). -/
import Derived.Test.YtepnijjgdhldeaaQ1
import Derived.Test.YtepnijjgdhldeaaQ2
import Derived.Test.YtepnijjgdhldeaaQS0
namespace Go.Proofs.Ytepnijjgdhldeaa
structure Gs where
  long : Nat → Int
  has : Nat → Bool
  last : Nat → Int
def upd {α : Type} (f : Nat → α) (i : Nat) (v : α) : Nat → α := fun x => if x = i then v else f x
theorem upd_eq {α : Type} {f : Nat → α} {i : Nat} {v : α} : upd f i v i = v := if_pos rfl
theorem upd_ne {α : Type} {f : Nat → α} {i x : Nat} {v : α} (h : x ≠ i) : upd f i v x = f x := if_neg h
def fr (d : Df) : Nat := d.1.toNat
def to (d : Df) : Nat := d.2.1.toNat
def better (s : Gs) (d : Df) : Bool := s.has (fr d) && (!s.has (to d) || decide (s.long (fr d) + d.2.2 < s.long (to d)))
def gstep (s : Gs) (k : Nat) (d : Df) : Gs := ⟨upd s.long (to d) (s.long (fr d) + d.2.2), upd s.has (to d) true, upd s.last (to d) k⟩
def part (ds : List Df) (s : Gs) : Nat → Gs × Int
  | 0 => (s, -1)
  | k + 1 => match ds[k]? with
    | none => part ds s k
    | some d => if better (part ds s k).1 d then (gstep (part ds s k).1 k d, d.2.1) else part ds s k
def iter (ds : List Df) (s : Gs) : Nat → Gs
  | 0 => s
  | r + 1 => (part ds (iter ds s r) ds.length).1
def chg (ds : List Df) (s : Gs) (r : Nat) : Int := (part ds (iter ds s r) ds.length).2
def pre (ds : List Df) (s : Gs) (v : Nat) : Nat := match ds[(s.last v).toNat]? with | some d => fr d | none => 0
def bk (ds : List Df) (s : Gs) : Nat → Nat → Int
  | 0, a => a
  | i + 1, a => if s.last a < 0 then -1 else bk ds s i (pre ds s a)
def growR (ds : List Df) (n : Nat) (s : Gs) : Nat → Nat → Gs × Int
  | 0, r => (iter ds s r, -1)
  | f + 1, r => if chg ds s r < 0 then (iter ds s (r + 1), -1) else if 0 ≤ bk ds (iter ds s (r + 1)) n (chg ds s r).toNat then (iter ds s (r + 1), bk ds (iter ds s (r + 1)) n (chg ds s r).toNat) else growR ds n s f (r + 1)
def lenR (ds : List Df) (s : Gs) : Nat → Nat → Gs × Bool
  | 0, r => (iter ds s r, false)
  | f + 1, r => if chg ds s r < 0 then (iter ds s (r + 1), true) else lenR ds s f (r + 1)
-- what every step keeps
theorem part_inv {ds : List Df} {s : Gs} {P : Gs → Prop} (h0 : P s) (hs : ∀ s (k : Nat) d, ds[k]? = some d → better s d = true → P s → P (gstep s k d)) : ∀ k, P (part ds s k).1
  | 0 => h0
  | k + 1 => by
    have ih := part_inv h0 hs k
    unfold part
    split
    · exact ih
    · split
      · exact hs _ _ _ ‹_› ‹_› ih
      · exact ih
theorem iter_inv {ds : List Df} {s : Gs} {P : Gs → Prop} (h0 : P s) (hs : ∀ s (k : Nat) d, ds[k]? = some d → better s d = true → P s → P (gstep s k d)) : ∀ r, P (iter ds s r)
  | 0 => h0
  | r + 1 => part_inv (iter_inv h0 hs r) hs _
theorem better_iff {s : Gs} {d : Df} : better s d = true ↔ s.has (fr d) = true ∧ (s.has (to d) = true → s.long (fr d) + d.2.2 < s.long (to d)) := by
  unfold better
  cases s.has (fr d) <;> cases s.has (to d) <;> simp
theorem not_better {s : Gs} {d : Df} (h : better s d = false) (hf : s.has (fr d) = true) : s.has (to d) = true ∧ s.long (to d) ≤ s.long (fr d) + d.2.2 := by
  unfold better at h
  rw [hf] at h
  cases ht : s.has (to d) <;> simp [ht] at h ⊢
  exact h
theorem part_succ {ds : List Df} {s : Gs} {k : Nat} {d : Df} (h : ds[k]? = some d) : part ds s (k + 1) = if better (part ds s k).1 d then (gstep (part ds s k).1 k d, d.2.1) else part ds s k := by
  conv => lhs; unfold part
  rw [h]
theorem part_quiet {ds : List Df} {s : Gs} (hv : ∀ d, d ∈ ds → 0 ≤ d.2.1) : ∀ k, (part ds s k).2 < 0 → (part ds s k).1 = s ∧ ∀ j d, j < k → ds[j]? = some d → better s d = false
  | 0, _ => ⟨rfl, fun _ _ h => by omega⟩
  | k + 1, h => by
    cases hd : ds[k]? with
    | none =>
      have e : part ds s (k + 1) = part ds s k := by conv => lhs; unfold part; rw [hd]
      rw [e] at h ⊢
      obtain ⟨h1, h2⟩ := part_quiet hv k h
      refine ⟨h1, fun j d hj hjd => ?_⟩
      by_cases hjk : j = k
      · subst hjk; rw [hd] at hjd; cases hjd
      · exact h2 j d (by omega) hjd
    | some d =>
      rw [part_succ hd] at h ⊢
      split at h
      · have := hv d (List.mem_of_getElem? hd)
        simp only at h; omega
      · rename_i hb
        obtain ⟨h1, h2⟩ := part_quiet hv k h
        rw [if_neg hb]
        refine ⟨h1, fun j d' hj hjd => ?_⟩
        by_cases hjk : j = k
        · subst hjk; rw [hd] at hjd; cases hjd; rw [h1] at hb; simpa using hb
        · exact h2 j d' (by omega) hjd
/-- Labels that no difference makes less. -/
def Calm (ds : List Df) (R : Nat → Prop) (φ : Nat → Int) : Prop := ∀ d, d ∈ ds → R (fr d) → R (to d) ∧ φ (to d) ≤ φ (fr d) + d.2.2
theorem chg_calm {ds : List Df} {s : Gs} (hv : ∀ d, d ∈ ds → 0 ≤ d.2.1) {r : Nat} (h : chg ds s r < 0) : iter ds s (r + 1) = iter ds s r ∧ Calm ds (fun v => (iter ds s r).has v = true) (iter ds s r).long := by
  obtain ⟨h1, h2⟩ := part_quiet hv _ h
  refine ⟨h1, fun d hd hr => ?_⟩
  obtain ⟨j, hj, e⟩ := List.mem_iff_getElem.1 hd
  exact not_better (h2 j d hj (by rw [List.getElem?_eq_getElem hj, e])) hr
-- the greatest ones of all
theorem under_step {ds : List Df} {R : Nat → Prop} {ψ : Nat → Int} (hc : Calm ds R ψ) {s : Gs} {k : Nat} {d : Df} (hd : ds[k]? = some d) (hb : better s d = true) (h : ∀ v, s.has v = true → R v ∧ ψ v ≤ s.long v) : ∀ v, (gstep s k d).has v = true → R v ∧ ψ v ≤ (gstep s k d).long v := by
  intro v hv
  have hm := List.mem_of_getElem? hd
  by_cases e : v = to d
  · subst e
    have h1 := h _ (better_iff.1 hb).1
    have h2 := hc d hm h1.1
    refine ⟨h2.1, ?_⟩
    simp only [gstep, upd_eq]; omega
  · simp only [gstep, upd_ne e] at hv ⊢
    exact h v hv
theorem under {ds : List Df} {R : Nat → Prop} {ψ : Nat → Int} (hc : Calm ds R ψ) {s : Gs} (h : ∀ v, s.has v = true → R v ∧ ψ v ≤ s.long v) (r : Nat) : ∀ v, (iter ds s r).has v = true → R v ∧ ψ v ≤ (iter ds s r).long v :=
  iter_inv (P := fun s => ∀ v, s.has v = true → R v ∧ ψ v ≤ s.long v) h (fun _ _ _ hd hb h => under_step hc hd hb h) r
theorem falls {ds : List Df} {s : Gs} {v : Nat} {c : Int} (h : s.has v = true ∧ s.long v ≤ c) (r : Nat) : (iter ds s r).has v = true ∧ (iter ds s r).long v ≤ c :=
  iter_inv (P := fun s => s.has v = true ∧ s.long v ≤ c) h (fun s k d hd hb ⟨h1, h2⟩ => by
    by_cases e : v = to d
    · subst e
      have := (better_iff.1 hb).2 h1
      simp only [gstep, upd_eq, true_and]; omega
    · simp only [gstep, upd_ne e]; exact ⟨h1, h2⟩) r
-- times
def partT (ds : List Df) (s : Gs) (T : Nat → Nat) (t : Nat) : Nat → Nat → Nat
  | 0 => T
  | k + 1 => match ds[k]? with
    | none => partT ds s T t k
    | some d => if better (part ds s k).1 d then upd (partT ds s T t k) (to d) (t + k + 1) else partT ds s T t k
def iterT (ds : List Df) (s : Gs) : Nat → Nat → Nat
  | 0 => fun _ => 0
  | r + 1 => partT ds (iter ds s r) (iterT ds s r) (r * ds.length) ds.length
theorem partT_succ {ds : List Df} {s : Gs} {T : Nat → Nat} {t k : Nat} {d : Df} (h : ds[k]? = some d) : partT ds s T t (k + 1) = if better (part ds s k).1 d then upd (partT ds s T t k) (to d) (t + k + 1) else partT ds s T t k := by
  conv => lhs; unfold partT
  rw [h]
def seenAt (m r k j : Nat) : Nat := if j < k then r * m + j + 1 else r * m + j + 1 - m
structure InvT (ds : List Df) (s : Gs) (T : Nat → Nat) (r k : Nat) : Prop where
  le : ∀ v, T v ≤ r * ds.length + k
  zero : ∀ v, T v = 0 → s.last v = -1
  pos : ∀ v, 0 < T v → ∃ (j : Nat) (d : Df), s.last v = j ∧ ds[j]? = some d ∧ to d = v ∧ s.has (fr d) = true ∧ s.has v = true ∧ s.long (fr d) + d.2.2 ≤ s.long v ∧ (ds.length < T v → T v ≤ T (fr d) + ds.length)
  sat : ∀ (j : Nat) (d : Df), ds[j]? = some d → s.has (fr d) = true → T (fr d) < seenAt ds.length r k j → s.has (to d) = true ∧ s.long (to d) ≤ s.long (fr d) + d.2.2
theorem InvT.step {ds : List Df} {s : Gs} {T : Nat → Nat} {r k : Nat} {d : Df} (hd : ds[k]? = some d) (h : InvT ds s T r k) :
    InvT ds (if better s d then gstep s k d else s) (if better s d then upd T (to d) (r * ds.length + k + 1) else T) r (k + 1) := by
  have hk : k < ds.length := (List.getElem?_eq_some_iff.1 hd).1
  by_cases hb : better s d = true
  · rw [if_pos hb, if_pos hb]
    obtain ⟨b1, b2⟩ := better_iff.1 hb
    constructor
    · intro v
      by_cases e : v = to d
      · subst e; rw [upd_eq]; omega
      · rw [upd_ne e]; have := h.le v; omega
    · intro v hv
      by_cases e : v = to d
      · subst e; rw [upd_eq] at hv; omega
      · rw [upd_ne e] at hv; simp only [gstep, upd_ne e]; exact h.zero v hv
    · intro v hv
      by_cases e : v = to d
      · subst e
        refine ⟨k, d, by simp only [gstep, upd_eq], hd, rfl, ?_, by simp only [gstep, upd_eq], ?_, ?_⟩
        · by_cases e : fr d = to d
          · rw [e]; simp only [gstep, upd_eq]
          · simp only [gstep, upd_ne e]; exact b1
        · by_cases e : fr d = to d
          · have := b2 (e ▸ b1)
            rw [← e] at this
            simp only [gstep, upd_eq, e]
            rw [e] at this; omega
          · simp only [gstep, upd_ne e, upd_eq]; omega
        · intro hm
          rw [upd_eq] at hm ⊢
          by_cases e : fr d = to d
          · rw [e, upd_eq]; omega
          · rw [upd_ne e]
            by_cases hs : T (fr d) < seenAt ds.length r k k
            · obtain ⟨c1, c2⟩ := h.sat k d hd b1 hs
              have := b2 c1; omega
            · unfold seenAt at hs
              rw [if_neg (by omega)] at hs; omega
      · rw [upd_ne e] at hv
        obtain ⟨j, d', p1, p2, p3, p4, p5, p6, p7⟩ := h.pos v hv
        refine ⟨j, d', by simp only [gstep, upd_ne e]; exact p1, p2, p3, ?_, by simp only [gstep, upd_ne e]; exact p5, ?_, ?_⟩
        · by_cases e' : fr d' = to d
          · rw [e']; simp only [gstep, upd_eq]
          · simp only [gstep, upd_ne e']; exact p4
        · by_cases e' : fr d' = to d
          · have := b2 (e' ▸ p4)
            rw [e'] at p6
            simp only [gstep, upd_ne e, e', upd_eq]; omega
          · simp only [gstep, upd_ne e', upd_ne e]; exact p6
        · intro hm
          rw [upd_ne e] at hm ⊢
          have := p7 hm
          by_cases e' : fr d' = to d
          · rw [e', upd_eq]; have := h.le v; omega
          · rw [upd_ne e']; exact this
    · intro j d' hj hf ht
      by_cases hjk : j = k
      · subst hjk
        rw [hd] at hj; cases hj
        unfold seenAt at ht
        rw [if_pos (by omega)] at ht
        by_cases e : fr d = to d
        · rw [e, upd_eq] at ht; omega
        · simp only [gstep, upd_eq, upd_ne e, true_and]; omega
      · have hs : seenAt ds.length r (k + 1) j = seenAt ds.length r k j := by
          unfold seenAt
          by_cases hjl : j < k
          · rw [if_pos hjl, if_pos (by omega)]
          · rw [if_neg hjl, if_neg (by omega)]
        rw [hs] at ht
        have hjm : j < ds.length := (List.getElem?_eq_some_iff.1 hj).1
        have hlt : seenAt ds.length r k j ≤ r * ds.length + k := by
          unfold seenAt; split <;> omega
        have e : fr d' ≠ to d := by
          intro e; rw [e, upd_eq] at ht; omega
        simp only [gstep, upd_ne e] at hf ⊢
        rw [upd_ne e] at ht
        obtain ⟨c1, c2⟩ := h.sat j d' hj hf ht
        by_cases e2 : to d' = to d
        · have := b2 (e2 ▸ c1)
          rw [e2, upd_eq, upd_eq]; rw [e2] at c2
          exact ⟨rfl, by omega⟩
        · rw [upd_ne e2, upd_ne e2]; exact ⟨c1, c2⟩
  · rw [if_neg hb, if_neg hb]
    refine ⟨fun v => by have := h.le v; omega, h.zero, h.pos, fun j d' hj hf ht => ?_⟩
    by_cases hjk : j = k
    · subst hjk
      rw [hd] at hj; cases hj
      exact not_better (by simpa using hb) hf
    · have hs : seenAt ds.length r (k + 1) j = seenAt ds.length r k j := by
        unfold seenAt
        by_cases hjl : j < k
        · rw [if_pos hjl, if_pos (by omega)]
        · rw [if_neg hjl, if_neg (by omega)]
      exact h.sat j d' hj hf (hs ▸ ht)
theorem InvT.part {ds : List Df} {s : Gs} {T : Nat → Nat} {r : Nat} (h : InvT ds s T r 0) : ∀ k, k ≤ ds.length → InvT ds (part ds s k).1 (partT ds s T (r * ds.length) k) r k
  | 0, _ => h
  | k + 1, hk => by
    have ih := InvT.part h k (by omega)
    have hd : ds[k]? = some ds[k] := List.getElem?_eq_getElem (by omega)
    have := ih.step hd
    rw [part_succ hd, partT_succ hd]
    split <;> rename_i hb <;> simpa only [hb, if_true, if_false, Bool.false_eq_true] using this
theorem InvT.round {ds : List Df} {s : Gs} {T : Nat → Nat} {r : Nat} (h : InvT ds s T r ds.length) : InvT ds s T (r + 1) 0 := by
  have e : (r + 1) * ds.length = r * ds.length + ds.length := Nat.succ_mul ..
  refine ⟨fun v => by have := h.le v; omega, h.zero, h.pos, fun j d hj hf ht => h.sat j d hj hf ?_⟩
  have hjm : j < ds.length := (List.getElem?_eq_some_iff.1 hj).1
  unfold seenAt at ht ⊢
  rw [if_neg (by omega)] at ht
  rw [if_pos hjm]; omega
theorem InvT.start {ds : List Df} {s : Gs} (hl : ∀ v, s.last v = -1) : InvT ds s (fun _ => 0) 0 0 :=
  ⟨fun _ => Nat.zero_le _, fun v _ => hl v, fun _ h => by omega, fun j d hj hf ht => by
    have hjm : j < ds.length := (List.getElem?_eq_some_iff.1 hj).1
    unfold seenAt at ht
    rw [if_neg (by omega)] at ht; omega⟩
theorem InvT.iter {ds : List Df} {s : Gs} (hl : ∀ v, s.last v = -1) : ∀ r, InvT ds (iter ds s r) (iterT ds s r) r 0
  | 0 => .start hl
  | r + 1 => ((InvT.iter hl r).part _ (Nat.le_refl _)).round
theorem partT_new {ds : List Df} {s : Gs} {T : Nat → Nat} {t : Nat} (hT : ∀ v, T v ≤ t) : ∀ k, 0 ≤ (part ds s k).2 → t < partT ds s T t k (part ds s k).2.toNat ∧ ∃ d, d ∈ ds ∧ (part ds s k).2 = d.2.1
  | 0, h => by simp [part] at h
  | k + 1, h => by
    cases hd : ds[k]? with
    | none =>
      have e : part ds s (k + 1) = part ds s k := by conv => lhs; unfold part; rw [hd]
      have e' : partT ds s T t (k + 1) = partT ds s T t k := by conv => lhs; unfold partT; rw [hd]
      rw [e] at h ⊢; rw [e']
      exact partT_new hT k h
    | some d =>
      rw [part_succ hd] at h ⊢; rw [partT_succ hd]
      by_cases hb : better (part ds s k).1 d = true
      · rw [if_pos hb, if_pos hb]
        refine ⟨?_, d, List.mem_of_getElem? hd, rfl⟩
        show t < upd _ (to d) _ (to d)
        rw [upd_eq]; omega
      · rw [if_neg hb] at h
        rw [if_neg hb, if_neg hb]
        exact partT_new hT k h
theorem bk_late {ds : List Df} {s : Gs} {T : Nat → Nat} {r k : Nat} (h : InvT ds s T r k) : ∀ i a, (i - 1) * ds.length < T a ∨ i = 0 → 0 ≤ bk ds s i a
  | 0, a, _ => by simp [bk]
  | i + 1, a, ha => by
    have hpos : 0 < T a := by rcases ha with h | h <;> omega
    obtain ⟨j, d, p1, p2, p3, p4, p5, p6, p7⟩ := h.pos a hpos
    unfold bk
    rw [if_neg (by omega)]
    have hp : pre ds s a = fr d := by unfold pre; rw [p1]; simp only [Int.toNat_natCast, p2]
    rw [hp]
    refine bk_late h i _ ?_
    cases i with
    | zero => exact .inr rfl
    | succ i =>
      left
      have ha : (i + 1) * ds.length < T a := by rcases ha with h | h; simpa using h; omega
      have e : (i + 1) * ds.length = i * ds.length + ds.length := Nat.succ_mul ..
      have := p7 (by omega)
      simp only [Nat.add_sub_cancel]; omega
theorem late_loops {ds : List Df} {s : Gs} (hl : ∀ v, s.last v = -1) {n r : Nat} (hr : n ≤ r + 1) (h : 0 ≤ chg ds s r) : 0 ≤ bk ds (iter ds s (r + 1)) n (chg ds s r).toNat := by
  have hi := InvT.iter (ds := ds) hl r
  have := (partT_new (ds := ds) (s := iter ds s r) (T := iterT ds s r) (t := r * ds.length) (fun v => by have := hi.le v; omega) ds.length h).1
  refine bk_late (InvT.iter hl (r + 1)) n _ (.inl ?_)
  have e : (n - 1) * ds.length ≤ r * ds.length := Nat.mul_le_mul_right _ (by omega)
  show (n - 1) * ds.length < partT ds (iter ds s r) (iterT ds s r) (r * ds.length) ds.length (chg ds s r).toNat
  exact Nat.lt_of_le_of_lt e this
-- no way back to itself where labels can be calm
structure InvF (ds : List Df) (R : Nat → Prop) (φ : Nat → Int) (s : Gs) (T : Nat → Nat) : Prop where
  in_ : ∀ v, s.has v = true → R v
  down : ∀ v (j : Nat) (d : Df), 0 < T v → s.last v = j → ds[j]? = some d → s.long (fr d) - φ (fr d) ≤ s.long v - φ v ∧ (s.long (fr d) - φ (fr d) = s.long v - φ v → T (fr d) < T v)
theorem InvF.step {ds : List Df} {R : Nat → Prop} {φ : Nat → Int} (hc : Calm ds R φ) {s : Gs} {T : Nat → Nat} {r k : Nat} {d : Df} (hd : ds[k]? = some d) (h : InvT ds s T r k) (hF : InvF ds R φ s T) :
    InvF ds R φ (if better s d then gstep s k d else s) (if better s d then upd T (to d) (r * ds.length + k + 1) else T) := by
  by_cases hb : better s d = true
  · rw [if_pos hb, if_pos hb]
    obtain ⟨b1, b2⟩ := better_iff.1 hb
    have hR := hc d (List.mem_of_getElem? hd) (hF.in_ _ b1)
    have hne : fr d ≠ to d := by
      intro e
      have := b2 (e ▸ b1)
      rw [e] at this hR; omega
    constructor
    · intro v hv
      by_cases e : v = to d
      · subst e; exact hR.1
      · simp only [gstep, upd_ne e] at hv; exact hF.in_ v hv
    · intro v j d' hv hj hjd
      by_cases e : v = to d
      · subst e
        simp only [gstep, upd_eq] at hj
        have : j = k := by omega
        subst this
        rw [hd] at hjd; cases hjd
        simp only [gstep, upd_eq, upd_ne hne]
        have := h.le (fr d)
        exact ⟨by omega, fun _ => by omega⟩
      · rw [upd_ne e] at hv
        simp only [gstep, upd_ne e] at hj
        obtain ⟨q1, q2⟩ := hF.down v j d' hv hj hjd
        by_cases e' : fr d' = to d
        · obtain ⟨j', d'', p1, p2, p3, p4, p5, p6, p7⟩ := h.pos v hv
          have : j' = j := by omega
          subst this
          rw [hjd] at p2; cases p2
          rw [e'] at p4 q1
          have := b2 p4
          simp only [gstep, upd_ne e, e', upd_eq]
          exact ⟨by omega, fun h => by omega⟩
        · simp only [gstep, upd_ne e, upd_ne e']; exact ⟨q1, q2⟩
  · rw [if_neg hb, if_neg hb]; exact hF
theorem InvF.part {ds : List Df} {R : Nat → Prop} {φ : Nat → Int} (hc : Calm ds R φ) {s : Gs} {T : Nat → Nat} {r : Nat} (h : InvT ds s T r 0) (hF : InvF ds R φ s T) : ∀ k, k ≤ ds.length → InvF ds R φ (part ds s k).1 (partT ds s T (r * ds.length) k)
  | 0, _ => hF
  | k + 1, hk => by
    have ih := InvF.part hc h hF k (by omega)
    have hd : ds[k]? = some ds[k] := List.getElem?_eq_getElem (by omega)
    have := ih.step hc hd (h.part k (by omega))
    rw [part_succ hd, partT_succ hd]
    split <;> rename_i hb <;> simpa only [hb, if_true, if_false, Bool.false_eq_true] using this
theorem InvF.iter {ds : List Df} {R : Nat → Prop} {φ : Nat → Int} (hc : Calm ds R φ) {s : Gs} (hl : ∀ v, s.last v = -1) (hS : ∀ v, s.has v = true → R v) : ∀ r, InvF ds R φ (iter ds s r) (iterT ds s r)
  | 0 => ⟨hS, fun _ _ _ h => by simp [iterT] at h⟩
  | r + 1 => (InvF.iter hc hl hS r).part hc (InvT.iter hl r) _ (Nat.le_refl _)
theorem nodup_lt : ∀ (n : Nat) (l : List Nat), l.Nodup → (∀ x, x ∈ l → x < n) → l.length ≤ n
  | 0, l, _, h => by
    cases l with
    | nil => exact Nat.le_refl _
    | cons a l => exact absurd (h a (by simp)) (by omega)
  | n + 1, l, hn, h => by
    by_cases hm : n ∈ l
    · have := nodup_lt n (l.erase n) (hn.erase n) fun x hx => by
        have h1 := h x (List.mem_of_mem_erase hx)
        have h2 : x ≠ n := fun e => by subst e; exact (hn.mem_erase_iff.1 hx).1 rfl
        omega
      rw [List.length_erase_of_mem hm] at this; omega
    · have := nodup_lt n l hn fun x hx => by
        have h1 := h x hx
        have h2 : x ≠ n := fun e => hm (e ▸ hx)
        omega
      omega
theorem bk_chain {ds : List Df} {R : Nat → Prop} {φ : Nat → Int} {s : Gs} {T : Nat → Nat} {r k n : Nat} (hn : ∀ d, d ∈ ds → fr d < n) (h : InvT ds s T r k) (hF : InvF ds R φ s T) : ∀ i a, 0 ≤ bk ds s i a → ∃ l : List Nat, l.length = i ∧ l.Nodup ∧ ∀ x, x ∈ l → x < n ∧ s.long x - φ x ≤ s.long a - φ a ∧ (s.long x - φ x = s.long a - φ a → T x < T a)
  | 0, a, _ => ⟨[], rfl, .nil, fun _ h => by cases h⟩
  | i + 1, a, ha => by
    unfold bk at ha
    split at ha
    · omega
    · rename_i hl
      have hT : 0 < T a := by
        rcases Nat.eq_zero_or_pos (T a) with e | e
        · have := h.zero a e; omega
        · exact e
      obtain ⟨j, d, p1, p2, p3, p4, p5, p6, p7⟩ := h.pos a hT
      have hp : pre ds s a = fr d := by unfold pre; rw [p1]; simp only [Int.toNat_natCast, p2]
      rw [hp] at ha
      obtain ⟨q1, q2⟩ := hF.down a j d hT p1 p2
      obtain ⟨l, l1, l2, l3⟩ := bk_chain hn h hF i (fr d) ha
      refine ⟨fr d :: l, by simp [l1], List.nodup_cons.2 ⟨fun hm => ?_, l2⟩, fun x hx => ?_⟩
      · have := (l3 _ hm).2.2 rfl; omega
      · rcases List.mem_cons.1 hx with rfl | hx
        · exact ⟨hn d (List.mem_of_getElem? p2), q1, q2⟩
        · obtain ⟨c1, c2, c3⟩ := l3 x hx
          refine ⟨c1, by omega, fun e => ?_⟩
          have := c3 (by omega); have := q2 (by omega); omega
theorem calm_no_loop {ds : List Df} {R : Nat → Prop} {φ : Nat → Int} (hc : Calm ds R φ) {s : Gs} (hl : ∀ v, s.last v = -1) (hS : ∀ v, s.has v = true → R v) {n : Nat} (hn : ∀ d, d ∈ ds → fr d < n) {a : Nat} (ha : a < n) (r : Nat) : bk ds (iter ds s r) n a < 0 := by
  rcases Int.lt_or_le (bk ds (iter ds s r) n a) 0 with h | h
  · exact h
  · obtain ⟨l, l1, l2, l3⟩ := bk_chain hn (InvT.iter hl r) (InvF.iter hc hl hS r) n a h
    have hnd : (a :: l).Nodup := List.nodup_cons.2 ⟨fun hm => by have := (l3 a hm).2.2 rfl; omega, l2⟩
    have := nodup_lt n (a :: l) hnd fun x hx => by
      rcases List.mem_cons.1 hx with rfl | hx
      · exact ha
      · exact (l3 x hx).1
    simp only [List.length_cons, l1] at this; omega
-- both ways of growing
structure Fit (ds : List Df) (n : Nat) : Prop where
  ge1 : ∀ d, d ∈ ds → 0 ≤ d.1
  ge : ∀ d, d ∈ ds → 0 ≤ d.2.1
  fr : ∀ d, d ∈ ds → fr d < n
  to : ∀ d, d ∈ ds → to d < n
theorem chg_lt {ds : List Df} {n : Nat} (hf : Fit ds n) {s : Gs} {r : Nat} (h : 0 ≤ chg ds s r) : (chg ds s r).toNat < n := by
  obtain ⟨d, hd, e⟩ := (partT_new (ds := ds) (s := iter ds s r) (T := fun _ => 0) (t := 0) (fun _ => Nat.le_refl _) ds.length h).2
  have := hf.to d hd
  unfold chg; rw [e]; exact this
theorem lenR_ok {ds : List Df} {s t : Gs} : ∀ f r, lenR ds s f r = (t, true) → ∃ q, r ≤ q ∧ q < r + f ∧ chg ds s q < 0 ∧ t = iter ds s (q + 1) ∧ ∀ p, r ≤ p → p < q → 0 ≤ chg ds s p
  | 0, r, h => by simp [lenR] at h
  | f + 1, r, h => by
    unfold lenR at h
    split at h
    · cases h; exact ⟨r, Nat.le_refl _, by omega, ‹_›, rfl, fun p _ _ => by omega⟩
    · obtain ⟨q, q1, q2, q3, q4, q5⟩ := lenR_ok f (r + 1) h
      refine ⟨q, by omega, by omega, q3, q4, fun p h1 h2 => ?_⟩
      by_cases e : p = r
      · subst e; omega
      · exact q5 p (by omega) h2
theorem lenR_bad {ds : List Df} {s : Gs} : ∀ f r, (lenR ds s f r).2 = false → (∀ p, r ≤ p → p < r + f → 0 ≤ chg ds s p) ∧ (lenR ds s f r).1 = iter ds s (r + f)
  | 0, r, _ => ⟨fun p _ _ => by omega, rfl⟩
  | f + 1, r, h => by
    unfold lenR at h ⊢
    split at h
    · cases h
    · rename_i hc
      rw [if_neg hc]
      obtain ⟨h1, h2⟩ := lenR_bad f (r + 1) h
      refine ⟨fun p a b => ?_, by rw [h2]; congr 1; omega⟩
      by_cases e : p = r
      · subst e; omega
      · exact h1 p (by omega) (by omega)
theorem grow_go {ds : List Df} {n : Nat} {s : Gs} : ∀ f r q, r ≤ q → q < r + f → (∀ p, r ≤ p → p < q → 0 ≤ chg ds s p ∧ bk ds (iter ds s (p + 1)) n (chg ds s p).toNat < 0) → chg ds s q < 0 → growR ds n s f r = (iter ds s (q + 1), -1)
  | 0, r, q, h1, h2, _, _ => by omega
  | f + 1, r, q, h1, h2, h3, h4 => by
    unfold growR
    by_cases e : r = q
    · subst e; rw [if_pos h4]
    · obtain ⟨a, b⟩ := h3 r (Nat.le_refl _) (by omega)
      rw [if_neg (by omega), if_neg (by omega)]
      exact grow_go f (r + 1) q (by omega) (by omega) (fun p h h' => h3 p (by omega) h') h4
theorem grow_ok {ds : List Df} {n : Nat} (hn : 0 < n) (hf : Fit ds n) {s t : Gs} (hl : ∀ v, s.last v = -1) (h : lenR ds s (n + 1) 0 = (t, true)) : growR ds n s n 0 = (t, -1) ∧ Calm ds (fun v => t.has v = true) t.long ∧ ∃ q, t = iter ds s q ∧ q ≤ n := by
  obtain ⟨q, q1, q2, q3, rfl, q5⟩ := lenR_ok _ _ h
  obtain ⟨c1, c2⟩ := chg_calm hf.ge q3
  have hS : ∀ v, s.has v = true → (iter ds s q).has v = true := fun v hv => (falls (ds := ds) ⟨hv, Int.le_refl _⟩ q).1
  have nl : ∀ p, 0 ≤ chg ds s p → bk ds (iter ds s (p + 1)) n (chg ds s p).toNat < 0 := fun p hp => calm_no_loop c2 hl hS hf.fr (chg_lt hf hp) _
  have hq : q < n := by
    rcases Nat.lt_or_ge q n with h | h
    · exact h
    · have h1 := q5 (n - 1) (by omega) (by omega)
      have := late_loops (ds := ds) hl (n := n) (r := n - 1) (by omega) h1
      have := nl _ h1; omega
  refine ⟨grow_go n 0 q (by omega) (by omega) (fun p _ hp => ⟨q5 p (by omega) hp, nl p (q5 p (by omega) hp)⟩) q3, by rw [c1]; exact c2, q, c1, by omega⟩
theorem grow_bad {ds : List Df} {n : Nat} (hn : 0 < n) {s : Gs} (hl : ∀ v, s.last v = -1) : ∀ f r, r + f = n → (∀ p, r ≤ p → p < n → 0 ≤ chg ds s p) → 0 < f → ∃ q, r ≤ q ∧ q < n ∧ 0 ≤ chg ds s q ∧ 0 ≤ bk ds (iter ds s (q + 1)) n (chg ds s q).toNat ∧ growR ds n s f r = (iter ds s (q + 1), bk ds (iter ds s (q + 1)) n (chg ds s q).toNat)
  | 0, r, _, _, h => by omega
  | f + 1, r, h1, h2, _ => by
    unfold growR
    have hc := h2 r (Nat.le_refl _) (by omega)
    rw [if_neg (by omega)]
    by_cases hb : 0 ≤ bk ds (iter ds s (r + 1)) n (chg ds s r).toNat
    · rw [if_pos hb]; exact ⟨r, Nat.le_refl _, by omega, hc, hb, rfl⟩
    · rw [if_neg hb]
      rcases Nat.eq_zero_or_pos f with e | e
      · subst e
        exact absurd (late_loops hl (by omega) hc) hb
      · obtain ⟨q, q1, q2, q3⟩ := grow_bad hn hl f (r + 1) (by omega) (fun p a b => h2 p (by omega) b) e
        exact ⟨q, by omega, q2, q3⟩
end Go.Proofs.Ytepnijjgdhldeaa
/- How great labels become, and where marks lead. -/
namespace Go.Proofs.Ytepnijjgdhldeaa
structure Good (n : Nat) (ds : List Df) : Prop where
  pos : 0 < n
  small : n ≤ 20
  len : ds.length ≤ 8192
  fit : Fit ds n
  w : ∀ d, d ∈ ds → -1073741824 ≤ d.2.2 ∧ d.2.2 ≤ 1073741824
theorem part_bound {ds : List Df} (hw : ∀ d, d ∈ ds → -1073741824 ≤ d.2.2 ∧ d.2.2 ≤ 1073741824) {s : Gs} {c : Nat} (h : ∀ v, -(1073741824 * (c : Int)) ≤ s.long v ∧ s.long v ≤ 1073741824 * (c : Int)) : ∀ (k : Nat) v, -(1073741824 * ((c + k : Nat) : Int)) ≤ (part ds s k).1.long v ∧ (part ds s k).1.long v ≤ 1073741824 * ((c + k : Nat) : Int)
  | 0, v => h v
  | k + 1, v => by
    have ih := part_bound hw h k
    cases hd : ds[k]? with
    | none =>
      have e : part ds s (k + 1) = part ds s k := by conv => lhs; unfold part; rw [hd]
      rw [e]; have := ih v; omega
    | some d =>
      rw [part_succ hd]
      split
      · have h1 := ih (fr d)
        have h2 := hw d (List.mem_of_getElem? hd)
        by_cases e : v = to d
        · subst e; simp only [gstep, upd_eq]; omega
        · simp only [gstep, upd_ne e]; have := ih v; omega
      · have := ih v; omega
theorem iter_bound {ds : List Df} (hw : ∀ d, d ∈ ds → -1073741824 ≤ d.2.2 ∧ d.2.2 ≤ 1073741824) {s : Gs} (h : ∀ v, s.long v = 0) : ∀ (r : Nat) v, -(1073741824 * ((r * ds.length : Nat) : Int)) ≤ (iter ds s r).long v ∧ (iter ds s r).long v ≤ 1073741824 * ((r * ds.length : Nat) : Int)
  | 0, v => by simp [iter, h v]
  | r + 1, v => by
    have := part_bound hw (c := r * ds.length) (iter_bound hw h r) ds.length v
    rw [show (r + 1) * ds.length = r * ds.length + ds.length from Nat.succ_mul ..]
    exact this
def Led (ds : List Df) (s : Gs) : Prop := ∀ v, s.last v = -1 ∨ ∃ (j : Nat) (d : Df), s.last v = j ∧ ds[j]? = some d
theorem led_step {ds : List Df} {s : Gs} {k : Nat} {d : Df} (hd : ds[k]? = some d) (h : Led ds s) : Led ds (gstep s k d) := by
  intro v
  by_cases e : v = to d
  · subst e; right; exact ⟨k, d, by simp only [gstep, upd_eq], hd⟩
  · simp only [gstep, upd_ne e]; exact h v
theorem led_iter {ds : List Df} {s : Gs} (h : ∀ v, s.last v = -1) (r : Nat) : Led ds (iter ds s r) :=
  iter_inv (P := Led ds) (fun v => .inl (h v)) (fun _ _ _ hd _ h => led_step hd h) r
theorem led_part {ds : List Df} {s : Gs} (h : Led ds s) (k : Nat) : Led ds (part ds s k).1 :=
  part_inv (P := Led ds) h (fun _ _ _ hd _ h => led_step hd h) k
/-- From these nodes on. -/
def startL (S : Nat → Bool) : Gs := ⟨fun _ => 0, S, fun _ => -1⟩
/-- A node is one, or none. -/
theorem chg_node {ds : List Df} {n : Nat} (hf : Fit ds n) {s : Gs} : ∀ k, (part ds s k).2 = -1 ∨ ∃ c : Nat, c < n ∧ (part ds s k).2 = c
  | 0 => .inl rfl
  | k + 1 => by
    cases hd : ds[k]? with
    | none =>
      have e : part ds s (k + 1) = part ds s k := by conv => lhs; unfold part; rw [hd]
      rw [e]; exact chg_node hf k
    | some d =>
      rw [part_succ hd]
      split
      · have hm := List.mem_of_getElem? hd
        exact .inr ⟨to d, hf.to d hm, (Int.toNat_of_nonneg (hf.ge d hm)).symm⟩
      · exact chg_node hf k
theorem growR_iter {ds : List Df} {n : Nat} {s : Gs} : ∀ f r, ∃ q, q ≤ r + f ∧ (growR ds n s f r).1 = iter ds s q
  | 0, r => ⟨r, by omega, rfl⟩
  | f + 1, r => by
    unfold growR
    split
    · exact ⟨r + 1, by omega, rfl⟩
    · split
      · exact ⟨r + 1, by omega, rfl⟩
      · obtain ⟨q, h1, h2⟩ := growR_iter f (r + 1)
        exact ⟨q, by omega, h2⟩
theorem grown_bound {ds : List Df} {n : Nat} (hg : Good n ds) {s : Gs} (h : ∀ v, s.long v = 0) (v : Nat) : -175921860444160 ≤ (growR ds n s n 0).1.long v ∧ (growR ds n s n 0).1.long v ≤ 175921860444160 := by
  obtain ⟨q, h1, h2⟩ := growR_iter (ds := ds) (n := n) (s := s) n 0
  rw [h2]
  have := iter_bound hg.w h q v
  have hm : q * ds.length ≤ 20 * 8192 := Nat.mul_le_mul (by have := hg.small; omega) hg.len
  omega
end Go.Proofs.Ytepnijjgdhldeaa
namespace Go.Proofs.Ytepnijjgdhldeaa
open Go.Awp
set_option linter.unusedSimpArgs false
set_option linter.unusedVariables false
set_option maxRecDepth 10000
-- lists of a state
def li (n : Nat) (f : Nat → Int) : List Int := (List.range n).map f
def lb (n : Nat) (f : Nat → Bool) : List Bool := (List.range n).map f
theorem li_length {n : Nat} {f : Nat → Int} : (li n f).length = n := by simp [li]
theorem lb_length {n : Nat} {f : Nat → Bool} : (lb n f).length = n := by simp [lb]
theorem li_get {n : Nat} {f : Nat → Int} {k : Nat} (h : k < n) : (ic (li n f))[k]? = some [I (f k)] := by simp [ic, li, h]
theorem lb_get {n : Nat} {f : Nat → Bool} {k : Nat} (h : k < n) : (bc (lb n f))[k]? = some [.bool (f k)] := by simp [bc, lb, h]
theorem range_set {α : Type} {n : Nat} {f : Nat → α} {k : Nat} {v : α} : ((List.range n).map f).set k v = (List.range n).map (upd f k v) := by
  apply List.ext_getElem?
  intro i
  rw [List.getElem?_set]
  by_cases hk : k = i
  · subst hk
    by_cases hn : k < n
    · simp [hn, upd]
    · simp [hn]
  · rw [if_neg hk]
    simp only [List.getElem?_map]
    by_cases hn : i < n
    · rw [List.getElem?_range hn]
      simp only [Option.map_some, upd, if_neg (Ne.symm hk)]
    · rw [List.getElem?_eq_none (by simpa using hn)]; rfl
theorem li_set {n : Nat} {f : Nat → Int} {k : Nat} {v : Int} : (ic (li n f)).set k [I v] = ic (li n (upd f k v)) := by
  rw [ic_set]; simp only [li, range_set]
theorem bc_set {xs : List Bool} {k : Nat} {v : Bool} : (bc xs).set k [.bool v] = bc (xs.set k v) := by simp [bc, List.map_set]
theorem lb_set {n : Nat} {f : Nat → Bool} {k : Nat} {v : Bool} : (bc (lb n f)).set k [.bool v] = bc (lb n (upd f k v)) := by
  rw [bc_set]; simp only [lb, range_set]
-- the graph that a net is
structure IsGraph (t : TypeId) (v : AV) (n : Int) (ds : List Df) : Prop where
  nodes : ∃ f v', amethod Try.prog t "snowline/diffs.nodes" = some f ∧ PCall Try.prog f [v'] (I n) ∧ ∀ H : AHeap, carL (carry false H 4) [v] = some [v']
  lines : ∃ f, amethod Try.prog t "snowline/diffs.lines" = some f ∧ ∀ H : AHeap, ACall Try.prog f [v] H fun r H' => (∃ X, H' = H ++ X) ∧ ∃ b, r = .ro b (rows ds)
theorem lines150 (n : Int) (b : Bool) (ds : List Df) (H : AHeap) : ACall Try.prog 150 [.agg [I n, .ro b (rows ds)]] H fun r H' => (∃ X, H' = H ++ X) ∧ ∃ b, r = .ro b (rows ds) := by
  refine ACall.intro text150 (by simp) ?_
  unfold ir150
  simp only [walk, wl, rgets, retv, argsEnv, ev, cst, cst1, cstL, AEnv.get, AEnv.trim, envput, qstep, abin, aun, evs, evo, deref, qload, target, if_true, if_false, Nat.reduceEqDiff, reduceIte, Nat.reduceAdd, AV.cells, AV.isTuple, setMany, alen, aiaddr, afill, Nat.reduceLeDiff, Nat.reduceMul, Nat.reduceLT, afillE, List.replicate]
  exact ⟨⟨_, rfl⟩, _, rfl⟩
theorem nodes151 (n : Int) (ds : List Df) : PCall Try.prog 151 [.agg [I n, .ro false (rows ds)]] (I n) := by
  refine PCall.intro text151 (by simp) ?_
  unfold ir151
  simp only [walk, wl, rgets, retv, argsEnv, ev, cst, cst1, cstL, AEnv.get, AEnv.trim, envput, qstep, abin, aun, evs, evo, deref, qload, target, if_true, if_false, Nat.reduceEqDiff, reduceIte, Nat.reduceAdd, AV.cells, AV.isTuple, setMany, alen, aiaddr, afill, Nat.reduceLeDiff, Nat.reduceMul, Nat.reduceLT, afillE, List.replicate]
  exact out_int
theorem plain_graph (n : Int) (b : Bool) (ds : List Df) : IsGraph 102 (.agg [I n, .ro b (rows ds)]) n ds :=
  ⟨⟨151, _, by kernel_rfl, nodes151 n ds, fun H => carL_cons car_netF rfl⟩, ⟨150, by kernel_rfl, lines150 n b ds⟩⟩
-- rows of -1
def xrep (n : Nat) : Bool :=
  match xcall xt xm 100 10 120 [.ro false [[I (-1)]], I n] [] with
  | some (.own h ver i len, H') => Nat.beq ver n && (Nat.beq i 0 && (Nat.beq len n && (match AHeap.obj H' h with
    | some o => Nat.beq o.e 3 && (Nat.beq o.s 1 && rowsEq o.elems (List.replicate n [I (-1)]))
    | none => false)))
  | _ => false
theorem xrep_all : ((List.range 20).all fun k => xrep (k + 1)) = true := by kernel_rfl
theorem repeat_ok {n : Nat} (h1 : 1 ≤ n) (h2 : n ≤ 20) : NCall Try.prog 120 [.ro false (ic [-1]), I n] 3 1 (ic (li n fun _ => -1)) := by
  have key : xrep n = true := by
    have := List.all_eq_true.1 xrep_all (n - 1) (List.mem_range.2 (by omega))
    rwa [show n - 1 + 1 = n by omega] at this
  have hel : List.replicate n [I (-1)] = ic (li n fun _ => -1) := by
    simp [ic, li, List.map_const']
  refine ACall.ncall (ic_sim _) ?_
  unfold xrep at key
  split at key
  · rename_i h ver i len H' hx
    simp only [Bool.and_eq_true] at key
    obtain ⟨k1, k2, k3, key⟩ := key
    split at key
    · rename_i o ho
      simp only [Bool.and_eq_true] at key
      obtain ⟨k4, k5, k6⟩ := key
      have e1 := Nat.eq_of_beq_eq_true k1
      have e2 := Nat.eq_of_beq_eq_true k2
      have e3 := Nat.eq_of_beq_eq_true k3
      have e4 := Nat.eq_of_beq_eq_true k4
      have e5 := Nat.eq_of_beq_eq_true k5
      have e6 := rowsEq_sound k6
      refine (xcall_ok xt_ok xm_ok _ _ _ _ _ _ hx).mono fun x G hxg => ?_
      obtain ⟨rfl, rfl⟩ := hxg
      rw [hel] at e6
      refine ⟨h, ?_, ?_⟩
      · rw [e1, e2, e3, ic_length, li_length]
      · rw [ho, ← e6]
        obtain ⟨oe, os, oel⟩ := o
        simp only at e4 e5
        rw [e4, e5]
    · cases key
  · cases key
end Go.Proofs.Ytepnijjgdhldeaa
namespace Go.Proofs.Ytepnijjgdhldeaa
open Go.Awp
set_option linter.unusedSimpArgs false
set_option linter.unusedVariables false
set_option maxRecDepth 10000
theorem walkS : type_of% walk.2 := walk.2
-- stores whose object is told
theorem store_gen {s : Nat} {g : Bool} {x v : Operand} {env : AEnv} {H : AHeap} {h ver i j : Nat} {o : AObj} {e : List AV} {y : AV} {K : AHeap → Prop} (hx : ev env x = some (.ptr h ver i j)) (hv : ev env v = some y) (ho : AHeap.obj H h = some o) (he : o.elems[i]? = some e)
    (hok : ver = o.elems.length ∧ y.cells.length = s ∧ y.isTuple = false ∧ j + s ≤ e.length) (hk : ∀ H' : AHeap, H'.length = H.length → AHeap.obj H' h = some { o with elems := o.elems.set i (setMany e j y.cells) } → (∀ q, q ≠ h → AHeap.obj H' q = AHeap.obj H q) → K H') :
    ∃ H', sstep (.store s g x v) env H = some (none, H') ∧ K H' := by
  refine ⟨H.set h (some { o with elems := o.elems.set i (setMany e j y.cells) }), ?_, hk _ (by simp) (AHeap.obj_set_eq (AHeap.obj_lt ho)) fun q hq => AHeap.obj_set_ne (Ne.symm hq)⟩
  rw [sstep_store, hx, hv]
  simp only [ho, he]
  rw [if_pos hok]
theorem storeR {s : Nat} {g : Bool} {x v : Operand} {env : AEnv} {H : AHeap} {h ver i j : Nat} {o : AObj} {e : List AV} {y : AV} {K : AV → AHeap → Prop} (hx : ev env x = some (.ptr h ver i j)) (hv : ev env v = some y) (ho : AHeap.obj H h = some o) (he : o.elems[i]? = some e)
    (hok : ver = o.elems.length ∧ y.cells.length = s ∧ y.isTuple = false ∧ j + s ≤ e.length) (hk : ∀ H' : AHeap, H'.length = H.length → AHeap.obj H' h = some { o with elems := o.elems.set i (setMany e j y.cells) } → (∀ q, q ≠ h → AHeap.obj H' q = AHeap.obj H q) → K (.tuple []) H') :
    withRes (sstep (.store s g x v) env H) K := by
  obtain ⟨H', e1, e2⟩ := store_gen (K := fun H' => K (.tuple []) H') hx hv ho he hok hk
  rw [e1]; exact e2
theorem storeW {s : Nat} {g : Bool} {x v : Operand} {env : AEnv} {H : AHeap} {h ver i j : Nat} {o : AObj} {e : List AV} {y : AV} {K : AV → AHeap → Prop} (hx : ev env x = some (.ptr h ver i j)) (hv : ev env v = some y) (ho : AHeap.obj H h = some o) (he : o.elems[i]? = some e)
    (hok : ver = o.elems.length ∧ y.cells.length = s ∧ y.isTuple = false ∧ j + s ≤ e.length) (hk : ∀ H' : AHeap, H'.length = H.length → AHeap.obj H' h = some { o with elems := o.elems.set i (setMany e j y.cells) } → (∀ q, q ≠ h → AHeap.obj H' q = AHeap.obj H q) → K (.tuple []) H') :
    withW (sstep (.store s g x v) env H) K := by
  obtain ⟨H', e1, e2⟩ := store_gen (K := fun H' => K (.tuple []) H') hx hv ho he hok hk
  rw [e1]; exact e2
theorem car_ownN {out : Bool} {H : AHeap} {d h n e s : Nat} {els : List (List AV)} (ho : AHeap.obj H h = some ⟨e, s, els⟩) (hn : els.length = n) (hl : Simple els) : carry out H (d + 2) (.own h n 0 n) = some (.ro out els) := by
  subst hn; exact car_own (o := ⟨e, s, els⟩) ho hl
theorem all112 {t : TypeId} {v : AV} {n : Nat} {ds : List Df} (hg : IsGraph t v n ds) (hn : n ≤ 1048576) : PCall Try.prog 112 [.iface t v] (.ro true (ic (li n fun i => i))) := by
  obtain ⟨f, v', hm, hf, hz⟩ := hg.nodes
  refine PCall.intro text112 (by simp) ?_
  unfold ir112
  simp only [walkS, wl, rgets, retv, argsEnv, ev, cst, cst1, cstL, AEnv.get, AEnv.trim, envput, qstep, abin, aun, evs, evo, deref, qload, target, if_true, if_false, Nat.reduceEqDiff, reduceIte, Nat.reduceAdd, AV.cells, AV.isTuple, setMany, alen, aiaddr, afill, Nat.reduceLeDiff, Nat.reduceMul, Nat.reduceLT, afillE, List.replicate]
  refine acall_invoke rfl rfl hm (call_pure hf (frzL_of' (hz _)) ?_)
  simp only [walkS, wl, rgets, retv, argsEnv, ev, cst, cst1, cstL, AEnv.get, AEnv.trim, envput, qstep, abin, aun, evs, evo, deref, qload, target, if_true, if_false, Nat.reduceEqDiff, reduceIte, Nat.reduceAdd, AV.cells, AV.isTuple, setMany, alen, aiaddr, afill, Nat.reduceLeDiff, Nat.reduceMul, Nat.reduceLT, afillE, List.replicate]
  refine awp_loop (σ := Nat × AV) (fun s => [(3, s.2), (6, I n), (7, I s.1)]) (fun s H => Acc 0 H s.2 3 1 (ic (li s.1 fun i => i))) (fun s => s.1 ≤ n) (fun s => n - s.1) (0, .nilSlice) (Nat.zero_le _) rfl (.inl ⟨rfl, rfl⟩) ?_
  rintro ⟨k, a⟩ H hk hacc
  simp only at hk hacc
  simp only [walkS, wl, rgets, retv, argsEnv, ev, cst, cst1, cstL, AEnv.get, AEnv.trim, envput, qstep, abin, aun, evs, evo, deref, qload, target, if_true, if_false, Nat.reduceEqDiff, reduceIte, Nat.reduceAdd, AV.cells, AV.isTuple, setMany, alen, aiaddr, afill, Nat.reduceLeDiff, Nat.reduceMul, Nat.reduceLT, afillE, List.replicate]
  refine withBool_intro ?_ ?_ <;> intro hb <;> simp only [walkS, wl, rgets, retv, argsEnv, ev, cst, cst1, cstL, AEnv.get, AEnv.trim, envput, qstep, abin, aun, evs, evo, deref, qload, target, if_true, if_false, Nat.reduceEqDiff, reduceIte, Nat.reduceAdd, AV.cells, AV.isTuple, setMany, alen, aiaddr, afill, Nat.reduceLeDiff, Nat.reduceMul, Nat.reduceLT, afillE, List.replicate]
  · have hlt : k < n := by simpa using hb
    refine acc_append (lo := 0) (by simp) (hacc.push _) rfl rfl AHeap.obj_push_eq (by simp [ic_length, li_length]; omega) fun a' H' hl' hacc' hkeep => ?_
    simp only [walkS, wl, rgets, retv, argsEnv, ev, cst, cst1, cstL, AEnv.get, AEnv.trim, envput, qstep, abin, aun, evs, evo, deref, qload, target, if_true, if_false, Nat.reduceEqDiff, reduceIte, Nat.reduceAdd, AV.cells, AV.isTuple, setMany, alen, aiaddr, afill, Nat.reduceLeDiff, Nat.reduceMul, Nat.reduceLT, afillE, List.replicate]
    rw [wrap_id (by omega) (by omega)]
    refine loop_end (k + 1, a') hlt (by simp only; omega) rfl ?_
    simp only [li, List.range_succ, List.map_append, List.map_cons, List.map_nil, ic_snoc]
    exact hacc'
  · have hk' : k = n := by simp at hb; omega
    subst hk'
    exact hacc.out (ic_simple _)
theorem bk_succ {ds : List Df} {s : Gs} {i a : Nat} : bk ds s (i + 1) a = if s.last a < 0 then -1 else bk ds s i (pre ds s a) := rfl
theorem looped_ok {n : Nat} {ds : List Df} {s : Gs} {a : Nat} {b1 b2 b3 b4 : Bool} (hf : Fit ds n) (hn : n ≤ 1048576) (hd : ds.length ≤ 1048576) (hlast : ∀ v, v < n → s.last v = -1 ∨ ∃ (j : Nat) (d : Df), s.last v = j ∧ ds[j]? = some d) (ha : a < n) :
    PCall Try.prog 121 [.agg [.ro b1 (ic (li n s.long)), .ro b2 (bc (lb n s.has)), .ro b3 (ic (li n s.last))], .ro b4 (rows ds), I a] (I (bk ds s n a)) := by
  refine PCall.intro text121 (by simp) ?_
  unfold ir121
  simp only [walkS, wl, rgets, retv, argsEnv, ev, cst, cst1, cstL, AEnv.get, AEnv.trim, envput, qstep, abin, aun, evs, evo, deref, qload, target, if_true, if_false, Nat.reduceEqDiff, reduceIte, Nat.reduceAdd, AV.cells, AV.isTuple, setMany, alen, aiaddr, afill, Nat.reduceLeDiff, Nat.reduceMul, Nat.reduceLT, afillE, List.replicate, ic_length, li_length]
  refine awp_loop (σ := Nat × Nat) (fun q => [(1, .ro b4 (rows ds)), (2, I q.2), (3, .ptr 0 1 0 0), (9, I n), (10, I q.1)])
    (fun _ H => ∃ X, H = some ⟨88, 3, [[.ro b1 (ic (li n s.long)), .ro b2 (bc (lb n s.has)), .ro b3 (ic (li n s.last))]]⟩ :: X) (fun q => q.1 ≤ n ∧ q.2 < n ∧ bk ds s (n - q.1) q.2 = bk ds s n a) (fun q => n - q.1) (0, a) ⟨Nat.zero_le _, ha, rfl⟩ rfl ⟨_, rfl⟩ ?_
  rintro ⟨k, c⟩ H ⟨hk, hc, hbk⟩ ⟨X, rfl⟩
  simp only at hk hc hbk
  simp only [walkS, wl, rgets, retv, argsEnv, ev, cst, cst1, cstL, AEnv.get, AEnv.trim, envput, qstep, abin, aun, evs, evo, deref, qload, target, if_true, if_false, Nat.reduceEqDiff, reduceIte, Nat.reduceAdd, AV.cells, AV.isTuple, setMany, alen, aiaddr, afill, Nat.reduceLeDiff, Nat.reduceMul, Nat.reduceLT, afillE, List.replicate]
  refine withBool_intro ?_ ?_ <;> intro hb <;> simp only [walkS, wl, rgets, retv, argsEnv, ev, cst, cst1, cstL, AEnv.get, AEnv.trim, envput, qstep, abin, aun, evs, evo, deref, qload, target, if_true, if_false, Nat.reduceEqDiff, reduceIte, Nat.reduceAdd, AV.cells, AV.isTuple, setMany, alen, aiaddr, afill, Nat.reduceLeDiff, Nat.reduceMul, Nat.reduceLT, afillE, List.replicate]
  · have hlt : k < n := by simpa using hb
    obtain ⟨m, hm⟩ : ∃ m, n - k = m + 1 := ⟨n - k - 1, by omega⟩
    rw [hm, bk_succ] at hbk
    simp only [walkS, wl, rgets, retv, argsEnv, ev, cst, cst1, cstL, AEnv.get, AEnv.trim, envput, qstep, abin, aun, evs, evo, deref, qload, target, if_true, if_false, Nat.reduceEqDiff, reduceIte, Nat.reduceAdd, AV.cells, AV.isTuple, setMany, alen, aiaddr, afill, Nat.reduceLeDiff, Nat.reduceMul, Nat.reduceLT, afillE, List.replicate, ic_length, li_length, li_get hc, if_pos (show (c : Int) < n by omega)]
    refine withBool_intro ?_ ?_ <;> intro hr <;> simp only [walkS, wl, rgets, retv, argsEnv, ev, cst, cst1, cstL, AEnv.get, AEnv.trim, envput, qstep, abin, aun, evs, evo, deref, qload, target, if_true, if_false, Nat.reduceEqDiff, reduceIte, Nat.reduceAdd, AV.cells, AV.isTuple, setMany, alen, aiaddr, afill, Nat.reduceLeDiff, Nat.reduceMul, Nat.reduceLT, afillE, List.replicate]
    · have hneg : s.last c < 0 := by simpa using hr
      rw [if_pos hneg] at hbk
      rw [← hbk]; exact out_int
    · have hneg : ¬ s.last c < 0 := by simpa using hr
      rw [if_neg hneg] at hbk
      obtain ⟨j, d, h1, h2⟩ := (hlast c hc).resolve_left (by omega)
      have hj : j < ds.length := (List.getElem?_eq_some_iff.1 h2).1
      have hdj : (rows ds)[j]? = some (dc d) := by simp [rows, h2]
      have hp : pre ds s c = fr d := by unfold pre; rw [h1]; simp only [Int.toNat_natCast, h2]
      have hmem := List.mem_of_getElem? h2
      have hfr : ((fr d : Nat) : Int) = d.1 := Int.toNat_of_nonneg (hf.ge1 d hmem)
      simp only [walkS, wl, rgets, retv, argsEnv, ev, cst, cst1, cstL, AEnv.get, AEnv.trim, envput, qstep, abin, aun, evs, evo, deref, qload, target, if_true, if_false, Nat.reduceEqDiff, reduceIte, Nat.reduceAdd, AV.cells, AV.isTuple, setMany, alen, aiaddr, afill, Nat.reduceLeDiff, Nat.reduceMul, Nat.reduceLT, afillE, List.replicate, ic_length, li_length, li_get hc, if_pos (show (c : Int) < n by omega), h1, rows_length, if_pos (show (j : Int) < ds.length by omega), hdj, dc]
      rw [wrap_id (by omega) (by omega)]
      refine loop_end (k + 1, fr d) ⟨hlt, hf.fr d hmem, ?_⟩ (by simp only; omega) ?_ ⟨_, rfl⟩
      · simp only; rw [← hbk, hp]; congr 1; omega
      · simp only [hfr]; rfl
  · have hk' : k = n := by simp at hb; omega
    subst hk'
    rw [Nat.sub_self] at hbk
    rw [← hbk]
    exact out_int
end Go.Proofs.Ytepnijjgdhldeaa
