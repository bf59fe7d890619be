/- Plain facts about scales: tests, drifts, turns, histories. -/
import Derived.KernelRfl
set_option linter.unusedVariables false
set_option linter.unusedSimpArgs false
set_option linter.unusedSectionVars false
namespace Go.Grams
set_option linter.unusedSimpArgs false
set_option linter.unusedVariables false
/-- A test: its day, the day on which it was known, the least and the greatest drift. -/
abbrev Tst := Int × Int × Int × Int
def far (a b : Int) : Int := max (a - b) (b - a)
theorem far_nonneg (a b : Int) : 0 ≤ far a b := by unfold far; omega
theorem far_comm (a b : Int) : far a b = far b a := by unfold far; omega
theorem far_self (a : Int) : far a a = 0 := by unfold far; omega
theorem far_tri (a b c : Int) : far a c ≤ far a b + far b c := by unfold far; omega
def okDay (n : Int) : Bool := decide (0 ≤ n ∧ n ≤ 1048576)
def okNo (n : Int) : Bool := decide (0 ≤ n ∧ n ≤ 4095)
def okT (t : Tst) : Bool := decide (0 ≤ t.1 ∧ t.1 ≤ 1048576) && decide (0 ≤ t.2.1 ∧ t.2.1 ≤ 1048576) && decide (t.2.2.1 ≤ t.2.2.2 ∧ -1048576 ≤ t.2.2.1 ∧ t.2.2.2 ≤ 1048576)
def later : List Tst → Bool
  | t :: u :: r => decide (t.2.1 ≤ u.2.1) && later (u :: r)
  | _ => true
def well (no rate : Int) (ts : List Tst) : Bool := okNo no && decide (0 ≤ rate ∧ rate ≤ 1000) && decide (ts.length ≤ 64) && ts.all okT && later ts
/-- Two tests contradict each other. -/
def clash (rate : Int) (t u : Tst) : Bool := decide (rate * far t.1 u.1 < max (t.2.2.1 - u.2.2.2) (u.2.2.1 - t.2.2.2))
def calm (rate : Int) (ts : List Tst) : Prop := ∀ t u, t ∈ ts → u ∈ ts → clash rate t u = false
abbrev Sp := Int × Int
def meet (e f : Sp) : Sp := (max e.1 f.1, min e.2 f.2)
def room (rate : Int) (t : Tst) (on : Int) : Sp := (t.2.2.1 - rate * far t.1 on, t.2.2.2 + rate * far t.1 on)
def drift (rate : Int) (on known : Int) : List Tst → Sp → Sp
  | [], e => e
  | t :: r, e => drift rate on known r (if t.2.1 ≤ known then meet e (room rate t on) else e)
def allS : Sp := (-1048576, 1048576)
def driftV (rate : Int) (ts : List Tst) (on known : Int) : Sp := drift rate on known ts allS
/-- The ends of a drift are those of the start or of a test. -/
theorem drift_ends {rate on known : Int} : ∀ (ts : List Tst) (e : Sp), ((drift rate on known ts e).1 = e.1 ∨ ∃ t, t ∈ ts ∧ t.2.1 ≤ known ∧ (drift rate on known ts e).1 = (room rate t on).1) ∧
      ((drift rate on known ts e).2 = e.2 ∨ ∃ t, t ∈ ts ∧ t.2.1 ≤ known ∧ (drift rate on known ts e).2 = (room rate t on).2) ∧ e.1 ≤ (drift rate on known ts e).1 ∧ (drift rate on known ts e).2 ≤ e.2 ∧
      ∀ t, t ∈ ts → t.2.1 ≤ known → (room rate t on).1 ≤ (drift rate on known ts e).1 ∧ (drift rate on known ts e).2 ≤ (room rate t on).2
  | [], e => by simp [drift]
  | t :: r, e => by
    simp only [drift]
    obtain ⟨h1, h2, h3, h4, h5⟩ := drift_ends (rate := rate) (on := on) (known := known) r (if t.2.1 ≤ known then meet e (room rate t on) else e)
    by_cases h : t.2.1 ≤ known
    · simp only [if_pos h] at h1 h2 h3 h4 h5 ⊢
      obtain ⟨m, hm⟩ : ∃ m, m = meet e (room rate t on) := ⟨_, rfl⟩
      have m1 : m.1 = max e.1 (room rate t on).1 := by rw [hm]; rfl
      have m2 : m.2 = min e.2 (room rate t on).2 := by rw [hm]; rfl
      rw [← hm] at h1 h2 h3 h4 h5 ⊢
      refine ⟨?_, ?_, by omega, by omega, fun u hu hk => ?_⟩
      · rcases h1 with h1 | ⟨u, hu, hk, h1⟩
        · rcases Int.le_total e.1 (room rate t on).1 with h6 | h6
          · exact .inr ⟨t, by simp, h, by omega⟩
          · exact .inl (by omega)
        · exact .inr ⟨u, by simp [hu], hk, h1⟩
      · rcases h2 with h2 | ⟨u, hu, hk, h2⟩
        · rcases Int.le_total e.2 (room rate t on).2 with h6 | h6
          · exact .inl (by omega)
          · exact .inr ⟨t, by simp, h, by omega⟩
        · exact .inr ⟨u, by simp [hu], hk, h2⟩
      · rcases List.mem_cons.1 hu with rfl | hu
        · omega
        · exact h5 u hu hk
    · simp only [if_neg h] at h1 h2 h3 h4 h5 ⊢
      refine ⟨?_, ?_, h3, h4, fun u hu hk => ?_⟩
      · rcases h1 with h1 | ⟨u, hu, hk, h1⟩
        · exact .inl h1
        · exact .inr ⟨u, by simp [hu], hk, h1⟩
      · rcases h2 with h2 | ⟨u, hu, hk, h2⟩
        · exact .inl h2
        · exact .inr ⟨u, by simp [hu], hk, h2⟩
      · rcases List.mem_cons.1 hu with rfl | hu
        · exact absurd hk h
        · exact h5 u hu hk
theorem okT_iff {t : Tst} : okT t = true ↔ (0 ≤ t.1 ∧ t.1 ≤ 1048576) ∧ (0 ≤ t.2.1 ∧ t.2.1 ≤ 1048576) ∧ t.2.2.1 ≤ t.2.2.2 ∧ -1048576 ≤ t.2.2.1 ∧ t.2.2.2 ≤ 1048576 := by
  simp [okT, and_assoc]
theorem mul_far_tri {rate : Int} (hr : 0 ≤ rate) (a b c : Int) : rate * far a c ≤ rate * far a b + rate * far b c := by
  rw [← Int.mul_add]; exact Int.mul_le_mul_of_nonneg_left (far_tri a b c) hr
theorem mul_far_nonneg {rate : Int} (hr : 0 ≤ rate) (a b : Int) : 0 ≤ rate * far a b := Int.mul_nonneg hr (far_nonneg a b)
/-- Tests that do not contradict each other leave a drift on each day. -/
theorem drift_some {rate on known : Int} {ts : List Tst} (hr : 0 ≤ rate) (hok : ∀ t, t ∈ ts → okT t = true) (hc : calm rate ts) : (driftV rate ts on known).1 ≤ (driftV rate ts on known).2 := by
  obtain ⟨h1, h2, h3, h4, -⟩ := drift_ends (rate := rate) (on := on) (known := known) ts allS
  unfold driftV
  have low : ∀ t, t ∈ ts → (room rate t on).1 ≤ 1048576 ∧ -1048576 ≤ (room rate t on).2 := fun t ht => by
    have := okT_iff.1 (hok t ht)
    have := mul_far_nonneg hr t.1 on
    simp only [room]; omega
  rcases h1 with h1 | ⟨t, ht, -, h1⟩
  · rcases h2 with h2 | ⟨u, hu, -, h2⟩
    · rw [h1, h2]; simp [allS]
    · have := low u hu
      rw [h1, h2]; simp only [allS]; omega
  · rcases h2 with h2 | ⟨u, hu, -, h2⟩
    · have := low t ht
      rw [h1, h2]; simp only [allS]; omega
    · have hcl := of_decide_eq_false (hc t u ht hu)
      have h6 := mul_far_tri hr t.1 on u.1
      rw [far_comm on u.1] at h6
      rw [h1, h2]; simp only [room]; omega
/-- Ends of drifts change by no more than the rate. -/
theorem drift_near {rate a b known : Int} {ts : List Tst} (hr : 0 ≤ rate) : (driftV rate ts b known).1 ≤ (driftV rate ts a known).1 + rate * far a b ∧ (driftV rate ts a known).2 - rate * far a b ≤ (driftV rate ts b known).2 := by
  obtain ⟨h1, h2, h3, h4, h5⟩ := drift_ends (rate := rate) (on := b) (known := known) ts allS
  obtain ⟨k1, k2, k3, k4, k5⟩ := drift_ends (rate := rate) (on := a) (known := known) ts allS
  have hn := mul_far_nonneg hr a b
  unfold driftV
  constructor
  · rcases h1 with h1 | ⟨t, ht, hk, h1⟩
    · omega
    · have h6 := (k5 t ht hk).1
      have h7 := mul_far_tri hr t.1 b a
      rw [far_comm b a] at h7
      simp only [room] at h1 h6
      omega
  · rcases h2 with h2 | ⟨t, ht, hk, h2⟩
    · omega
    · have h6 := (k5 t ht hk).2
      have h7 := mul_far_tri hr t.1 b a
      rw [far_comm b a] at h7
      simp only [room] at h2 h6
      omega
def turnV (rate : Int) (ts : List Tst) (a b known : Int) : Sp :=
  meet ((driftV rate ts b known).1 - (driftV rate ts a known).2, (driftV rate ts b known).2 - (driftV rate ts a known).1) (0 - rate * far a b, 0 + rate * far a b)
theorem turn_some {rate a b known : Int} {ts : List Tst} (hr : 0 ≤ rate) (hok : ∀ t, t ∈ ts → okT t = true) (hc : calm rate ts) : (turnV rate ts a b known).1 ≤ (turnV rate ts a b known).2 := by
  have h1 := drift_some (on := a) (known := known) hr hok hc
  have h2 := drift_some (on := b) (known := known) hr hok hc
  have h3 := drift_near (a := a) (b := b) (known := known) (ts := ts) hr
  have h4 := mul_far_nonneg hr a b
  simp only [turnV, meet]; omega
end Go.Grams
/- Plain facts about scales: histories and the greatest one. -/
namespace Go.Grams
set_option linter.unusedSimpArgs false
set_option linter.unusedVariables false
/-- Two drifts on two days can both be, as far as the rate goes. -/
def near (rate : Int) (p q : Int × Int) : Prop := far p.2 q.2 ≤ rate * far p.1 q.1
theorem near_self {rate : Int} (p : Int × Int) : near rate p p := by simp [near, far_self]
theorem near_symm {rate : Int} {p q : Int × Int} (h : near rate p q) : near rate q p := by
  unfold near at h ⊢; rw [far_comm q.2, far_comm q.1]; exact h
def up (l : List (Int × Int)) : Prop := ∀ i (h : i + 1 < l.length), l[i].1 < l[i + 1].1
def steps (rate : Int) (l : List (Int × Int)) : Prop := ∀ i (h : i + 1 < l.length), near rate l[i] l[i + 1]
theorem up_lt {l : List (Int × Int)} (h : up l) : ∀ (k i : Nat) (hk : i + (k + 1) < l.length), (l[i]'(by omega)).1 < (l[i + (k + 1)]'hk).1
  | 0, i, hk => h i hk
  | k + 1, i, hk => by
    have h1 := up_lt h k i (by omega)
    have h2 := h (i + (k + 1)) (by omega)
    simp only [Nat.add_assoc] at h2 ⊢
    omega
/-- Neighbours suffice. -/
theorem near_all {rate : Int} {l : List (Int × Int)} (hu : up l) (hs : steps rate l) : ∀ (k i : Nat) (hk : i + (k + 1) < l.length), near rate (l[i]'(by omega)) (l[i + (k + 1)]'hk)
  | 0, i, hk => hs i hk
  | k + 1, i, hk => by
    have h1 := near_all hu hs k i (by omega)
    have h2 := hs (i + (k + 1)) (by omega)
    have u1 := up_lt hu k i (by omega)
    have u2 := hu (i + (k + 1)) (by omega)
    have e : rate * far (l[i]'(by omega)).1 (l[i + (k + 1 + 1)]'hk).1 = rate * far (l[i]'(by omega)).1 (l[i + (k + 1)]'(by omega)).1 + rate * far (l[i + (k + 1)]'(by omega)).1 (l[i + (k + 1) + 1]'(by omega)).1 := by
      rw [← Int.mul_add]
      congr 1
      simp only [Nat.add_assoc] at u2 ⊢
      unfold far
      omega
    have h3 := far_tri (l[i]'(by omega)).2 (l[i + (k + 1)]'(by omega)).2 (l[i + (k + 1 + 1)]'hk).2
    unfold near at h1 h2 ⊢
    rw [e]
    simp only [Nat.add_assoc] at h2 h3 ⊢
    omega
/-- A history with given drifts. -/
def hist (rate : Int) (ts : List Tst) (known : Int) (l : List (Int × Int)) : Prop :=
  (∀ p, p ∈ l → (driftV rate ts p.1 known).1 ≤ p.2 ∧ p.2 ≤ (driftV rate ts p.1 known).2) ∧ ∀ i j (hi : i < l.length) (hj : j < l.length), near rate l[i] l[j]
theorem hist_of_steps {rate known : Int} {ts : List Tst} {l : List (Int × Int)} (hu : up l) (h1 : ∀ p, p ∈ l → (driftV rate ts p.1 known).1 ≤ p.2 ∧ p.2 ≤ (driftV rate ts p.1 known).2) (h2 : steps rate l) : hist rate ts known l := by
  refine ⟨h1, fun i j hi hj => ?_⟩
  rcases Nat.lt_trichotomy i j with h | h | h
  · obtain ⟨k, rfl⟩ : ∃ k, j = i + (k + 1) := ⟨j - i - 1, by omega⟩
    exact near_all hu h2 k i hj
  · subst h; exact near_self _
  · obtain ⟨k, rfl⟩ : ∃ k, i = j + (k + 1) := ⟨i - j - 1, by omega⟩
    exact near_symm (near_all hu h2 k j hi)
/-- The greatest drift on a day. -/
def topG (rate : Int) (n : Int) : List (Int × Int) → Int → Int
  | [], m => m
  | p :: r, m => topG rate n r (min m (p.2 + rate * far p.1 n))
def topV (rate : Int) (ts : List Tst) (known : Int) (l : List (Int × Int)) (n : Int) : Int := topG rate n l (driftV rate ts n known).2
end Go.Grams
/- Plain facts about sheets: cores, water. -/
namespace Go.Grams
set_option linter.unusedSimpArgs false
set_option linter.unusedVariables false
/-- What was measured at a stake: depth, core, full, lost, soil. -/
abbrev Stk := Int × Int × Int × Int × Int
/-- A sheet: its numbers in the order of the program's fields, and its stakes. -/
structure Sht where
  no : Int
  cell : Int
  day : Int
  known : Int
  scale : Int
  mouth : Int
  empty : Int
  emptyDay : Int
  st : List Stk
def okLen (n : Int) : Bool := decide (0 ≤ n ∧ n ≤ 20000)
def okGram (n : Int) : Bool := decide (0 ≤ n ∧ n ≤ 1048576)
def okK (k : Stk) : Bool := okLen k.1 && okLen k.2.1 && okLen k.2.2.2.1 && decide (k.2.1 + k.2.2.2.1 ≤ k.1) && okGram k.2.2.1 && okGram k.2.2.2.2
def okSh (s : Sht) : Bool := okNo s.no && okNo s.cell && okNo s.scale && okDay s.day && okDay s.known && okDay s.emptyDay && okGram s.empty && decide (1 ≤ s.mouth ∧ s.mouth ≤ 1000) && decide (1 ≤ s.st.length ∧ s.st.length ≤ 32) && s.st.all okK
def least (empty : Int) : List Stk → Int → Int
  | [], m => m
  | k :: r, m => least empty r (min m (k.2.2.1 - empty))
theorem least_le {empty : Int} : ∀ (st : List Stk) (m x : Int), x ≤ least empty st m ↔ x ≤ m ∧ ∀ k, k ∈ st → x ≤ k.2.2.1 - empty
  | [], m, x => by simp [least]
  | k :: r, m, x => by
    simp only [least]
    rw [least_le r]
    constructor
    · rintro ⟨h1, h2⟩
      refine ⟨by omega, fun q hq => ?_⟩
      rcases List.mem_cons.1 hq with rfl | hq
      · omega
      · exact h2 q hq
    · rintro ⟨h1, h2⟩
      have := h2 k (by simp)
      exact ⟨by omega, fun q hq => h2 q (by simp [hq])⟩
def turnsV (rate : Int) (ts : List Tst) (s : Sht) (known : Int) : Sp := ((turnV rate ts s.emptyDay s.day known).1, least s.empty s.st (turnV rate ts s.emptyDay s.day known).2)
def coreV (s : Sht) (k : Stk) (t : Sp) : Sp := (max 0 (k.2.2.1 - s.empty - t.2 - k.2.2.2.2), k.2.2.1 - s.empty - t.1)
def snowV (s : Sht) (k : Stk) (t : Sp) : Sp := (20 * (coreV s k t).1 + k.2.2.2.1 * s.mouth, (coreV s k t).2 + k.2.2.2.1 * s.mouth)
def upV (a b : Int) : Int := (a + b - 1) / b
def waterS (s : Sht) (k : Stk) (t : Sp) : Sp := ((snowV s k t).1 / (20 * s.mouth), upV (snowV s k t).2 s.mouth)
def densS (s : Sht) (k : Stk) (t : Sp) : Sp := (1000 * (snowV s k t).1 / (20 * s.mouth * k.1), upV (1000 * (snowV s k t).2) (s.mouth * k.1))
def sums (s : Sht) (t : Sp) : List Stk → Sp
  | [] => (0, 0)
  | k :: r => ((snowV s k t).1 + (sums s t r).1, (snowV s k t).2 + (sums s t r).2)
def courseS (s : Sht) (t : Sp) : Sp := ((sums s t s.st).1 / (20 * (s.mouth * s.st.length)), upV (sums s t s.st).2 (s.mouth * s.st.length))
/-- One span lies in another. -/
def within (a b : Sp) : Prop := b.1 ≤ a.1 ∧ a.2 ≤ b.2
theorem okK_iff {k : Stk} : okK k = true ↔ (0 ≤ k.1 ∧ k.1 ≤ 20000) ∧ (0 ≤ k.2.1 ∧ k.2.1 ≤ 20000) ∧ (0 ≤ k.2.2.2.1 ∧ k.2.2.2.1 ≤ 20000) ∧ k.2.1 + k.2.2.2.1 ≤ k.1 ∧ (0 ≤ k.2.2.1 ∧ k.2.2.1 ≤ 1048576) ∧ (0 ≤ k.2.2.2.2 ∧ k.2.2.2.2 ≤ 1048576) := by
  simp [okK, okLen, okGram, and_assoc]
/-- With turns that are possible a core weighs at least nothing, and its ends are in order. -/
theorem core_some {s : Sht} {k : Stk} {t : Sp} (h1 : t.1 ≤ t.2) (h2 : t.2 ≤ k.2.2.1 - s.empty) (h3 : 0 ≤ k.2.2.2.2) : 0 ≤ (coreV s k t).1 ∧ (coreV s k t).1 ≤ (coreV s k t).2 := by
  simp only [coreV]; omega
end Go.Grams
/- Plain facts about sheets: the water of a course is about the sum of its stakes'. -/
namespace Go.Grams
set_option linter.unusedSimpArgs false
set_option linter.unusedVariables false
def sumW (s : Sht) (t : Sp) : List Stk → Sp
  | [] => (0, 0)
  | k :: r => ((waterS s k t).1 + (sumW s t r).1, (waterS s k t).2 + (sumW s t r).2)
end Go.Grams
/- Plain facts about scales: which are well, which tests contradict each other first. -/
namespace Go.Grams
set_option linter.unusedSimpArgs false
set_option linter.unusedVariables false
theorem later_iff : ∀ {ts : List Tst}, later ts = true ↔ ∀ i (h : i + 1 < ts.length), ts[i].2.1 ≤ ts[i + 1].2.1
  | [] => by simp [later]
  | [t] => by simp [later]
  | t :: u :: r => by
    simp only [later, Bool.and_eq_true, decide_eq_true_eq]
    rw [later_iff (ts := u :: r)]
    constructor
    · rintro ⟨h1, h2⟩ i h
      cases i with
      | zero => exact h1
      | succ i => exact h2 i (by simpa using h)
    · intro h
      exact ⟨h 0 (by simp), fun i hi => h (i + 1) (by simpa using hi)⟩
theorem later_take {ts : List Tst} {k : Nat} (h : k < ts.length) (h1 : later (ts.take k) = true) (h2 : k = 0 ∨ (∀ h0 : k - 1 < ts.length, ts[k - 1].2.1 ≤ ts[k].2.1)) : later (ts.take (k + 1)) = true := by
  rw [later_iff] at h1 ⊢
  intro i hi
  have hi' : i + 1 < k + 1 := by simp at hi; omega
  rw [List.getElem_take, List.getElem_take]
  rcases Nat.lt_or_ge (i + 1) k with hk | hk
  · have := h1 i (by simp; omega)
    rwa [List.getElem_take, List.getElem_take] at this
  · have e : i = k - 1 := by omega
    subst e
    rcases h2 with h2 | h2
    · omega
    · have := h2 (by omega)
      have e2 : ts[k - 1 + 1]'(by omega) = ts[k] := by congr 1; omega
      rw [e2]; exact this
theorem later_get {ts : List Tst} (h : later ts = true) {k : Nat} (hk : k < ts.length) (h0 : 0 < k) : ts[k - 1].2.1 ≤ ts[k].2.1 := by
  have := later_iff.1 h (k - 1) (by omega)
  have e2 : ts[k - 1 + 1]'(by omega) = ts[k] := by congr 1; omega
  rw [e2] at this; exact this
theorem well_iff {no rate : Int} {ts : List Tst} : well no rate ts = true ↔ okNo no = true ∧ (0 ≤ rate ∧ rate ≤ 1000) ∧ ts.length ≤ 64 ∧ (∀ t, t ∈ ts → okT t = true) ∧ later ts = true := by
  simp [well, and_assoc]
def mateFrom (rate : Int) (t : Tst) : List Tst → Nat → Option Nat
  | [], _ => none
  | u :: r, k => if clash rate t u = true then some k else mateFrom rate t r (k + 1)
def pairFrom (rate : Int) : List Tst → Nat → Option (Nat × Nat)
  | [], _ => none
  | t :: r, i => match mateFrom rate t r (i + 1) with
    | some k => some (i, k)
    | none => pairFrom rate r (i + 1)
theorem mate_drop {rate : Int} {t : Tst} {ts : List Tst} {k : Nat} (h : k < ts.length) : mateFrom rate t (ts.drop k) k = if clash rate t ts[k] = true then some k else mateFrom rate t (ts.drop (k + 1)) (k + 1) := by
  rw [List.drop_eq_getElem_cons h]; rfl
theorem mate_end {rate : Int} {t : Tst} {ts : List Tst} {k : Nat} (h : ts.length ≤ k) : mateFrom rate t (ts.drop k) k = none := by
  rw [List.drop_eq_nil_of_le h]; rfl
theorem pair_drop {rate : Int} {ts : List Tst} {k : Nat} (h : k < ts.length) : pairFrom rate (ts.drop k) k = (match mateFrom rate ts[k] (ts.drop (k + 1)) (k + 1) with | some j => some (k, j) | none => pairFrom rate (ts.drop (k + 1)) (k + 1)) := by
  rw [List.drop_eq_getElem_cons h]; rfl
theorem pair_end {rate : Int} {ts : List Tst} {k : Nat} (h : ts.length ≤ k) : pairFrom rate (ts.drop k) k = none := by
  rw [List.drop_eq_nil_of_le h]; rfl
def pairP (rate : Int) (ts : List Tst) : (Int × Int) × Bool := match pairFrom rate ts 0 with
  | some p => ((p.1, p.2), true)
  | none => ((0, 0), false)
theorem clash_comm {rate : Int} {t u : Tst} : clash rate t u = clash rate u t := by
  unfold clash
  rw [far_comm t.1 u.1, Int.max_comm]
theorem mate_none {rate : Int} {t : Tst} : ∀ {us : List Tst} {k : Nat}, mateFrom rate t us k = none ↔ ∀ u, u ∈ us → clash rate t u = false
  | [], k => by simp [mateFrom]
  | u :: r, k => by
    simp only [mateFrom]
    split
    · rename_i h; simp [h]
    · rename_i h
      rw [mate_none]
      simp [h]
theorem pair_none {rate : Int} : ∀ {ts : List Tst} {k : Nat}, (∀ t, t ∈ ts → okT t = true) → 0 ≤ rate → (pairFrom rate ts k = none ↔ calm rate ts)
  | [], k, _, _ => by simp [pairFrom, calm]
  | t :: r, k, hok, hr => by
    have hself : clash rate t t = false := by
      have h1 := okT_iff.1 (hok t (by simp))
      have h2 := mul_far_nonneg hr t.1 t.1
      unfold clash
      rw [decide_eq_false_iff_not]; omega
    have ih := pair_none (ts := r) (k := k + 1) (fun u hu => hok u (by simp [hu])) hr
    simp only [pairFrom]
    split
    · rename_i j hj
      constructor
      · intro h; cases h
      · intro h
        have : mateFrom rate t r (k + 1) = none := mate_none.2 fun u hu => h t u (by simp) (by simp [hu])
        rw [this] at hj; cases hj
    · rename_i hj
      rw [mate_none] at hj
      rw [ih]
      constructor
      · intro h a b ha hb
        rcases List.mem_cons.1 ha with ha1 | ha1 <;> rcases List.mem_cons.1 hb with hb1 | hb1
        · rw [ha1, hb1]; exact hself
        · rw [ha1]; exact hj b hb1
        · rw [clash_comm, hb1]; exact hj a ha1
        · exact h a b ha1 hb1
      · intro h a b ha hb
        exact h a b (by simp [ha]) (by simp [hb])
/-- What Apart and CheckScale answer. -/
def apA (no rate : Int) (ts : List Tst) : Int × Int := if well no rate ts = true then (pairP rate ts).1 else (0, 0)
def apB (no rate : Int) (ts : List Tst) : Bool := well no rate ts && (pairP rate ts).2
def apE (no rate : Int) (ts : List Tst) : Int := if well no rate ts = true then 0 else 11
def chkS (no rate : Int) (ts : List Tst) : Int := if well no rate ts = true then (if (pairP rate ts).2 = true then 13 else 0) else 11
theorem chkS_zero {no rate : Int} {ts : List Tst} (h : chkS no rate ts = 0) : well no rate ts = true ∧ calm rate ts := by
  unfold chkS at h
  split at h
  · rename_i hw
    obtain ⟨-, h1, -, h2, -⟩ := well_iff.1 hw
    refine ⟨hw, (pair_none (k := 0) h2 h1.1).1 ?_⟩
    unfold pairP at h
    split at h
    · simp at h
    · assumption
  · cases h
end Go.Grams
/- Plain facts about scales: a further test. -/
namespace Go.Grams
set_option linter.unusedSimpArgs false
set_option linter.unusedVariables false
def earlyT (ts : List Tst) (t : Tst) : Bool := match ts.getLast? with
  | some u => decide (t.2.1 < u.2.1)
  | none => false
theorem earlyT_get {ts : List Tst} {t : Tst} (h : 0 < ts.length) : earlyT ts t = decide (t.2.1 < (ts[ts.length - 1]'(by omega)).2.1) := by
  unfold earlyT
  rw [List.getLast?_eq_getElem?, List.getElem?_eq_getElem (by omega)]
theorem earlyT_nil {ts : List Tst} {t : Tst} (h : ts.length = 0) : earlyT ts t = false := by
  have : ts = [] := List.eq_nil_of_length_eq_zero h
  subst this; rfl
def addE (no rate : Int) (ts : List Tst) (t : Tst) : Int := if chkS no rate ts ≠ 0 then chkS no rate ts else if okT t = false then 10 else if ts.length = 64 then 2 else if earlyT ts t = true then 1 else if ts.any (clash rate t) = true then 13 else 0
def addS (no rate : Int) (ts : List Tst) (t : Tst) : Int × Int × List Tst := if addE no rate ts t = 0 then (no, rate, ts ++ [t]) else (0, 0, [])
end Go.Grams
/- Plain facts about sheets: how great their numbers are. -/
namespace Go.Grams
set_option linter.unusedSimpArgs false
set_option linter.unusedVariables false
theorem drift_box {rate on known : Int} {ts : List Tst} (hr : 0 ≤ rate) (hok : ∀ t, t ∈ ts → okT t = true) (hc : calm rate ts) : -1048576 ≤ (driftV rate ts on known).1 ∧ (driftV rate ts on known).1 ≤ (driftV rate ts on known).2 ∧ (driftV rate ts on known).2 ≤ 1048576 := by
  obtain ⟨-, -, h3, h4, -⟩ := drift_ends (rate := rate) (on := on) (known := known) ts allS
  exact ⟨h3, drift_some hr hok hc, h4⟩
theorem turn_box {rate a b known : Int} {ts : List Tst} (hr : 0 ≤ rate) (hok : ∀ t, t ∈ ts → okT t = true) (hc : calm rate ts) : -2097152 ≤ (turnV rate ts a b known).1 ∧ (turnV rate ts a b known).1 ≤ (turnV rate ts a b known).2 ∧ (turnV rate ts a b known).2 ≤ 2097152 := by
  have h1 := drift_box (on := a) (known := known) hr hok hc
  have h2 := drift_box (on := b) (known := known) hr hok hc
  have h3 := turn_some (a := a) (b := b) (known := known) hr hok hc
  refine ⟨?_, h3, ?_⟩ <;> simp only [turnV, meet] <;> omega
theorem least_app {empty : Int} {k : Stk} : ∀ (a : List Stk) (m : Int), least empty (a ++ [k]) m = min (least empty a m) (k.2.2.1 - empty)
  | [], m => rfl
  | u :: a, m => by simp only [List.cons_append, least]; exact least_app a _
theorem least_take {empty : Int} {st : List Stk} {m : Int} {k : Nat} (h : k < st.length) : least empty (st.take (k + 1)) m = min (least empty (st.take k) m) (st[k].2.2.1 - empty) := by
  rw [List.take_succ_eq_append_getElem h, least_app]
theorem least_box {empty : Int} (he : 0 ≤ empty ∧ empty ≤ 1048576) : ∀ (st : List Stk) (m : Int), (∀ k, k ∈ st → okK k = true) → min m (-1048576) ≤ least empty st m ∧ least empty st m ≤ m
  | [], m, _ => by simp [least]; omega
  | k :: r, m, h => by
    have hk := okK_iff.1 (h k (by simp))
    have := least_box he r (min m (k.2.2.1 - empty)) fun q hq => h q (by simp [hq])
    simp only [least]; omega
theorem okSh_iff {s : Sht} : okSh s = true ↔ okNo s.no = true ∧ okNo s.cell = true ∧ okNo s.scale = true ∧ okDay s.day = true ∧ okDay s.known = true ∧ okDay s.emptyDay = true ∧ okGram s.empty = true ∧ (1 ≤ s.mouth ∧ s.mouth ≤ 1000) ∧ (1 ≤ s.st.length ∧ s.st.length ≤ 32) ∧ ∀ k, k ∈ s.st → okK k = true := by
  simp [okSh, and_assoc]
theorem turns_box {rate known : Int} {ts : List Tst} {s : Sht} (hr : 0 ≤ rate) (hok : ∀ t, t ∈ ts → okT t = true) (hc : calm rate ts) (hs : okSh s = true) : (-2097152 ≤ (turnsV rate ts s known).1 ∧ (turnsV rate ts s known).1 ≤ 2097152) ∧ -2097152 ≤ (turnsV rate ts s known).2 ∧ (turnsV rate ts s known).2 ≤ 2097152 := by
  have h1 := turn_box (a := s.emptyDay) (b := s.day) (known := known) hr hok hc
  obtain ⟨-, -, -, -, -, -, h7, -, -, h10⟩ := okSh_iff.1 hs
  have h2 := least_box (empty := s.empty) (by simpa [okGram] using h7) s.st (turnV rate ts s.emptyDay s.day known).2 h10
  simp only [turnsV]; omega
/-- Turns that are far from the ends of the integers. -/
abbrev Tn (t : Sp) : Prop := (-2097152 ≤ t.1 ∧ t.1 ≤ 2097152) ∧ -2097152 ≤ t.2 ∧ t.2 ≤ 2097152
theorem core_bd {s : Sht} {k : Stk} {t : Sp} (he : 0 ≤ s.empty ∧ s.empty ≤ 1048576) (hk : okK k = true) (ht : Tn t) : 0 ≤ (coreV s k t).1 ∧ (coreV s k t).1 ≤ 4000000 ∧ -4000000 ≤ (coreV s k t).2 ∧ (coreV s k t).2 ≤ 4000000 := by
  have hk := okK_iff.1 hk
  simp only [coreV]; omega
theorem lost_bd {l m : Int} (hl : 0 ≤ l ∧ l ≤ 20000) (hm : 1 ≤ m ∧ m ≤ 1000) : 0 ≤ l * m ∧ l * m ≤ 20000000 := by
  refine ⟨Int.mul_nonneg hl.1 (by omega), ?_⟩
  have := Int.mul_le_mul hl.2 hm.2 (by omega : (0 : Int) ≤ m) (by omega : (0 : Int) ≤ 20000)
  omega
theorem snow_bd {s : Sht} {k : Stk} {t : Sp} (he : 0 ≤ s.empty ∧ s.empty ≤ 1048576) (hm : 1 ≤ s.mouth ∧ s.mouth ≤ 1000) (hk : okK k = true) (ht : Tn t) : 0 ≤ (snowV s k t).1 ∧ (snowV s k t).1 ≤ 100000000 ∧ -4000000 ≤ (snowV s k t).2 ∧ (snowV s k t).2 ≤ 100000000 := by
  have h1 := core_bd he hk ht
  have hk := okK_iff.1 hk
  have h2 := lost_bd (l := k.2.2.2.1) hk.2.2.1 hm
  simp only [snowV]; omega
/-- With possible turns. -/
theorem snow_pos {s : Sht} {k : Stk} {t : Sp} (hm : 1 ≤ s.mouth ∧ s.mouth ≤ 1000) (hk : okK k = true) (h1 : t.1 ≤ t.2) (h2 : t.2 ≤ k.2.2.1 - s.empty) : 0 ≤ (snowV s k t).1 ∧ 0 ≤ (snowV s k t).2 ∧ (snowV s k t).1 ≤ 20 * (snowV s k t).2 := by
  have hk := okK_iff.1 hk
  have h3 := core_some (s := s) (k := k) h1 h2 hk.2.2.2.2.2.1
  have h4 := lost_bd (l := k.2.2.2.1) hk.2.2.1 hm
  simp only [snowV]; omega
theorem turns_le {rate known : Int} {ts : List Tst} {s : Sht} {k : Stk} (hk : k ∈ s.st) : (turnsV rate ts s known).2 ≤ k.2.2.1 - s.empty := by
  exact ((least_le s.st _ _).1 (Int.le_refl _)).2 k hk
/-- The error of a scale and a sheet that are looked at together. -/
def sofE (no rate : Int) (ts : List Tst) (s : Sht) (known : Int) : Int := if chkS no rate ts ≠ 0 then chkS no rate ts else if okSh s = false then 12 else if no = s.scale ∧ okDay known = true then 0 else 1
def lookE (no rate : Int) (ts : List Tst) (s : Sht) (at_ known : Int) : Int := if sofE no rate ts s known ≠ 0 then sofE no rate ts s known else if at_ < 0 ∨ (s.st.length : Int) ≤ at_ then 1 else if (turnsV rate ts s known).2 < (turnsV rate ts s known).1 then 13 else 0
theorem sofE_zero {no rate known : Int} {ts : List Tst} {s : Sht} (h : sofE no rate ts s known = 0) : well no rate ts = true ∧ calm rate ts ∧ okSh s = true ∧ no = s.scale ∧ okDay known = true := by
  unfold sofE at h
  split at h
  · omega
  · rename_i h1
    have h2 := chkS_zero (by simpa using h1 : chkS no rate ts = 0)
    split at h
    · cases h
    · rename_i h3
      split at h
      · rename_i h4
        exact ⟨h2.1, h2.2, by simpa using h3, h4.1, h4.2⟩
      · cases h
theorem lookE_zero {no rate at_ known : Int} {ts : List Tst} {s : Sht} (h : lookE no rate ts s at_ known = 0) : sofE no rate ts s known = 0 ∧ (0 ≤ at_ ∧ at_ < s.st.length) ∧ (turnsV rate ts s known).1 ≤ (turnsV rate ts s known).2 := by
  unfold lookE at h
  split at h
  · omega
  · rename_i h1
    split at h
    · cases h
    · split at h
      · cases h
      · exact ⟨by simpa using h1, by omega, by omega⟩
end Go.Grams
/- Plain facts about histories: lists of days, and what is answered of them. -/
namespace Go.Grams
set_option linter.unusedSimpArgs false
set_option linter.unusedVariables false
def upI : List Int → Bool
  | a :: b :: r => decide (a < b) && upI (b :: r)
  | _ => true
theorem upI_iff : ∀ {l : List Int}, upI l = true ↔ ∀ i (h : i + 1 < l.length), l[i] < l[i + 1]
  | [] => by simp [upI]
  | [t] => by simp [upI]
  | t :: u :: r => by
    simp only [upI, Bool.and_eq_true, decide_eq_true_eq]
    rw [upI_iff (l := u :: r)]
    constructor
    · rintro ⟨h1, h2⟩ i h
      cases i with
      | zero => exact h1
      | succ i => exact h2 i (by simpa using h)
    · intro h
      exact ⟨h 0 (by simp), fun i hi => h (i + 1) (by simpa using hi)⟩
theorem upI_get {l : List Int} (h : upI l = true) {k : Nat} (hk : k < l.length) (h0 : 0 < k) : l[k - 1] < l[k] := by
  have := upI_iff.1 h (k - 1) (by omega)
  have e2 : l[k - 1 + 1]'(by omega) = l[k] := by congr 1; omega
  rw [e2] at this; exact this
theorem upI_take {l : List Int} {k : Nat} (h : k < l.length) (h1 : upI (l.take k) = true) (h2 : k = 0 ∨ (∀ h0 : k - 1 < l.length, l[k - 1] < l[k])) : upI (l.take (k + 1)) = true := by
  rw [upI_iff] at h1 ⊢
  intro i hi
  have hi' : i + 1 < k + 1 := by simp at hi; omega
  rw [List.getElem_take, List.getElem_take]
  rcases Nat.lt_or_ge (i + 1) k with hk | hk
  · have := h1 i (by simp; omega)
    rwa [List.getElem_take, List.getElem_take] at this
  · have e : i = k - 1 := by omega
    subst e
    rcases h2 with h2 | h2
    · omega
    · have := h2 (by omega)
      have e2 : l[k - 1 + 1]'(by omega) = l[k] := by congr 1; omega
      rw [e2]; exact this
def risingV (l : List Int) : Bool := l.all okDay && upI l && decide (l.length ≤ 64)
theorem risingV_iff {l : List Int} : risingV l = true ↔ (∀ d, d ∈ l → okDay d = true) ∧ upI l = true ∧ l.length ≤ 64 := by
  simp [risingV, and_assoc]
theorem up_zip {days grams : List Int} (h : upI days = true) : up (days.zip grams) := by
  intro i hi
  have h1 : i + 1 < days.length := by simp at hi; omega
  have := upI_iff.1 h i h1
  simpa using this
open Classical in
/-- Whether there is a history with given drifts. -/
noncomputable def histB (rate : Int) (ts : List Tst) (known : Int) (l : List (Int × Int)) : Bool := decide (hist rate ts known l)
theorem histB_t {rate known : Int} {ts : List Tst} {l : List (Int × Int)} (h : hist rate ts known l) : histB rate ts known l = true := by
  unfold histB; simp [h]
theorem histB_f {rate known : Int} {ts : List Tst} {l : List (Int × Int)} (h : ¬ hist rate ts known l) : histB rate ts known l = false := by
  unfold histB; simp [h]
theorem histB_iff {rate known : Int} {ts : List Tst} {l : List (Int × Int)} : histB rate ts known l = true ↔ hist rate ts known l := by
  unfold histB; simp
def hisE (no rate : Int) (ts : List Tst) (known : Int) (days grams : List Int) : Int := if chkS no rate ts ≠ 0 then chkS no rate ts else if okDay known = true ∧ days.length = grams.length ∧ risingV days = true then 0 else 1
def extE (no rate : Int) (ts : List Tst) (known : Int) (days grams more : List Int) : Int := if hisE no rate ts known days grams ≠ 0 then hisE no rate ts known days grams else if risingV more = true then 0 else 1
noncomputable def hisB (no rate : Int) (ts : List Tst) (known : Int) (days grams : List Int) : Bool := decide (hisE no rate ts known days grams = 0) && histB rate ts known (days.zip grams)
noncomputable def extB (no rate : Int) (ts : List Tst) (known : Int) (days grams more : List Int) : Bool := decide (extE no rate ts known days grams more = 0) && histB rate ts known (days.zip grams)
noncomputable def extL (no rate : Int) (ts : List Tst) (known : Int) (days grams more : List Int) : List Int := if extB no rate ts known days grams more = true then more.map (topV rate ts known (days.zip grams)) else []
theorem topG_app {rate n : Int} {p : Int × Int} : ∀ (a : List (Int × Int)) (m : Int), topG rate n (a ++ [p]) m = min (topG rate n a m) (p.2 + rate * far p.1 n)
  | [], m => rfl
  | u :: a, m => by simp only [List.cons_append, topG]; exact topG_app a _
theorem topG_take {rate n : Int} {days grams : List Int} {m : Int} {k : Nat} (h : k < days.length) (hl : days.length = grams.length) : topG rate n ((days.zip grams).take (k + 1)) m = min (topG rate n ((days.zip grams).take k) m) (grams[k] + rate * far days[k] n) := by
  rw [List.take_succ_eq_append_getElem (by simp; omega), topG_app, List.getElem_zip]
end Go.Grams
