/- Packs of layers, as plain data: what the steps make of them. No program in sight. -/
import Derived.Test.YtomejgikdelgkaaGreatDoorA1
set_option linter.unusedVariables false
set_option linter.unusedSimpArgs false
set_option linter.unusedSectionVars false
namespace Go.Snow
set_option linter.unusedSimpArgs false
set_option linter.unusedVariables false
/-- A layer: frozen water, liquid water, cold. -/
abbrev Lay := Int × Int × Int
structure Fine (l : Lay) : Prop where
  ice : 0 ≤ l.1
  wet0 : 0 ≤ l.2.1
  wet : l.2.1 ≤ l.1 / 20
  cold : 0 ≤ l.2.2
  dry : l.2.1 = 0 ∨ l.2.2 = 0
def Nice (K : Int) (ls : List Lay) : Prop := ∀ l, l ∈ ls → Fine l ∧ l.1 + l.2.2 ≤ K
theorem Nice.nil {K : Int} : Nice K [] := by intro l h; simp at h
theorem Nice.cons {K : Int} {l : Lay} {r : List Lay} (h : Fine l) (hk : l.1 + l.2.2 ≤ K) (hr : Nice K r) : Nice K (l :: r) := by
  intro x hx
  rcases List.mem_cons.1 hx with rfl | hx
  · exact ⟨h, hk⟩
  · exact hr x hx
theorem Nice.head {K : Int} {l : Lay} {r : List Lay} (h : Nice K (l :: r)) : Fine l ∧ l.1 + l.2.2 ≤ K := h l (by simp)
theorem Nice.tail {K : Int} {l : Lay} {r : List Lay} (h : Nice K (l :: r)) : Nice K r := fun x hx => h x (by simp [hx])
theorem Nice.mono {K K' : Int} {ls : List Lay} (h : Nice K ls) (hk : K ≤ K') : Nice K' ls := fun x hx => ⟨(h x hx).1, by have := (h x hx).2; omega⟩
def water : List Lay → Int
  | [] => 0
  | l :: r => l.1 + l.2.1 + water r
def cold : List Lay → Int
  | [] => 0
  | l :: r => l.2.2 + cold r
def right (l : Lay) : Bool := decide (1 ≤ l.1 ∧ l.1 ≤ 65536 ∧ 0 ≤ l.2.2 ∧ l.2.2 ≤ 65536 ∧ 0 ≤ l.2.1 ∧ l.2.1 ≤ l.1 / 20 ∧ (l.2.1 = 0 ∨ l.2.2 = 0))
def okP (ls : List Lay) : Bool := decide (ls.length ≤ 64) && ls.all right && decide (water ls ≤ 65536) && decide (cold ls ≤ 65536)
def okS (k m c : Int) : Bool := decide (1 ≤ k ∧ k ≤ 6 ∧ 0 ≤ m ∧ m ≤ 65536 ∧ 0 ≤ c ∧ c ≤ if k = 1 then 65536 else 0)
/-- One of water flows into layers from above; what runs out. -/
def one : List Lay → List Lay × Int
  | [] => ([], 1)
  | l :: r => if 0 < l.2.2 then ((l.1 + 1, l.2.1, l.2.2 - 1) :: r, 0)
    else if l.2.1 < l.1 / 20 then ((l.1, l.2.1 + 1, l.2.2) :: r, 0)
    else (l :: (one r).1, (one r).2)
/-- So much water. -/
def pour : Nat → List Lay → List Lay × Int
  | 0, ls => (ls, 0)
  | n + 1, ls => ((pour n (one ls).1).1, (one ls).2 + (pour n (one ls).1).2)
theorem one_length (ls : List Lay) : (one ls).1.length = ls.length := by
  induction ls with
  | nil => rfl
  | cons l r ih =>
    simp only [one]
    split
    · simp
    · split
      · simp
      · simp [ih]
theorem pour_length (n : Nat) (ls : List Lay) : (pour n ls).1.length = ls.length := by
  induction n generalizing ls with
  | zero => rfl
  | succ n ih => simp only [pour, ih, one_length]
theorem one_nice {K : Int} {ls : List Lay} (h : Nice K ls) : Nice K (one ls).1 := by
  induction ls with
  | nil => exact h
  | cons l r ih =>
    obtain ⟨⟨h1, h2, h3, h4, h5⟩, hk⟩ := h.head
    simp only [one]
    split
    · exact .cons ⟨by simp only; omega, by simp only; omega, by simp only; omega, by simp only; omega, by simp only; omega⟩ (by simp only; omega) h.tail
    · split
      · exact .cons ⟨by simp only; omega, by simp only; omega, by simp only; omega, by simp only; omega, by simp only; omega⟩ (by simp only; omega) h.tail
      · exact .cons ⟨h1, h2, h3, h4, h5⟩ hk (ih h.tail)
theorem one_ran (ls : List Lay) : 0 ≤ (one ls).2 ∧ (one ls).2 ≤ 1 := by
  induction ls with
  | nil => simp [one]
  | cons l r ih =>
    simp only [one]
    split
    · simp
    · split
      · simp
      · exact ih
theorem pour_ran (n : Nat) (ls : List Lay) : 0 ≤ (pour n ls).2 ∧ (pour n ls).2 ≤ n := by
  induction n generalizing ls with
  | zero => simp [pour]
  | succ n ih => have := one_ran ls; have := ih (one ls).1; simp only [pour]; omega
/-- How much a layer takes from above. -/
def room (l : Lay) : Int := l.2.2 + ((l.1 + l.2.2) / 20 - l.2.1)
/-- A layer that has taken so much. -/
def fill (l : Lay) (k : Int) : Lay := (l.1 + min k l.2.2, l.2.1 + (k - min k l.2.2), l.2.2 - min k l.2.2)
theorem room_nonneg {l : Lay} (h : Fine l) : 0 ≤ room l := by
  obtain ⟨h1, h2, h3, h4, h5⟩ := h
  unfold room; omega
theorem pour_nil (n : Nat) : pour n [] = ([], (n : Int)) := by
  induction n with
  | zero => rfl
  | succ n ih => simp only [pour, one, ih]; ext <;> simp; omega
theorem pour_cons {l : Lay} (h : Fine l) (r : List Lay) (n : Nat) : pour n (l :: r) = (fill l (min n (room l)) :: (pour (n - (room l).toNat) r).1, (pour (n - (room l).toNat) r).2) := by
  induction n generalizing l r with
  | zero =>
    have h0 := room_nonneg h
    obtain ⟨h1, h2, h3, h4, h5⟩ := h
    have e1 : min ((0 : Nat) : Int) (room l) = 0 := by omega
    rw [e1]
    have e2 : min (0 : Int) l.2.2 = 0 := by omega
    simp [pour, fill, e2]
  | succ n ih =>
    have h0 := room_nonneg h
    have hh := h
    obtain ⟨h1, h2, h3, h4, h5⟩ := h
    simp only [pour, one]
    split
    · rename_i hc
      have hf : Fine (l.1 + 1, l.2.1, l.2.2 - 1) := ⟨by simp only; omega, by simp only; omega, by simp only; omega, by simp only; omega, by simp only; omega⟩
      have hr : room (l.1 + 1, l.2.1, l.2.2 - 1) = room l - 1 := by unfold room; simp only; rw [show l.1 + 1 + (l.2.2 - 1) = l.1 + l.2.2 by omega]; omega
      have hr1 : 1 ≤ room l := by unfold room; omega
      rw [ih hf, hr]
      have e1 : n - (room l - 1).toNat = n + 1 - (room l).toNat := by omega
      rw [e1]
      simp only [Int.zero_add]
      refine Prod.ext ?_ rfl
      simp only [List.cons.injEq, and_true]
      unfold fill
      simp only
      ext <;> simp only <;> omega
    · split
      · rename_i hc hw
        have hf : Fine (l.1, l.2.1 + 1, l.2.2) := ⟨by simp only; omega, by simp only; omega, by simp only; omega, by simp only; omega, by simp only; omega⟩
        have hz : l.2.2 = 0 := by omega
        have hr : room (l.1, l.2.1 + 1, l.2.2) = room l - 1 := by unfold room; simp only; omega
        have hr1 : 1 ≤ room l := by unfold room; rw [hz]; simp only [Int.add_zero]; omega
        rw [ih hf, hr]
        have e1 : n - (room l - 1).toNat = n + 1 - (room l).toNat := by omega
        rw [e1]
        simp only [Int.zero_add]
        refine Prod.ext ?_ rfl
        simp only [List.cons.injEq, and_true]
        unfold fill
        simp only
        ext <;> simp only <;> omega
      · rename_i hc hw
        have hz : l.2.2 = 0 := by omega
        have hr : room l = 0 := by unfold room; rw [hz]; simp only [Int.add_zero]; omega
        simp only
        rw [ih hh, hr]
        simp only [Int.toNat_zero, Nat.sub_zero, pour]
        refine Prod.ext ?_ rfl
        simp only [List.cons.injEq, and_true]
        unfold fill
        ext <;> simp only <;> omega
/-- What runs out is what goes beyond the room. -/
def roomL : List Lay → Int
  | [] => 0
  | l :: r => room l + roomL r
/-- The top layer loses one of its ice, with some more liquid water. -/
def lose (more : Int) : List Lay → List Lay × Int
  | [] => ([], 0)
  | l :: r => if l.1 - 1 = 0 then pour (l.2.1 + more).toNat r
    else ((l.1 - 1, min (l.2.1 + more) ((l.1 - 1) / 20), l.2.2) :: (pour (l.2.1 + more - min (l.2.1 + more) ((l.1 - 1) / 20)).toNat r).1, (pour (l.2.1 + more - min (l.2.1 + more) ((l.1 - 1) / 20)).toNat r).2)
def melt1 : List Lay → List Lay × Int
  | [] => ([], 0)
  | l :: r => if 0 < l.2.2 then ((l.1, l.2.1, l.2.2 - 1) :: r, 0) else lose 1 (l :: r)
def loss1 (ls : List Lay) : List Lay × Int := lose 0 ls
def times (f : List Lay → List Lay × Int) : Nat → List Lay → List Lay × Int
  | 0, ls => (ls, 0)
  | n + 1, ls => ((times f n (f ls).1).1, (f ls).2 + (times f n (f ls).1).2)
theorem times_nil {f : List Lay → List Lay × Int} (h : f [] = ([], 0)) (n : Nat) : times f n [] = ([], 0) := by
  induction n with
  | zero => rfl
  | succ n ih => simp [times, h, ih]
/-- How often it was done: as long as there are layers. -/
def taken (f : List Lay → List Lay × Int) : Nat → List Lay → Int
  | 0, _ => 0
  | _ + 1, [] => 0
  | n + 1, l :: r => 1 + taken f n (f (l :: r)).1
/-- Layers from which nothing is gone yet: valid but for sums. -/
def Firm (K : Int) (ls : List Lay) : Prop := Nice K ls ∧ ∀ l, l ∈ ls → 1 ≤ l.1
theorem Firm.nil {K : Int} : Firm K [] := ⟨.nil, by intro l h; simp at h⟩
theorem Firm.tail {K : Int} {l : Lay} {r : List Lay} (h : Firm K (l :: r)) : Firm K r := ⟨h.1.tail, fun x hx => h.2 x (by simp [hx])⟩
theorem Firm.cons {K : Int} {l : Lay} {r : List Lay} (h : Fine l) (hk : l.1 + l.2.2 ≤ K) (h1 : 1 ≤ l.1) (hr : Firm K r) : Firm K (l :: r) :=
  ⟨.cons h hk hr.1, fun x hx => by
    rcases List.mem_cons.1 hx with rfl | hx
    · exact h1
    · exact hr.2 x hx⟩
theorem one_good {K : Int} {ls : List Lay} (h : Firm K ls) : Firm K (one ls).1 := by
  refine ⟨one_nice h.1, ?_⟩
  have key : ∀ ls : List Lay, (∀ l, l ∈ ls → 1 ≤ l.1) → ∀ l, l ∈ (one ls).1 → 1 ≤ l.1 := by
    intro ls
    induction ls with
    | nil => intro _ l hl; simp [one] at hl
    | cons a r ih =>
      intro h l hl
      have ha := h a (by simp)
      have hr : ∀ l, l ∈ r → 1 ≤ l.1 := fun l hl => h l (by simp [hl])
      simp only [one] at hl
      split at hl
      · rcases List.mem_cons.1 hl with rfl | hl
        · simp only; omega
        · exact hr l hl
      · split at hl
        · rcases List.mem_cons.1 hl with rfl | hl
          · simp only; omega
          · exact hr l hl
        · rcases List.mem_cons.1 hl with rfl | hl
          · exact ha
          · exact ih hr l hl
  exact key ls h.2
theorem pour_good {K : Int} {ls : List Lay} (h : Firm K ls) (n : Nat) : Firm K (pour n ls).1 := by
  induction n generalizing ls with
  | zero => exact h
  | succ n ih => exact ih (one_good h)
theorem lose_good {K more : Int} (hm : 0 ≤ more) {ls : List Lay} (h : Firm K ls) (hd : ∀ l r, ls = l :: r → more = 0 ∨ l.2.2 = 0) : Firm K (lose more ls).1 := by
  cases ls with
  | nil => exact .nil
  | cons l r =>
    obtain ⟨⟨h1, h2, h3, h4, h5⟩, hk⟩ := h.1.head
    have h6 := h.2 l (by simp)
    have h7 := hd l r rfl
    simp only [lose]
    split
    · exact pour_good h.tail _
    · exact .cons ⟨by simp only; omega, by simp only; omega, by simp only; omega, by simp only; omega, by simp only; omega⟩ (by simp only; omega) (by simp only; omega) (pour_good h.tail _)
theorem melt1_good {K : Int} {ls : List Lay} (h : Firm K ls) : Firm K (melt1 ls).1 := by
  cases ls with
  | nil => exact .nil
  | cons l r =>
    obtain ⟨⟨h1, h2, h3, h4, h5⟩, hk⟩ := h.1.head
    have h6 := h.2 l (by simp)
    simp only [melt1]
    split
    · exact .cons ⟨by simp only; omega, by simp only; omega, by simp only; omega, by simp only; omega, by simp only; omega⟩ (by simp only; omega) (by simp only; omega) h.tail
    · exact lose_good (by omega) h fun l' r' e => by cases e; right; omega
theorem loss1_good {K : Int} {ls : List Lay} (h : Firm K ls) : Firm K (loss1 ls).1 := lose_good (Int.le_refl _) h fun _ _ _ => .inl rfl
/-- Frost enters from above. -/
def frz : Int → List Lay → List Lay × Int
  | c, [] => ([], c)
  | c, l :: r => ((l.1 + min c l.2.1, l.2.1 - min c l.2.1, l.2.2) :: (frz (c - min c l.2.1) r).1, (frz (c - min c l.2.1) r).2)
def chill (c : Int) : List Lay → List Lay
  | [] => []
  | l :: r => (l.1, l.2.1, l.2.2 + c) :: r
def frost (c : Int) (ls : List Lay) : List Lay := chill (frz c ls).2 (frz c ls).1
/-- What a step makes of layers, what runs out, and what is taken. -/
def doS (k m c : Int) (ls : List Lay) : List Lay × Int × Int :=
  if k = 1 then (if 0 < m then ((m, 0, c) :: ls, 0, 0) else (ls, 0, 0))
  else if k = 2 then ((pour m.toNat ls).1, (pour m.toNat ls).2, 0)
  else if k = 3 then ((times melt1 m.toNat ls).1, (times melt1 m.toNat ls).2, 0)
  else if k = 4 then (frost m ls, 0, 0)
  else ((times loss1 m.toNat ls).1, (times loss1 m.toNat ls).2, taken loss1 m.toNat ls)
/-- Apply: the layers, what runs out, the error. -/
def applyV (ls : List Lay) (k m c : Int) : List Lay × Int × Int :=
  if okP ls then (if okS k m c then (if okP (doS k m c ls).1 then ((doS k m c ls).1, (doS k m c ls).2.1, 0) else ([], 0, 2)) else ([], 0, 21)) else ([], 0, 20)
theorem right_iff {l : Lay} : right l = true ↔ 1 ≤ l.1 ∧ l.1 ≤ 65536 ∧ 0 ≤ l.2.2 ∧ l.2.2 ≤ 65536 ∧ 0 ≤ l.2.1 ∧ l.2.1 ≤ l.1 / 20 ∧ (l.2.1 = 0 ∨ l.2.2 = 0) := by simp [right]
theorem okP_iff {ls : List Lay} : okP ls = true ↔ ls.length ≤ 64 ∧ (∀ l, l ∈ ls → right l = true) ∧ water ls ≤ 65536 ∧ cold ls ≤ 65536 := by
  simp [okP, and_assoc]
theorem okP_good {ls : List Lay} (h : okP ls = true) : Firm 131072 ls := by
  have h2 := (okP_iff.1 h).2.1
  refine ⟨fun l hl => ?_, fun l hl => ?_⟩ <;> have := right_iff.1 (h2 l hl)
  · exact ⟨⟨by omega, by omega, by omega, by omega, by omega⟩, by omega⟩
  · omega
end Go.Snow
