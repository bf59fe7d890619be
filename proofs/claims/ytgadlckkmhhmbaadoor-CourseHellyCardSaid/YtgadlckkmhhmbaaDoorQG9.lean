/- Pairs suffice; the greatest history on a stretch of days. -/
import Derived.Test.YtgadlckkmhhmbaaDoorQC29
import Derived.Test.YtgadlckkmhhmbaaDoorQSi
set_option linter.unusedVariables false
set_option linter.unusedSimpArgs false
set_option linter.unusedSectionVars false
namespace Go.Proofs.YtgadlckkmhhmbaaDoor
open Go.Awp Go.Grams
set_option linter.unusedSimpArgs false
set_option linter.unusedVariables false
set_option linter.unusedSectionVars false
theorem hist_sub {rate known : Int} {ts : List Tst} {l m : List (Int × Int)} (h : hist rate ts known l) (hs : ∀ p, p ∈ m → p ∈ l) : hist rate ts known m :=
  ⟨fun p hp => h.1 p (hs p hp), fun i j hi hj => hist_mem h (hs _ (List.getElem_mem hi)) (hs _ (List.getElem_mem hj))⟩
theorem hist_of_mem {rate known : Int} {ts : List Tst} {l : List (Int × Int)} (h1 : ∀ p, p ∈ l → (driftV rate ts p.1 known).1 ≤ p.2 ∧ p.2 ≤ (driftV rate ts p.1 known).2) (h2 : ∀ i j (hi : i < l.length) (hj : j < l.length), i < j → near rate l[i] l[j]) : hist rate ts known l := by
  refine ⟨h1, fun i j hi hj => ?_⟩
  rcases Nat.lt_trichotomy i j with h | h | h
  · exact h2 i j hi hj h
  · subst h; exact near_self _
  · exact near_symm (h2 j i hj hi h)
def at0 (l : List Int) (k : Nat) : Int := (l[k]?).getD 0
theorem at0_eq {l : List Int} {k : Nat} (h : k < l.length) : at0 l k = l[k] := by unfold at0; rw [List.getElem?_eq_getElem h]; rfl
section
variable (rate : Int) (ts : List Tst) (known : Int) (days grams : List Int)
noncomputable def pairB (i k : Nat) : Bool := histB rate ts known [(at0 days k, at0 grams k), (at0 days i, at0 grams i)]
noncomputable def oneB (i : Nat) : Bool := histB rate ts known [(at0 days i, at0 grams i)]
noncomputable def inB (i m : Nat) : Bool := (List.range m).all (pairB rate ts known days grams i)
noncomputable def palB (n : Nat) : Bool := (List.range n).all fun i => inB rate ts known days grams i i && oneB rate ts known days grams i
end
section
variable {rate : Int} {ts : List Tst} {known : Int} {days grams : List Int}
theorem inB_succ {i m : Nat} : inB rate ts known days grams i (m + 1) = (inB rate ts known days grams i m && pairB rate ts known days grams i m) := by
  simp [inB, List.range_succ, List.all_append]
theorem palB_succ {n : Nat} : palB rate ts known days grams (n + 1) = (palB rate ts known days grams n && (inB rate ts known days grams n n && oneB rate ts known days grams n)) := by
  simp [palB, List.range_succ, List.all_append]
theorem palB_iff (hl : days.length = grams.length) : palB rate ts known days grams days.length = histB rate ts known (days.zip grams) := by
  have hz : (days.zip grams).length = days.length := by simp [hl]
  have hget : ∀ i (h : i < (days.zip grams).length), (days.zip grams)[i] = (at0 days i, at0 grams i) := fun i h => by
    rw [List.getElem_zip, at0_eq (by omega), at0_eq (by omega)]
  rw [Bool.eq_iff_iff, histB_iff]
  constructor
  · intro h
    unfold palB inB pairB oneB at h
    simp only [List.all_eq_true, List.mem_range, Bool.and_eq_true, histB_iff] at h
    refine hist_of_mem (fun p hp => ?_) fun i j hi hj hij => ?_
    · obtain ⟨i, hi, rfl⟩ := List.getElem_of_mem hp
      rw [hget i hi]
      exact (h i (by omega)).2.1 _ (by simp)
    · rw [hget i hi, hget j hj]
      exact hist_mem ((h j (by omega)).1 i hij) (by simp) (by simp)
  · intro h
    unfold palB inB pairB oneB
    simp only [List.all_eq_true, List.mem_range, Bool.and_eq_true, histB_iff]
    have mem : ∀ i, i < days.length → (at0 days i, at0 grams i) ∈ days.zip grams := fun i hi => by
      rw [← hget i (by omega)]; exact List.getElem_mem _
    refine fun i hi => ⟨fun k hk => hist_sub h ?_, hist_sub h ?_⟩
    · intro p hp
      rcases List.mem_cons.1 hp with rfl | hp
      · exact mem k (by omega)
      · rw [List.mem_singleton.1 hp]; exact mem i hi
    · intro p hp
      rw [List.mem_singleton.1 hp]; exact mem i hi
end
/-- The days of a stretch. -/
def mor (fr : Int) (n : Nat) : List Int := (List.range n).map fun i : Nat => fr + (i : Int)
theorem mor_succ {fr : Int} {n : Nat} : mor fr (n + 1) = mor fr n ++ [fr + (n : Int)] := by simp [mor, List.range_succ]
theorem mor_len {fr : Int} {n : Nat} : (mor fr n).length = n := by simp [mor]
theorem mor_get {fr : Int} {n i : Nat} (h : i < (mor fr n).length) : (mor fr n)[i] = fr + (i : Int) := by simp [mor]
theorem mor_rising {fr : Int} (h : 0 ≤ fr ∧ fr ≤ 1048512) : risingV (mor fr 64) = true := by
  rw [risingV_iff]
  refine ⟨fun d hd => ?_, ?_, by rw [mor_len]; omega⟩
  · obtain ⟨i, hi, rfl⟩ := List.mem_map.1 hd
    have := List.mem_range.1 hi
    unfold okDay; rw [decide_eq_true_iff]; omega
  · rw [upI_iff]
    intro i hi
    rw [mor_get, mor_get]; omega
theorem upI_pairs {l : List Int} (h : upI l = true) : ∀ i j (hi : i < l.length) (hj : j < l.length), i < j → l[i] < l[j] := by
  intro i j hi hj hij
  obtain ⟨d, rfl⟩ : ∃ d, j = i + (d + 1) := ⟨j - i - 1, by omega⟩
  clear hij
  induction d with
  | zero => exact upI_iff.1 h i hj
  | succ d ih =>
    have h1 := ih (by omega)
    have h2 := upI_iff.1 h (i + (d + 1)) hj
    exact Int.lt_trans h1 h2
theorem ins_get {l : List Int} {i j : Nat} {v : Int} (hi : i ≤ l.length) (hj : j < (ins l i v).length) : (ins l i v)[j] = if j < i then at0 l j else if j = i then v else at0 l (j - 1) := by
  have hl := ins_length (v := v) hi
  have ht : (l.take i).length = i := by rw [List.length_take]; omega
  have e : (ins l i v)[j]? = some (if j < i then at0 l j else if j = i then v else at0 l (j - 1)) := by
    unfold ins
    rcases Nat.lt_trichotomy j i with h | h | h
    · rw [if_pos h, List.getElem?_append_left (by omega), List.getElem?_take_of_lt h, at0_eq (by omega), List.getElem?_eq_getElem (by omega)]
    · subst h
      rw [if_neg (by omega), if_pos rfl, List.getElem?_append_right (by omega), ht, Nat.sub_self]; rfl
    · rw [if_neg (by omega), if_neg (by omega), List.getElem?_append_right (by omega), ht, show j - i = (j - 1 - i) + 1 by omega, List.getElem?_cons_succ, List.getElem?_drop, show i + (j - 1 - i) = j - 1 by omega, at0_eq (by omega), List.getElem?_eq_getElem (by omega)]
  have e2 := List.getElem?_eq_getElem hj
  rw [e] at e2
  exact (Option.some.inj e2).symm
theorem ins_up {l : List Int} {x : Int} (hu : upI l = true) (hx : l.contains x = false) : upI (ins l (posI l x) x) = true := by
  have hp := posI_le (l := l) (x := x)
  have hl := ins_length (v := x) hp
  have nx : ∀ k (h : k < l.length), l[k] ≠ x := fun k h e => by
    rw [← Bool.not_eq_true, List.contains_iff_mem] at hx
    exact hx (e ▸ List.getElem_mem h)
  rw [upI_iff]
  intro i hi
  rw [ins_get hp, ins_get hp]
  have pl : ∀ k (h : k < l.length), (l[k] < x ↔ k < posI l x) := fun k h => posI_lt h hu
  rcases Nat.lt_trichotomy (i + 1) (posI l x) with h | h | h
  · rw [if_pos (by omega), if_pos h, at0_eq (by omega), at0_eq (by omega)]
    exact upI_iff.1 hu i (by omega)
  · rw [if_pos (by omega), if_neg (by omega), if_pos h, at0_eq (by omega)]
    exact (pl i (by omega)).2 (by omega)
  · have c1 : ¬ i < posI l x := by omega
    have c2 : ¬ i + 1 < posI l x := by omega
    have c3 : ¬ i + 1 = posI l x := by omega
    rw [if_neg c1, if_neg c2, if_neg c3]
    have h3 : i < l.length := by omega
    have h4 := (pl i h3)
    have h5 := nx i h3
    by_cases h2 : i = posI l x
    · rw [if_pos h2, Nat.add_sub_cancel, at0_eq h3]; omega
    · rw [if_neg h2, Nat.add_sub_cancel, at0_eq (by omega), at0_eq h3]
      exact upI_pairs hu _ _ _ _ (by omega)
theorem zip_ins {a b : List Int} {i : Nat} {x y : Int} (hl : a.length = b.length) (hi : i ≤ a.length) : (x, y) ∈ (ins a i x).zip (ins b i y) ∧ ∀ p, p ∈ a.zip b → p ∈ (ins a i x).zip (ins b i y) := by
  have e : (ins a i x).zip (ins b i y) = (a.take i).zip (b.take i) ++ (x, y) :: (a.drop i).zip (b.drop i) := by
    unfold ins
    rw [List.zip_append (by simp [hl]), List.zip_cons_cons]
  rw [e]
  refine ⟨by simp, fun p hp => ?_⟩
  rw [← List.take_append_drop i a, ← List.take_append_drop i b, List.zip_append (by simp [hl])] at hp
  rcases List.mem_append.1 hp with h | h
  · exact List.mem_append_left _ h
  · exact List.mem_append_right _ (List.mem_cons_of_mem _ h)
theorem no_greater {rate known n g : Int} {ts : List Tst} {days grams : List Int} {i : Nat} (hl : days.length = grams.length) (hi : i ≤ days.length) (hg : topV rate ts known (days.zip grams) n < g) : histB rate ts known ((ins days i n).zip (ins grams i g)) = false := by
  obtain ⟨h1, h2⟩ := zip_ins (x := n) (y := g) hl hi
  refine histB_f fun h => ?_
  have := topV_most (l := days.zip grams) h h2 h1
  omega
end Go.Proofs.YtgadlckkmhhmbaaDoor
