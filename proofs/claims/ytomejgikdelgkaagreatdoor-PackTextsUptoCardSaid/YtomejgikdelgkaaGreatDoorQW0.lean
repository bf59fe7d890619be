/- Plain facts about texts: words between signs. -/
import Derived.Test.YtomejgikdelgkaaGreatDoorA7
import Derived.Lib.SplitLaws
import Derived.Lib.Split
set_option linter.unusedVariables false
set_option linter.unusedSimpArgs false
set_option linter.unusedSectionVars false
namespace Go.Awp
set_option linter.unusedSimpArgs false
set_option linter.unusedVariables false
def consH (x : UInt8) : List (List UInt8) → List (List UInt8)
  | h :: t => (x :: h) :: t
  | [] => [[x]]
/-- The words of a text between signs. -/
def splR (c : UInt8) : List UInt8 → List (List UInt8)
  | [] => [[]]
  | x :: r => if x = c then [] :: splR c r else consH x (splR c r)
def consL (cur : List UInt8) : List (List UInt8) → List (List UInt8)
  | h :: t => (cur ++ h) :: t
  | [] => [cur]
theorem splR_ne (c : UInt8) : ∀ l, splR c l ≠ []
  | [] => by simp [splR]
  | x :: r => by
    unfold splR
    split
    · simp
    · cases splR c r <;> simp [consH]
theorem splitK_cons {c x : UInt8} (hx : x ≠ c) : ∀ (k : Nat) (r : List UInt8), Lib.splitK [c] 0 k (x :: r) = consH x (Lib.splitK [c] 0 k r)
  | 0, r => rfl
  | k + 1, r => by
    have hi : Lib.index (x :: r) [c] = if Lib.index r [c] == -1 then -1 else Lib.index r [c] + 1 := by
      have : ([c].isPrefixOf (x :: r)) = false := by simp [List.isPrefixOf, Ne.symm hx]
      rw [Lib.index, this]; rfl
    have hge : -1 ≤ Lib.index r [c] := by rw [Lib.index_one]; exact Lib.indexByte_ge r c
    unfold Lib.splitK
    rw [hi]
    by_cases h : (Lib.index r [c] == -1) = true
    · simp [h, consH]
    · have h' : Lib.index r [c] ≠ -1 := by simpa using h
      obtain ⟨i, hi2⟩ : ∃ i : Nat, Lib.index r [c] = i := ⟨(Lib.index r [c]).toNat, by omega⟩
      rw [hi2]
      have e1 : ((i : Int) == -1) = false := by simp
      have e2 : ((i : Int) + 1 == -1) = false := by simp; omega
      have e3 : ((i : Int) + 1).toNat = i + 1 := by omega
      simp [e1, e2, e3, consH, Nat.add_assoc]
theorem splitK_hit (c : UInt8) (k : Nat) (r : List UInt8) : Lib.splitK [c] 0 (k + 1) (c :: r) = [] :: Lib.splitK [c] 0 k r := by
  have hi : Lib.index (c :: r) [c] = 0 := by
    have : ([c].isPrefixOf (c :: r)) = true := by simp [List.isPrefixOf]
    rw [Lib.index, this]; rfl
  show (if Lib.index (c :: r) [c] == -1 then [c :: r] else (c :: r).take ((Lib.index (c :: r) [c]).toNat + 0) :: Lib.splitK [c] 0 k ((c :: r).drop ((Lib.index (c :: r) [c]).toNat + [c].length))) = _
  rw [hi]; rfl
theorem split_splR (c : UInt8) : ∀ l : List UInt8, Lib.splitK [c] 0 (l.count c) l = splR c l
  | [] => rfl
  | x :: r => by
    unfold splR
    by_cases h : x = c
    · subst h
      rw [if_pos rfl, List.count_cons_self, splitK_hit, split_splR x r]
    · rw [if_neg h, List.count_cons_of_ne (by simpa using h), splitK_cons h, split_splR c r]
def ofL (l : List UInt8) : ByteArray := ⟨l.toArray⟩
theorem ofL_data (s : ByteArray) : ofL s.data.toList = s := by
  cases s; simp [ofL]
theorem data_ofL (l : List UInt8) : (ofL l).data.toList = l := by simp [ofL]
def wordsB (s : ByteArray) (c : UInt8) : List ByteArray := (splR c s.data.toList).map ofL
theorem splitB_words (s : ByteArray) (c : UInt8) : Lib.splitB ⟨#[c]⟩ 0 (Lib.countB s ⟨#[c]⟩) s = wordsB s c := by
  have h1 := Lib.splitB_data ⟨#[c]⟩ 0 (Lib.countB s ⟨#[c]⟩) s
  have h2 : Lib.countB s ⟨#[c]⟩ = s.data.toList.count c := by unfold Lib.countB; exact Lib.count_one c _
  rw [h2] at h1 ⊢
  rw [show (ByteArray.mk #[c]).data.toList = [c] from rfl, split_splR] at h1
  unfold wordsB
  rw [← h1, List.map_map]
  have : (ofL ∘ fun x : ByteArray => x.data.toList) = id := by funext x; exact ofL_data x
  rw [this, List.map_id]
end Go.Awp
