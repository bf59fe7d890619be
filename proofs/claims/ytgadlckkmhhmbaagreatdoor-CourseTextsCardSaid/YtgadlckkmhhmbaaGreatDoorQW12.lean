/- Texts: what is printed is parsed back; both sides parse the same. -/
import Derived.Test.YtgadlckkmhhmbaaGreatDoorQW11
import Derived.Test.YtgadlckkmhhmbaaGreatDoorQW8
import Derived.Test.YtgadlckkmhhmbaaGreatDoorQW9
set_option linter.unusedVariables false
set_option linter.unusedSimpArgs false
set_option linter.unusedSectionVars false
namespace Go.Proofs.YtgadlckkmhhmbaaGreatDoor
open Go.Awp Go.Grams
set_option linter.unusedSimpArgs false
set_option linter.unusedVariables false
theorem spl_hit {c : UInt8} : ∀ (a r : List UInt8), c ∉ a → splR c (a ++ c :: r) = a :: splR c r
  | [], r, _ => by conv => lhs; unfold splR
                   simp
  | x :: a, r, h => by
    have hx : x ≠ c := fun e => h (by rw [e]; exact List.mem_cons_self ..)
    have ih := spl_hit a r (fun hm => h (List.mem_cons_of_mem _ hm))
    rw [List.cons_append]
    conv => lhs; unfold splR
    rw [if_neg hx, ih]; rfl
theorem spl_last {c : UInt8} : ∀ (a : List UInt8), c ∉ a → splR c a = [a]
  | [], _ => rfl
  | x :: a, h => by
    have hx : x ≠ c := fun e => h (by rw [e]; exact List.mem_cons_self ..)
    have ih := spl_last a (fun hm => h (List.mem_cons_of_mem _ hm))
    unfold splR
    rw [if_neg hx, ih]; rfl
theorem spl_join {c : UInt8} : ∀ (ws : List (List UInt8)) (w : List UInt8), c ∉ w → (∀ v, v ∈ ws → c ∉ v) → splR c (w ++ (ws.map (c :: ·)).flatten) = w :: ws
  | [], w, hw, _ => by simpa using spl_last w hw
  | v :: r, w, hw, h => by
    have ih := spl_join r v (h v (by simp)) fun u hu => h u (by simp [hu])
    rw [List.map_cons, List.flatten_cons, List.cons_append, spl_hit _ _ hw, ih]
theorem itoa_chars {n : Int} (h : Sml n) : ∀ x, x ∈ Lib.itoa n → x = 45 ∨ dig x = true := by
  unfold Sml at h
  intro x hx
  by_cases hn : n < 0
  · have e : Lib.itoa n = 45 :: Lib.decDigits n.natAbs := by unfold Lib.itoa; rw [if_pos hn]
    rw [e] at hx
    rcases List.mem_cons.1 hx with h1 | h1
    · exact .inl h1
    · exact .inr ((List.all_eq_true.1 (dd14 (u := n.natAbs) (by omega)).1) x h1)
  · have e : Lib.itoa n = Lib.decDigits n.toNat := by unfold Lib.itoa; rw [if_neg hn]
    rw [e] at hx
    exact .inr ((List.all_eq_true.1 (dd14 (u := n.toNat) (by omega)).1) x hx)
theorem no32 {n : Int} (h : Sml n) : (32 : UInt8) ∉ Lib.itoa n := fun hm => by
  rcases itoa_chars h _ hm with e | e <;> exact absurd e (by decide)
theorem no47 {n : Int} (h : Sml n) : (47 : UInt8) ∉ Lib.itoa n := fun hm => by
  rcases itoa_chars h _ hm with e | e <;> exact absurd e (by decide)
theorem data_app (a b : ByteArray) : (a ++ b).data.toList = a.data.toList ++ b.data.toList := by simp [ByteArray.data_append]
theorem putB_data {sep : ByteArray} {c : UInt8} (hc : sep.data.toList = [c]) : ∀ (xs : List Int) (b : ByteArray), (putB sep xs b).data.toList = b.data.toList ++ ((xs.map Lib.itoa).map (c :: ·)).flatten
  | [], b => by simp [putB]
  | x :: r, b => by
    show (putB sep r (b ++ sep ++ itoaB x)).data.toList = _
    rw [putB_data hc r, data_app, data_app, hc, itoa_data]
    simp
theorem sml_few {n : Int} (h : Few n) : Sml n := by unfold Few at h; unfold Sml; omega
theorem words_put {xs : List Int} {w : ByteArray} (hw : (32 : UInt8) ∉ w.data.toList) (hx : ∀ x, x ∈ xs → Few x) : wordsB (putB bSp xs w) 32 = w :: xs.map itoaB := by
  unfold wordsB
  rw [putB_data (c := 32) rfl, spl_join _ _ hw (fun v hv => by
    obtain ⟨x, h1, rfl⟩ := List.mem_map.1 hv
    exact no32 (sml_few (hx x h1)))]
  rw [List.map_cons, ofL_data, List.map_map]
  rfl
theorem pt_print {t : Tst} (h : okT t = true) : ptT intO (prT t) = some t := by
  have hf := t_few h
  have e : prT t = putB bSp (tNums t) bTest := by unfold prT; rw [if_pos h]
  have hw := words_put (w := bTest) (by decide) hf
  unfold ptT
  rw [e, hw]
  have hn : nums intO ((bTest :: (tNums t).map itoaB).drop 1) 4 = some (tNums t) := by
    unfold nums
    rw [if_pos (by simp [tNums])]
    exact mapO_itoa _ fun x hx => sml_few (hf x hx)
  rw [hn]
  show (if _ ∧ okT (t.1, t.2.1, t.2.2.1, t.2.2.2) = true then some (t.1, t.2.1, t.2.2.1, t.2.2.2) else none) = some t
  rw [if_pos ⟨rfl, h⟩]
theorem okT_sml {a b c d : Int} (h : okT (a, b, c, d) = true) : ∀ y, y ∈ [a, b, c, d] → Sml y := fun y hy => sml_few (t_few h y hy)
theorem pt_same (s : ByteArray) : ptT intO s = ptT rintO s := by
  unfold ptT
  cases hr : nums rintO ((wordsB s 32).drop 1) 4 with
  | some l => rw [nums_down hr]
  | none =>
    cases hp : nums intO ((wordsB s 32).drop 1) 4 with
    | none => rfl
    | some l =>
      obtain ⟨a, b, c, d, rfl⟩ := nums_four hp
      simp only
      rw [if_neg]
      rintro ⟨-, hk⟩
      have := nums_up hp (okT_sml hk)
      rw [hr] at this; cases this
def stW (k : Stk) : List UInt8 := Lib.itoa k.1 ++ (([k.2.1, k.2.2.1, k.2.2.2.1, k.2.2.2.2].map Lib.itoa).map (47 :: ·)).flatten
theorem stakeB_data (b : ByteArray) (k : Stk) : (stakeB b k).data.toList = b.data.toList ++ (32 :: stW k) := by
  unfold stakeB
  rw [putB_data (c := 47) rfl, putB_data (c := 32) rfl]
  simp [stW]
theorem stakes_data : ∀ (st : List Stk) (b : ByteArray), (st.foldl stakeB b).data.toList = b.data.toList ++ ((st.map stW).map (32 :: ·)).flatten
  | [], b => by simp
  | k :: r, b => by
    rw [List.foldl_cons, stakes_data r, stakeB_data]
    simp
theorem few_stk {k : Stk} (h : okK k = true) : ∀ x, x ∈ [k.1, k.2.1, k.2.2.1, k.2.2.2.1, k.2.2.2.2] → Sml x := by
  obtain ⟨f1, f2, f3, f4, f5⟩ := stake_few h
  intro x hx
  simp at hx
  rcases hx with rfl | rfl | rfl | rfl | rfl <;> (apply sml_few; assumption)
theorem stW_no {k : Stk} (h : okK k = true) : (32 : UInt8) ∉ stW k := by
  have hf := few_stk h
  unfold stW
  intro hm
  rcases List.mem_append.1 hm with hm | hm
  · exact no32 (hf _ (by simp)) hm
  · obtain ⟨l, hl, hx⟩ := List.mem_flatten.1 hm
    obtain ⟨v, hv, rfl⟩ := List.mem_map.1 hl
    obtain ⟨x, hxx, rfl⟩ := List.mem_map.1 hv
    rcases List.mem_cons.1 hx with e | e
    · exact absurd e (by decide)
    · exact no32 (hf x (by simp at hxx ⊢; omega)) e
theorem stk_print {k : Stk} (h : okK k = true) : stk intO (ofL (stW k)) = some k := by
  have hf := few_stk h
  have hw : wordsB (ofL (stW k)) 47 = [k.1, k.2.1, k.2.2.1, k.2.2.2.1, k.2.2.2.2].map itoaB := by
    unfold wordsB
    rw [data_ofL]
    unfold stW
    rw [spl_join _ _ (no47 (hf _ (by simp))) (fun v hv => by
      obtain ⟨x, h1, rfl⟩ := List.mem_map.1 hv
      exact no47 (hf x (by simp at h1 ⊢; omega)))]
    rfl
  unfold stk
  rw [hw]
  have hn : nums intO ([k.1, k.2.1, k.2.2.1, k.2.2.2.1, k.2.2.2.2].map itoaB) 5 = some [k.1, k.2.1, k.2.2.1, k.2.2.2.1, k.2.2.2.2] := by
    unfold nums
    rw [if_pos (by simp)]
    exact mapO_itoa _ hf
  rw [hn]
theorem mapO_stk : ∀ (st : List Stk), (∀ k, k ∈ st → okK k = true) → mapO (stk intO) (st.map fun k => ofL (stW k)) = some st
  | [], _ => rfl
  | k :: r, h => by
    simp only [List.map_cons, mapO, stk_print (h k (by simp)), mapO_stk r fun q hq => h q (by simp [hq])]
theorem sh_few {s : Sht} (h : okSh s = true) : ∀ x, x ∈ shNums s → Few x := by
  obtain ⟨n1, n2, n3, d1, d2, d3, ge, hm, hn, hk⟩ := okSh_iff.1 h
  simp [okNo, okDay, okGram] at n1 n2 n3 d1 d2 d3 ge
  intro x hx
  simp [shNums] at hx
  rcases hx with rfl | rfl | rfl | rfl | rfl | rfl | rfl | rfl <;> omega
theorem ps_print {s : Sht} (h : okSh s = true) : psS intO (prS s) = some s := by
  have hf := sh_few h
  obtain ⟨n1, n2, n3, d1, d2, d3, ge, hm, hn, hk⟩ := okSh_iff.1 h
  have hw : wordsB (prS s) 32 = bSheet :: ((shNums s).map itoaB ++ s.st.map fun k => ofL (stW k)) := by
    unfold wordsB prS sheetB
    rw [if_pos h, stakes_data, putB_data (c := 32) rfl, List.append_assoc, ← List.flatten_append, ← List.map_append]
    rw [spl_join _ _ (by decide) (fun v hv => by
      rcases List.mem_append.1 hv with hv | hv
      · obtain ⟨x, h1, rfl⟩ := List.mem_map.1 hv
        exact no32 (sml_few (hf x h1))
      · obtain ⟨k, h1, rfl⟩ := List.mem_map.1 hv
        exact stW_no (hk k h1))]
    rw [List.map_cons, ofL_data, List.map_append, List.map_map, List.map_map]
    rfl
  unfold psS
  rw [hw]
  have l8 : ((shNums s).map itoaB).length = 8 := by simp [shNums]
  unfold psW
  rw [if_neg (by simp [shNums])]
  have e1 : ((bSheet :: ((shNums s).map itoaB ++ s.st.map fun k => ofL (stW k))).take 9).drop 1 = (shNums s).map itoaB := by
    rw [List.take_succ_cons, List.drop_succ_cons, List.drop_zero, List.take_append_of_le_length (by omega), List.take_of_length_le (by omega)]
  have e2 : (bSheet :: ((shNums s).map itoaB ++ s.st.map fun k => ofL (stW k))).drop 9 = s.st.map fun k => ofL (stW k) := by
    rw [List.drop_succ_cons, List.drop_append_of_le_length (by omega), List.drop_eq_nil_of_le (by omega), List.nil_append]
  have hn8 : nums intO ((shNums s).map itoaB) 8 = some (shNums s) := by
    unfold nums
    rw [if_pos l8]
    exact mapO_itoa _ fun x hx => sml_few (hf x hx)
  rw [e1, e2, mapO_stk _ hk, hn8]
  show psFin s.no s.cell s.day s.known s.scale s.mouth s.empty s.emptyDay (some s.st) = some s
  rw [psFin_some, if_pos h]
theorem stk_down {t : ByteArray} {k : Stk} (h : stk rintO t = some k) : stk intO t = some k := by
  unfold stk at h ⊢
  cases hr : nums rintO (wordsB t 47) 5 with
  | none => rw [hr] at h; cases h
  | some l => rw [hr] at h; rw [nums_down hr]; exact h
theorem stk_up {t : ByteArray} {k : Stk} (h : stk intO t = some k) (hk : okK k = true) : stk rintO t = some k := by
  unfold stk at h ⊢
  cases hp : nums intO (wordsB t 47) 5 with
  | none => rw [hp] at h; cases h
  | some l =>
    rw [hp] at h
    obtain ⟨a, b, c, d, e, rfl⟩ := nums_five hp
    cases h
    rw [nums_up hp (few_stk hk)]
theorem psN_some {o : Option (List Stk)} {n : Option (List Int)} {x : Sht} (h : psN o n = some x) : ∃ l st, n = some l ∧ o = some st ∧ okSh x = true ∧ l = shNums x ∧ st = x.st := by
  unfold psN at h
  split at h
  · unfold psFin at h
    split at h
    · split at h
      · rename_i hk; cases h; exact ⟨_, _, rfl, rfl, hk, rfl, rfl⟩
      · cases h
    · cases h
  · cases h
theorem ps_same (s : ByteArray) : psS intO s = psS rintO s := by
  unfold psS
  obtain ⟨ws, hw⟩ : ∃ ws, ws = wordsB s 32 := ⟨_, rfl⟩
  rw [← hw]
  unfold psW
  split
  · rfl
  · cases hr : psN (mapO (stk rintO) (ws.drop 9)) (nums rintO ((ws.take 9).drop 1) 8) with
    | some x =>
      obtain ⟨l, st, h1, h2, h3, h4, h5⟩ := psN_some hr
      rw [nums_down h1, mapO_imp (P := fun _ => True) (fun _ _ h _ => stk_down h) h2 fun _ _ => trivial, ← hr, h1, h2]
    | none =>
      cases hp : psN (mapO (stk intO) (ws.drop 9)) (nums intO ((ws.take 9).drop 1) 8) with
      | none => rfl
      | some x =>
        exfalso
        obtain ⟨l, st, h1, h2, h3, h4, h5⟩ := psN_some hp
        have hk := (okSh_iff.1 h3).2.2.2.2.2.2.2.2.2
        have u1 := nums_up h1 (by rw [h4]; exact fun y hy => sml_few (sh_few h3 y hy))
        have u2 := mapO_imp (P := fun k => okK k = true) (fun _ _ h hk => stk_up h hk) h2 (by rw [h5]; exact hk)
        rw [u1, u2, ← h1, ← h2, hp] at hr
        cases hr
end Go.Proofs.YtgadlckkmhhmbaaGreatDoor
