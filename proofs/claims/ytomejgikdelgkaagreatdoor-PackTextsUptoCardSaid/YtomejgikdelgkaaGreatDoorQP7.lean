/- Texts of steps: what is printed is parsed back; both sides parse the same. -/
import Derived.Test.YtomejgikdelgkaaGreatDoorQP4
set_option linter.unusedVariables false
set_option linter.unusedSimpArgs false
set_option linter.unusedSectionVars false
namespace Go.Proofs.YtomejgikdelgkaaGreatDoor
open Go.Awp Go.Snow
set_option linter.unusedSimpArgs false
set_option linter.unusedVariables false
set_option maxRecDepth 10000
theorem of_dataP {a b : ByteArray} (h : a.data.toList = b.data.toList) : a = b := by rw [← ofL_data a, h, ofL_data]
theorem itoa_pos {n : Int} (h : 0 ≤ n) : Lib.itoa n = Lib.decDigits n.toNat := by unfold Lib.itoa; rw [if_neg (by omega)]
/-- What words join to, they are split from. -/
theorem spl_back {c : UInt8} : ∀ l : List UInt8, ∃ w ws, splR c l = w :: ws ∧ l = w ++ (ws.map (c :: ·)).flatten
  | [] => ⟨[], [], rfl, rfl⟩
  | x :: r => by
    obtain ⟨w, ws, h1, h2⟩ := spl_back r
    unfold splR
    split
    · rename_i h
      refine ⟨[], w :: ws, by rw [h1], ?_⟩
      rw [List.nil_append, List.map_cons, List.flatten_cons, h, List.cons_append]
      conv => lhs; rw [h2]
    · refine ⟨x :: w, ws, by rw [h1]; rfl, ?_⟩
      rw [List.cons_append]
      conv => lhs; rw [h2]
theorem words_back {s : ByteArray} {c : UInt8} {w : ByteArray} {ws : List ByteArray} (h : wordsB s c = w :: ws) : s.data.toList = w.data.toList ++ ((ws.map (·.data.toList)).map (c :: ·)).flatten := by
  obtain ⟨v, vs, h1, h2⟩ := spl_back (c := c) s.data.toList
  unfold wordsB at h
  rw [h1, List.map_cons] at h
  obtain ⟨rfl, rfl⟩ := List.cons.inj h
  rw [data_ofL]
  simp only [List.map_map, Function.comp_def, data_ofL]
  exact h2
theorem intV_is {w : ByteArray} (h : (intV w).2 = true) : w = itoaB (intV w).1 := by
  unfold intV at h ⊢
  simp only [Bool.and_eq_true, beqB, decide_eq_true_eq] at h ⊢
  exact h.2.symm
theorem intV_of {n : Int} (h : Sml n) : intV (itoaB n) = (n, true) := by
  have := int_itoa h
  unfold intO at this
  split at this
  · rename_i h1
    have h2 := Option.some.inj this
    exact Prod.ext h2 h1
  · cases this
theorem nm_back : ∀ {ws : List ByteArray}, nmB ws = true → ws = (nmV ws).map itoaB
  | [], _ => rfl
  | w :: r, h => by
    simp only [nmB, List.all_cons, Bool.and_eq_true] at h
    have ih := nm_back (ws := r) h.2
    show w :: r = itoaB (intV w).1 :: (nmV r).map itoaB
    rw [← intV_is h.1, ← ih]
theorem nm_of : ∀ {l : List Int}, (∀ x, x ∈ l → Sml x) → nmV (l.map itoaB) = l ∧ nmB (l.map itoaB) = true
  | [], _ => ⟨rfl, rfl⟩
  | x :: r, h => by
    obtain ⟨i1, i2⟩ := nm_of (l := r) fun y hy => h y (by simp [hy])
    have e := intV_of (h x (by simp))
    refine ⟨?_, ?_⟩
    · show (intV (itoaB x)).1 :: nmV (r.map itoaB) = x :: r
      rw [e, i1]
    · show ((intV (itoaB x)).2 && nmB (r.map itoaB)) = true
      rw [e, i2]; rfl
theorem sml_of {n : Int} (h0 : 0 ≤ n) (h1 : n ≤ 65536) : Sml n := by unfold Sml; omega
theorem notin {w : ByteArray} {l : List ByteArray} (h : w.data.toList ∉ l.map (·.data.toList)) : w ∉ l := fun hm => h (List.mem_map_of_mem hm)
theorem len_one {l : List Int} (h : l.length = 1) : ∃ a, l = [a] := List.length_eq_one_iff.1 h
theorem len_two {l : List Int} (h : l.length = 2) : ∃ a b, l = [a, b] := by
  match l, h with
  | [a, b], _ => exact ⟨a, b, rfl⟩
theorem ix_kw {k : Int} (h1 : 1 ≤ k) (h2 : k ≤ 6) : ixS (kw k) kinds = k - 1 := by
  have : k = 1 ∨ k = 2 ∨ k = 3 ∨ k = 4 ∨ k = 5 ∨ k = 6 := by omega
  rcases this with rfl | rfl | rfl | rfl | rfl | rfl
  · exact ixS_hit (k := 0) (by decide) rfl (notin (by decide))
  · exact ixS_hit (k := 1) (by decide) rfl (notin (by decide))
  · exact ixS_hit (k := 2) (by decide) rfl (notin (by decide))
  · exact ixS_hit (k := 3) (by decide) rfl (notin (by decide))
  · exact ixS_hit (k := 4) (by decide) rfl (notin (by decide))
  · exact ixS_hit (k := 5) (by decide) rfl (notin (by decide))
theorem ix_is : ∀ {l : List ByteArray} {w : ByteArray}, 0 ≤ ixS w l → l[(ixS w l).toNat]? = some w
  | [], w, h => by simp [ixS] at h
  | x :: r, w, h => by
    unfold ixS at h ⊢
    split
    · rename_i e; rw [e]; rfl
    · rename_i e
      rw [if_neg e] at h
      split at h
      · omega
      · rename_i h2
        rw [if_neg h2]
        have ih := ix_is (l := r) (w := w) (by omega)
        have : (ixS w r + 1).toNat = (ixS w r).toNat + 1 := by omega
        rw [this, List.getElem?_cons_succ]; exact ih
theorem kw_no : ∀ k : Int, 1 ≤ k → k ≤ 6 → (32 : UInt8) ∉ (kw k).data.toList ∧ (kw k).data.toList.all (fun x => !dig x) = true := by
  intro k h1 h2
  have : k = 1 ∨ k = 2 ∨ k = 3 ∨ k = 4 ∨ k = 5 ∨ k = 6 := by omega
  rcases this with rfl | rfl | rfl | rfl | rfl | rfl <;> exact ⟨by decide, by decide⟩
/-- The numbers in the text of a step. -/
def stN (s : Lay) : List Int := if s.1 = 1 then [s.2.1, s.2.2] else [s.2.1]
theorem stepT_data (s : Lay) : (stepT s).data.toList = (kw s.1).data.toList ++ (((stN s).map Lib.itoa).map (32 :: ·)).flatten := by
  unfold stepT stN
  rw [data_app, data_app, data_app, itoa_data]
  by_cases h : s.1 = 1
  · simp only [h, if_true, data_app, itoa_data, List.map_cons, List.map_nil, List.flatten_cons, List.flatten_nil]
    simp
  · simp only [h, if_false, List.map_cons, List.map_nil, List.flatten_cons, List.flatten_nil]
    simp
theorem stN_bd {s : Lay} (h : okL s = true) : ∀ x, x ∈ stN s → 0 ≤ x ∧ x ≤ 65536 := by
  have hb := okL_bd h
  intro x hx
  unfold stN at hx
  split at hx <;> simp at hx
  · rcases hx with rfl | rfl <;> omega
  · subst hx; omega
theorem words_step {s : Lay} (h : okL s = true) : wordsB (stepT s) 32 = kw s.1 :: (stN s).map itoaB := by
  have hb := okL_bd h
  unfold wordsB
  rw [stepT_data, spl_join _ _ (kw_no s.1 hb.1 hb.2.1).1 (fun v hv => by
    obtain ⟨x, h1, rfl⟩ := List.mem_map.1 hv
    have := stN_bd h x h1
    exact no32 (sml_of this.1 this.2))]
  rw [List.map_cons, ofL_data, List.map_map]
  rfl
theorem ppS_of {s : Lay} (h : okL s = true) : ppS (stepT s) = some s := by
  have hb := okL_bd h
  unfold ppS
  rw [words_step h]
  show ppW (kw s.1) ((stN s).map itoaB) = some s
  obtain ⟨n1, n2⟩ := nm_of (l := stN s) fun x hx => by have := stN_bd h x hx; exact sml_of this.1 this.2
  have hx : ppX (kw s.1) ((stN s).map itoaB) = s := by
    unfold ppX
    rw [n1, ix_kw hb.1 hb.2.1]
    obtain ⟨k, m, c⟩ := s
    simp only at hb ⊢
    unfold stN
    by_cases h1 : k = 1
    · subst h1; simp [gd]
    · have hc := hb.2.2.2.2.2.2 h1
      have : ¬ k - 1 = 0 := by omega
      simp only [h1, if_false, this]
      simp [gd]
      omega
  unfold ppW
  rw [hx, n1, n2, if_pos]
  refine ⟨rfl, ?_, h⟩
  rw [ix_kw hb.1 hb.2.1]
  unfold stN
  by_cases h1 : s.1 = 1
  · rw [if_pos h1, if_pos (by omega)]; rfl
  · rw [if_neg h1, if_neg (by omega)]; rfl
theorem ppS_is {t : ByteArray} {s : Lay} (h : ppS t = some s) : okL s = true ∧ stepT s = t := by
  unfold ppS at h
  split at h
  · rename_i w0 ws hw
    unfold ppW at h
    by_cases hc : nmB ws = true ∧ (nmV ws).length = (if ixS w0 kinds = 0 then 2 else 1) ∧ okL (ppX w0 ws) = true
    · rw [if_pos hc] at h
      obtain ⟨c1, c2, c3⟩ := hc
      obtain rfl := Option.some.inj h
      refine ⟨c3, of_dataP ?_⟩
      have hb := okL_bd c3
      have hk : (ppX w0 ws).1 = 1 + ixS w0 kinds := rfl
      have h0 : 0 ≤ ixS w0 kinds := by omega
      have hw0 := ix_is h0
      have ekw : kw (ppX w0 ws).1 = w0 := by
        unfold kw
        rw [hk, show 1 + ixS w0 kinds - 1 = ixS w0 kinds by omega, hw0]; rfl
      have eN : stN (ppX w0 ws) = nmV ws := by
        unfold stN
        rw [hk]
        by_cases hi : ixS w0 kinds = 0
        · rw [if_pos hi] at c2
          rw [if_pos (by omega)]
          obtain ⟨a, b, hn⟩ := len_two c2
          unfold ppX; rw [hn, if_pos hi]; rfl
        · rw [if_neg hi] at c2
          rw [if_neg (by omega)]
          obtain ⟨a, hn⟩ := len_one c2
          unfold ppX; rw [hn]; rfl
      rw [stepT_data, ekw, eN, words_back hw]
      congr 2
      conv => rhs; rw [nm_back c1]
      rw [List.map_map, List.map_map, List.map_map]
      congr 1
    · rw [if_neg hc] at h; cases h
  · cases h
-- numerals
theorem fold_non : ∀ {l : List UInt8}, l ≠ [] → l.all (fun x => !dig x) = true → ∀ s : NSt, l.foldl nst s = (nall s, none)
  | [x], _, h, s => by
    simp only [List.all_cons, List.all_nil, Bool.and_true, Bool.not_eq_true'] at h
    simp only [List.foldl_cons, List.foldl_nil, nst, h, Bool.false_eq_true, if_false, nall]
  | x :: y :: r, _, h, s => by
    simp only [List.all_cons, Bool.and_eq_true, Bool.not_eq_true'] at h
    have ih := fold_non (l := y :: r) (by simp) (by simp [h.2]) (nst s x)
    rw [List.foldl_cons, ih]
    simp only [nst, h.1, Bool.false_eq_true, if_false, nall, Option.toList_none, List.append_nil]
theorem fold_dig (d : List Int) : ∀ (n u : Nat), u ≤ n → u ≤ 1073741824 → (Lib.decDigits u).foldl nst (d, none) = (d, some (u : Int))
  | n, u, hn, hu => by
    by_cases h : u < 10
    · rw [dd_small h, List.foldl_cons, List.foldl_nil]
      unfold nst
      rw [if_pos (dig48 h), of48 h]
      simp only [Option.getD_none]
      congr 2; omega
    · rw [dd_big h, List.foldl_append]
      match n, hn with
      | 0, hn => exact absurd h (by omega)
      | n + 1, hn =>
        rw [fold_dig d n (u / 10) (by omega) (by omega), List.foldl_cons, List.foldl_nil]
        unfold nst
        rw [if_pos (dig48 (by omega)), of48 (by omega)]
        simp only [Option.getD_some]
        congr 2; omega
theorem fold_num {n : Int} (h0 : 0 ≤ n) (h1 : n ≤ 65536) (d : List Int) : (Lib.itoa n).foldl nst (d, none) = (d, some n) := by
  rw [itoa_pos h0, fold_dig d n.toNat n.toNat (Nat.le_refl _) (by omega), Int.toNat_of_nonneg h0]
theorem fold_sp {n : Int} (h0 : 0 ≤ n) (h1 : n ≤ 65536) {c : UInt8} (hc : dig c = false) (s : NSt) : (c :: Lib.itoa n).foldl nst s = (nall s, some n) := by
  rw [List.foldl_cons]
  have : nst s c = (nall s, none) := by unfold nst; rw [if_neg (by simp [hc])]; rfl
  rw [this, fold_num h0 h1]
theorem fold_all : ∀ (l : List Int), (∀ x, x ∈ l → 0 ≤ x ∧ x ≤ 65536) → ∀ s : NSt, nall (((l.map Lib.itoa).map (32 :: ·)).flatten.foldl nst s) = nall s ++ l
  | [], _, s => by simp
  | x :: r, h, s => by
    have hx := h x (by simp)
    rw [List.map_cons, List.map_cons, List.flatten_cons, List.foldl_append, fold_sp hx.1 hx.2 (by decide), fold_all r fun y hy => h y (by simp [hy])]
    simp [nall]
theorem numl_step {s : Lay} (h : okL s = true) : numl (stepT s) = stN s := by
  have hb := okL_bd h
  unfold numl nfold
  rw [stepT_data, List.foldl_append, fold_all _ (stN_bd h)]
  have hk := (kw_no s.1 hb.1 hb.2.1).2
  have hne : (kw s.1).data.toList ≠ [] := by
    have : s.1 = 1 ∨ s.1 = 2 ∨ s.1 = 3 ∨ s.1 = 4 ∨ s.1 = 5 ∨ s.1 = 6 := by omega
    rcases this with e | e | e | e | e | e <;> rw [e] <;> decide
  rw [fold_non hne hk]
  simp [nall]
theorem cand_is {s : Lay} (h : okL s = true) : cand (stN s) s.1.toNat = s := by
  have hb := okL_bd h
  obtain ⟨k, m, c⟩ := s
  simp only at hb ⊢
  unfold cand stN
  simp only
  by_cases h1 : k = 1
  · subst h1; simp [gd]
  · have hc := hb.2.2.2.2.2.2 h1
    have : ¬ k.toNat = 1 := by omega
    simp only [h1, this, if_false]
    refine Prod.ext ?_ (Prod.ext ?_ ?_)
    · simp; omega
    · simp [gd]
    · simp; omega
theorem prG_is {l : List Int} {t : ByteArray} : ∀ {f k : Nat} {s : Lay}, prG l t k f = some s → okL s = true ∧ stepT s = t
  | 0, k, s, h => by cases h
  | f + 1, k, s, h => by
    unfold prG at h
    split at h
    · rename_i hc; obtain rfl := Option.some.inj h; exact hc
    · exact prG_is h
theorem step_uniq {x y : Lay} {t : ByteArray} (hx : okL x = true ∧ stepT x = t) (hy : okL y = true ∧ stepT y = t) : x = y := by
  have h1 := ppS_of hx.1
  have h2 := ppS_of hy.1
  rw [hx.2] at h1; rw [hy.2] at h2
  exact Option.some.inj (h1.symm.trans h2)
theorem prG_of {t : ByteArray} {s : Lay} (h : okL s = true ∧ stepT s = t) : ∀ {f k : Nat}, k ≤ s.1.toNat → s.1.toNat < k + f → prG (stN s) t k f = some s
  | 0, k, h1, h2 => by omega
  | f + 1, k, h1, h2 => by
    unfold prG
    split
    · rename_i hc; rw [step_uniq hc h]
    · rename_i hc
      refine prG_of h ?_ (by omega)
      rcases Nat.lt_or_ge k s.1.toNat with h3 | h3
      · omega
      · exfalso
        have : k = s.1.toNat := by omega
        rw [this, cand_is h.1] at hc
        exact hc h
theorem step_same (t : ByteArray) : prS t = ppS t := by
  cases hp : ppS t with
  | some s =>
    have h := ppS_is hp
    have hb := okL_bd h.1
    unfold prS
    have e : numl t = stN s := by rw [← h.2]; exact numl_step h.1
    rw [e]
    exact prG_of h (by omega) (by omega)
  | none =>
    cases hr : prS t with
    | none => rfl
    | some s =>
      have h := prG_is hr
      have := ppS_of h.1
      rw [h.2, hp] at this; cases this
end Go.Proofs.YtomejgikdelgkaaGreatDoor
