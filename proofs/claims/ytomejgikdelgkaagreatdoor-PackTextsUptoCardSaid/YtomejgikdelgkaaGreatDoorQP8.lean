/- Texts of packs: what is printed is parsed back; both sides parse the same. -/
import Derived.Test.YtomejgikdelgkaaGreatDoorQP7
import Derived.Test.YtomejgikdelgkaaGreatDoorQP6
set_option linter.unusedVariables false
set_option linter.unusedSimpArgs false
set_option linter.unusedSectionVars false
namespace Go.Proofs.YtomejgikdelgkaaGreatDoor
open Go.Awp Go.Snow
set_option linter.unusedSimpArgs false
set_option linter.unusedVariables false
set_option maxRecDepth 10000
theorem wordV_data (l : Lay) : (wordV l).data.toList = Lib.itoa l.1 ++ (([l.2.1, l.2.2].map Lib.itoa).map (47 :: ·)).flatten := by
  unfold wordV
  rw [data_app, data_app, data_app, data_app, itoa_data, itoa_data, itoa_data, show sl.data.toList = [47] from rfl]
  simp
theorem right_bd {l : Lay} (h : right l = true) : (0 ≤ l.1 ∧ l.1 ≤ 65536) ∧ (0 ≤ l.2.1 ∧ l.2.1 ≤ 65536) ∧ 0 ≤ l.2.2 ∧ l.2.2 ≤ 65536 := by
  have := right_iff.1 h; omega
theorem no_lay {l : Lay} (h : right l = true) : (32 : UInt8) ∉ (wordV l).data.toList := by
  obtain ⟨h1, h2, h3⟩ := right_bd h
  rw [wordV_data]
  intro hm
  rcases List.mem_append.1 hm with hm | hm
  · exact no32 (sml_of h1.1 h1.2) hm
  · simp only [List.map_cons, List.map_nil, List.flatten_cons, List.flatten_nil, List.append_nil, List.cons_append, List.mem_cons, List.mem_append] at hm
    rcases hm with hm | hm | hm | hm
    · exact absurd hm (by decide)
    · exact no32 (sml_of h2.1 h2.2) hm
    · exact absurd hm (by decide)
    · exact no32 (sml_of h3.1 h3.2) hm
theorem lay_of {l : Lay} (h : right l = true) : layO (wordV l) = some l := by
  obtain ⟨h1, h2, h3⟩ := right_bd h
  have hw : wordsB (wordV l) 47 = [l.1, l.2.1, l.2.2].map itoaB := by
    unfold wordsB
    rw [wordV_data, spl_join _ _ (no47 (sml_of h1.1 h1.2)) (fun v hv => by
      obtain ⟨x, hx, rfl⟩ := List.mem_map.1 hv
      simp at hx
      rcases hx with rfl | rfl
      · exact no47 (sml_of h2.1 h2.2)
      · exact no47 (sml_of h3.1 h3.2))]
    rfl
  obtain ⟨n1, n2⟩ := nm_of (l := [l.1, l.2.1, l.2.2]) fun x hx => by
    simp at hx
    rcases hx with rfl | rfl | rfl <;> apply sml_of <;> omega
  unfold layO
  rw [hw, n1, n2]; rfl
theorem lay_is {w : ByteArray} {l : Lay} (h : layO w = some l) : w = wordV l := by
  unfold layO at h
  split at h
  · rename_i hb
    unfold lay3 at h
    split at h
    · rename_i a b c hn
      obtain rfl := Option.some.inj h
      have hk := nm_back hb
      rw [hn] at hk
      apply of_dataP
      rw [words_back (s := w) (c := 47) (w := itoaB a) (ws := [itoaB b, itoaB c]) hk, wordV_data]
      simp [itoa_data]
    · cases h
  · cases h
theorem mapO_lay_is : ∀ {ws : List ByteArray} {ls : List Lay}, mapO layO ws = some ls → ws = ls.map wordV
  | [], ls, h => by cases h; rfl
  | w :: r, ls, h => by
    simp only [mapO] at h
    split at h
    · rename_i y l h1 h2
      cases h
      rw [List.map_cons, ← lay_is h1, ← mapO_lay_is h2]
    · cases h
theorem mapO_lay_of : ∀ {ls : List Lay}, (∀ l, l ∈ ls → right l = true) → mapO layO (ls.map wordV) = some ls
  | [], _ => rfl
  | l :: r, h => by
    have ih := mapO_lay_of (ls := r) fun x hx => h x (List.mem_cons_of_mem _ hx)
    simp only [List.map_cons, mapO, lay_of (h l (List.mem_cons_self ..)), ih]
theorem words_pack {ls : List Lay} (h : ∀ l, l ∈ ls → right l = true) : wordsB (textV ls) 32 = pk :: ls.map wordV := by
  unfold wordsB
  rw [textV_data, spl_join _ _ (by decide) (fun v hv => by
    obtain ⟨l, hl, rfl⟩ := List.mem_map.1 hv
    exact no_lay (h l hl)), List.map_cons, List.map_map]
  simp only [Function.comp_def, ofL_data]
  rfl
theorem pkP_of {ls : List Lay} (h : okP ls = true) : pkP (textV ls) = some ls := by
  have hR := (okP_iff.1 h).2.1
  unfold pkP
  rw [words_pack hR]
  simp only [List.head?_cons, if_true, List.drop_succ_cons, List.drop_zero, mapO_lay_of hR, h]
theorem pkP_is {t : ByteArray} {ls : List Lay} (h : pkP t = some ls) : okP ls = true ∧ textV ls = t := by
  unfold pkP at h
  split at h
  · rename_i h0
    split at h
    · rename_i l hm
      split at h
      · rename_i hk
        obtain rfl := Option.some.inj h
        refine ⟨hk, of_dataP ?_⟩
        cases hw : wordsB t 32 with
        | nil => exact absurd hw (wordsB_ne t 32)
        | cons w ws =>
          rw [hw] at h0 hm
          obtain rfl := Option.some.inj h0
          rw [List.drop_succ_cons, List.drop_zero] at hm
          rw [textV_data, words_back hw, mapO_lay_is hm]
          simp only [List.map_map, Function.comp_def]
      · cases h
    · cases h
  · cases h
theorem fold_lay {l : Lay} (h : right l = true) (s : NSt) : (32 :: (wordV l).data.toList).foldl nst s = (nall s ++ [l.1, l.2.1], some l.2.2) := by
  obtain ⟨h1, h2, h3⟩ := right_bd h
  rw [wordV_data, ← List.cons_append, List.foldl_append, fold_sp h1.1 h1.2 (by decide)]
  simp only [List.map_cons, List.map_nil, List.flatten_cons, List.flatten_nil, List.append_nil]
  rw [List.foldl_append, fold_sp h2.1 h2.2 (by decide), fold_sp h3.1 h3.2 (by decide)]
  simp [nall]
def flat3 (ls : List Lay) : List Int := (ls.map fun l => [l.1, l.2.1, l.2.2]).flatten
theorem fold_lays : ∀ (ls : List Lay), (∀ l, l ∈ ls → right l = true) → ∀ s : NSt, nall (((ls.map fun l => (wordV l).data.toList).map (32 :: ·)).flatten.foldl nst s) = nall s ++ flat3 ls
  | [], _, s => by simp [flat3]
  | l :: r, h, s => by
    rw [List.map_cons, List.map_cons, List.flatten_cons, List.foldl_append, fold_lay (h l (by simp)), fold_lays r fun y hy => h y (by simp [hy])]
    simp [nall, flat3]
theorem numl_pack {ls : List Lay} (h : ∀ l, l ∈ ls → right l = true) : numl (textV ls) = flat3 ls := by
  unfold numl nfold
  rw [textV_data, List.foldl_append, fold_lays _ h, fold_non (by decide) (by decide)]
  simp [nall]
theorem trip_flat : ∀ ls : List Lay, trip (flat3 ls) = ls
  | [] => rfl
  | l :: r => by
    have := trip_flat r
    simp only [flat3, List.map_cons, List.flatten_cons, List.cons_append, List.nil_append, trip] at this ⊢
    rw [this]
theorem text_size {ls : List Lay} (h : okP ls = true) : (textV ls).size ≤ 2000 := by
  obtain ⟨hl, hR, -, -⟩ := okP_iff.1 h
  have := accS_size hR ls.length
  rw [List.take_length, ← textV_acc] at this
  omega
theorem pack_same (t : ByteArray) : rpk t = pkP t := by
  cases hp : pkP t with
  | some ls =>
    have h := pkP_is hp
    have hs := text_size h.1
    rw [h.2] at hs
    have e : trip (numl t) = ls := by rw [← h.2, numl_pack (okP_iff.1 h.1).2.1, trip_flat]
    unfold rpk
    rw [if_neg (by omega), e, if_pos h]
  | none =>
    cases hr : rpk t with
    | none => rfl
    | some ls =>
      unfold rpk at hr
      split at hr
      · cases hr
      · split at hr
        · rename_i hc
          obtain rfl := Option.some.inj hr
          have := pkP_of hc.1
          rw [hc.2, hp] at this; cases this
        · cases hr
end Go.Proofs.YtomejgikdelgkaaGreatDoor
