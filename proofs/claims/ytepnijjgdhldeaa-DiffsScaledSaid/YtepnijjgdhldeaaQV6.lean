/- Differences that are multiplied. -/
import Derived.Test.YtepnijjgdhldeaaQV5
namespace Go.Proofs.Ytepnijjgdhldeaa
open Go.Awp
set_option linter.unusedSimpArgs false
set_option linter.unusedVariables false
def scl (c : Int) (ds : List Df) : List Df := ds.map fun d => (d.1, d.2.1, d.2.2 * c)
def sclG (c : Int) (s : Gs) : Gs := ⟨fun v => s.long v * c, s.has, s.last⟩
theorem scl_length {c : Int} {ds : List Df} : (scl c ds).length = ds.length := by simp [scl]
theorem scl_get {c : Int} {ds : List Df} {k : Nat} : (scl c ds)[k]? = (ds[k]?).map fun d => (d.1, d.2.1, d.2.2 * c) := by simp [scl]
theorem lt_mul {a b c : Int} (hc : 0 < c) : a * c < b * c ↔ a < b := ⟨fun h => Int.lt_of_mul_lt_mul_right h (Int.le_of_lt hc), fun h => Int.mul_lt_mul_of_pos_right h hc⟩
theorem better_scl {c : Int} (hc : 0 < c) {s : Gs} {d : Df} : better (sclG c s) (d.1, d.2.1, d.2.2 * c) = better s d := by
  unfold better sclG
  have e : decide (s.long (fr d) * c + d.2.2 * c < s.long (to d) * c) = decide (s.long (fr d) + d.2.2 < s.long (to d)) := by
    rw [← Int.add_mul]
    exact decide_eq_decide.2 (lt_mul hc)
  show (s.has (fr d) && (!s.has (to d) || decide (s.long (fr d) * c + d.2.2 * c < s.long (to d) * c))) = _
  rw [e]
theorem gstep_scl {c : Int} {s : Gs} {k : Nat} {d : Df} : gstep (sclG c s) k (d.1, d.2.1, d.2.2 * c) = sclG c (gstep s k d) := by
  unfold gstep sclG
  congr 1
  funext v
  show upd (fun v => s.long v * c) (to d) (s.long (fr d) * c + d.2.2 * c) v = upd s.long (to d) (s.long (fr d) + d.2.2) v * c
  by_cases h : v = to d
  · subst h; rw [upd_eq, upd_eq, Int.add_mul]
  · rw [upd_ne h, upd_ne h]
theorem part_scl {c : Int} (hc : 0 < c) {ds : List Df} {s : Gs} : ∀ k, part (scl c ds) (sclG c s) k = (sclG c (part ds s k).1, (part ds s k).2)
  | 0 => rfl
  | k + 1 => by
    have ih := part_scl hc (ds := ds) (s := s) k
    unfold part
    rw [scl_get]
    cases hd : ds[k]? with
    | none => simp only [Option.map_none]; exact ih
    | some d =>
      simp only [Option.map_some]
      rw [ih, better_scl hc, gstep_scl]
      split <;> rfl
theorem iter_scl {c : Int} (hc : 0 < c) {ds : List Df} {s : Gs} : ∀ r, iter (scl c ds) (sclG c s) r = sclG c (iter ds s r)
  | 0 => rfl
  | r + 1 => by
    unfold iter
    rw [iter_scl hc r, scl_length, part_scl hc]
theorem chg_scl {c : Int} (hc : 0 < c) {ds : List Df} {s : Gs} (r : Nat) : chg (scl c ds) (sclG c s) r = chg ds s r := by
  unfold chg
  rw [iter_scl hc, scl_length, part_scl hc]
theorem lenR_scl {c : Int} (hc : 0 < c) {ds : List Df} {s : Gs} : ∀ f r, lenR (scl c ds) (sclG c s) f r = (sclG c (lenR ds s f r).1, (lenR ds s f r).2)
  | 0, r => by unfold lenR; rw [iter_scl hc]
  | f + 1, r => by
    unfold lenR
    rw [chg_scl hc, iter_scl hc, lenR_scl hc f (r + 1)]
    split <;> rfl
theorem lens_scl {c : Int} (hc : 0 < c) {n : Nat} {ds : List Df} {S : Nat → Bool} : lens n (scl c ds) S = (sclG c (lens n ds S).1, (lens n ds S).2) := by
  have e : startL S = sclG c (startL S) := by unfold startL sclG; simp
  unfold lens
  rw [e, lenR_scl hc, ← e]
theorem valid_scl {c n : Int} {ds : List Df} (h : ∀ d, d ∈ ds → -1073741824 ≤ d.2.2 * c ∧ d.2.2 * c ≤ 1073741824) (hv : valid n ds = true) : valid n (scl c ds) = true := by
  obtain ⟨h1, h2, h3⟩ := valid_iff.1 hv
  refine valid_iff.2 ⟨h1, by rw [scl_length]; exact h2, fun d hd => ?_⟩
  obtain ⟨d', hd', rfl⟩ := List.mem_map.1 hd
  have k1 := h3 d' hd'
  have k2 := h d' hd'
  simp [right] at k1 ⊢
  omega
theorem apart_scl {c n : Int} (hc : 0 < c) {ds : List Df} {i j : Int} (hv : valid n ds = true) (hv' : valid n (scl c ds) = true) : apart n (scl c ds) i j = ((apart n ds i j).1 * c, (apart n ds i j).2.1, (apart n ds i j).2.2) := by
  unfold apart
  rw [hv, hv', lens_scl hc, lens_scl hc]
  simp only [if_true]
  split
  · split
    · show (if (lens n.toNat ds (one i.toNat)).1.has j.toNat then ((lens n.toNat ds (one i.toNat)).1.long j.toNat * c, true, 0) else (0, false, 0)) = _
      split <;> simp
    · simp
  · simp
theorem ed_scl {c : Int} {ds : List Df} {k : Nat} (h : k < ds.length) : ed (scl c ds) k = ((ed ds k).1, (ed ds k).2.1, (ed ds k).2.2 * c) := by
  have e := scl_get (c := c) (ds := ds) (k := k)
  rw [ed_get? h, ed_get? (by rw [scl_length]; exact h)] at e
  simpa using e
theorem inn_scl {c : Int} {ds : List Df} {F : Nat → Int} {v : Nat} : inn (scl c ds) F v = inn ds F v := by
  unfold inn innc
  rw [scl_length]
  exact sumN_congr _ fun k hk => by rw [ed_scl hk]; rfl
theorem cost_scl {c : Int} {ds : List Df} {F : Nat → Int} : costN (scl c ds) F = costN ds F * c := by
  unfold costN
  rw [scl_length, Int.mul_comm, ← sumN_mul]
  refine sumN_congr _ fun k hk => ?_
  rw [ed_scl hk]
  show F k * ((ed ds k).2.2 * c) = c * (F k * (ed ds k).2.2)
  rw [Int.mul_comm c, Int.mul_assoc]
theorem Opt.scl {c : Int} (hc : 0 < c) {n : Nat} {ds : List Df} {w F : Nat → Int} (h : Opt n ds w F) : Opt n (scl c ds) w F := by
  obtain ⟨⟨h1, h2⟩, x, h3, h4⟩ := h
  refine ⟨⟨fun k hk => h1 k (by rw [scl_length] at hk; exact hk), fun v a b => by rw [inn_scl]; exact h2 v a b⟩, fun v => x v * c, fun k hk => ?_, fun k hk hp => ?_⟩ <;> rw [scl_length] at hk <;> rw [ed_scl hk]
  · have := Int.mul_le_mul_of_nonneg_right (h3 k hk) (Int.le_of_lt hc)
    rw [Int.add_mul] at this; exact this
  · have := Int.mul_le_mul_of_nonneg_right (h4 k hk hp) (Int.le_of_lt hc)
    rw [Int.add_mul] at this; exact this
theorem Ray.scl {c : Int} {n : Nat} {ds : List Df} {w y : Nat → Int} (h : Ray n ds w y) : Ray n (scl c ds) w y :=
  ⟨h.zero, fun k hk => by rw [scl_length] at hk; rw [ed_scl hk]; exact h.down k hk, h.up⟩
theorem most_scl {c : Int} (hc : 0 < c) {n : Nat} {ds : List Df} {w : Nat → Int} (h : Sol n ds) (hl : ds.length ≤ 2048) : mostN n (scl c ds) w = ((mostN n ds w).1 * c, (mostN n ds w).2) := by
  have hf : ∀ d, d ∈ scl c ds → fr d < n ∧ to d < n := fun d hd => by
    obtain ⟨d', hd', rfl⟩ := List.mem_map.1 hd
    exact ⟨h.good.fit.fr d' hd', h.good.fit.to d' hd'⟩
  rcases most_cases (w := w) h hl with ⟨F, ho, _, e⟩ | ⟨⟨y, hy⟩, e⟩
  · rw [e, mostN_t hf (ho.scl hc), cost_scl]
  · rw [e, mostN_f hf hy.scl]; simp
theorem mostV_scl {c n : Int} (hc : 0 < c) {ds : List Df} {ws : List Int} (hv : valid n ds = true) (hv' : valid n (scl c ds) = true) (hn : n ≤ 16) (hl : ds.length ≤ 60) : mostV n (scl c ds) ws = ((mostV n ds ws).1 * c, (mostV n ds ws).2.1, (mostV n ds ws).2.2) := by
  obtain ⟨m, rfl, hg, hm⟩ := good_of hv hn
  have e1 : bestE m (scl c ds) ws = bestE m ds ws := by
    unfold bestE
    rw [hv, hv', lens_scl hc]
  unfold mostV
  rw [e1]
  by_cases h : bestE m ds ws = 0
  · rw [if_pos h, if_pos h]
    have sol : Sol m ds := by
      refine ⟨hg, ?_⟩
      unfold bestE at h
      rw [hv] at h
      simp only [if_true, Int.toNat_natCast] at h
      split at h
      · split at h
        · assumption
        · cases h
      · cases h
    rw [Int.toNat_natCast, most_scl hc sol (by omega)]
  · rw [if_neg h, if_neg h]; simp
theorem costc_le {ds : List Df} {F : Nat → Int} {M : Int} (h : ∀ k, k < ds.length → -M ≤ F k * (ed ds k).2.2 ∧ F k * (ed ds k).2.2 ≤ M) : ∀ c : Nat, c ≤ ds.length → -(M * (c : Int)) ≤ costc ds F c ∧ costc ds F c ≤ M * (c : Int)
  | 0, _ => by simp [costc, sumN]
  | c + 1, hc => by
    have ih := costc_le h c (by omega)
    have h1 := h c (by omega)
    have e : costc ds F (c + 1) = costc ds F c + F c * (ed ds c).2.2 := rfl
    have e2 : M * ((c + 1 : Nat) : Int) = M * (c : Int) + M := by rw [Int.natCast_add, Int.mul_add]; simp
    rw [e, e2]
    omega
theorem mostV_bound {n : Int} {ds : List Df} {ws : List Int} (hv : valid n ds = true) (hn : n ≤ 16) (hl : ds.length ≤ 60) : -4222124650659840 ≤ (mostV n ds ws).1 ∧ (mostV n ds ws).1 ≤ 4222124650659840 := by
  obtain ⟨m, rfl, hg, hm⟩ := good_of hv hn
  unfold mostV
  by_cases h : bestE m ds ws = 0
  · rw [if_pos h]
    unfold bestE at h
    rw [hv] at h
    simp only [if_true, Int.toNat_natCast] at h
    split at h
    · rename_i hw
      split at h
      · rename_i hs
        have sol : Sol m ds := ⟨hg, hs⟩
        have p1 := phi_le (n := m) (W := wg ws) (c := 4096) (weighty_get hw).2
        have pk : m * 4096 ≤ 16 * 4096 := Nat.mul_le_mul_right _ hm
        rw [Int.toNat_natCast]
        rcases most_cases (w := wg ws) sol (by omega) with ⟨F, ho, hb, e⟩ | ⟨_, e⟩
        · rw [e]
          have := costc_le (ds := ds) (F := F) (M := 70368744177664) (fun k hk => by
            have a := hg.w _ (ed_mem hk)
            have b := hb k hk
            have := mul_bound (A := 65536) (ho.brings.nonneg k hk) (by omega) a.1 a.2
            omega) ds.length (Nat.le_refl _)
          have e2 : costc ds F ds.length = costN ds F := rfl
          rw [e2] at this
          simp only
          omega
        · rw [e]; simp
      · cases h
    · cases h
  · rw [if_neg h]; simp
end Go.Proofs.Ytepnijjgdhldeaa
