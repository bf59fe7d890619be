/- Words and numbers of texts: plain facts. -/
import Derived.Test.YtomejgikdelgkaaGreatDoorQW1
import Derived.Lib.AtoiAllCases
set_option linter.unusedVariables false
set_option linter.unusedSimpArgs false
set_option linter.unusedSectionVars false
namespace Go.Proofs.YtomejgikdelgkaaGreatDoor
open Go.Awp
set_option linter.unusedSimpArgs false
set_option linter.unusedVariables false
set_option linter.unusedSectionVars false
set_option maxRecDepth 10000
theorem size_list (s : ByteArray) : s.size = s.data.toList.length := by rw [Array.length_toList]; rfl
theorem byte_get {s : ByteArray} {k : Nat} (h : k < s.size) : s[k]? = some (s.data.toList[k]'(by rw [← size_list]; exact h)) := by
  rw [getElem?_pos s k h]
  simp
  rfl
theorem asl_both {s : ByteArray} {a b : Nat} (h1 : a ≤ b) (h2 : b ≤ s.size) : asliceS (.str s) (some (I a)) (some (I b)) = some (.str (s.extract a b)) := by
  unfold asliceS; simp only [abnds_h h2 h1]
theorem beqB (a b : ByteArray) : (a == b) = decide (a = b) := by
  cases a with
  | mk x =>
  cases b with
  | mk y =>
    show (x == y) = _
    rw [Bool.eq_iff_iff]
    simp
theorem bneB (a b : ByteArray) : (a != b) = !decide (a = b) := by unfold bne; rw [beqB]
def nilI : AV → Bool
  | .nilIface => true
  | _ => false
def intV (s : ByteArray) : Int × Bool := ((atoiV s).1, nilI (atoiV s).2 && (itoaB (atoiV s).1 == s))
theorem atoi_cases (s : ByteArray) : ((atoiV s).2 = .nilIface ∨ (atoiV s).2 = .iface 128 .ptrJ) ∧ -9223372036854775808 ≤ (atoiV s).1 ∧ (atoiV s).1 ≤ 9223372036854775807 := by
  unfold atoiV
  have h0 := Lib.atoiSat_bounds s.data.toList
  cases h : Lib.atoiAll s.data.toList
  · exact ⟨.inl rfl, Lib.atoiAll_bounds h⟩
  · exact ⟨.inr rfl, by simp, by simp⟩
  · exact ⟨.inr rfl, h0⟩
def mapO {α β : Type} (f : α → Option β) : List α → Option (List β)
  | [] => some []
  | x :: r => match f x, mapO f r with
    | some y, some l => some (y :: l)
    | _, _ => none
theorem mapO_app {α β : Type} (f : α → Option β) : ∀ (a : List α) (x : α), mapO f (a ++ [x]) = match mapO f a, f x with
    | some l, some y => some (l ++ [y])
    | _, _ => none
  | [], x => by simp only [List.nil_append, mapO]; cases f x <;> rfl
  | a :: r, x => by
    simp only [List.cons_append, mapO, mapO_app f r x]
    cases f a with
    | none => rfl
    | some y =>
      cases mapO f r with
      | none => rfl
      | some l => cases f x <;> rfl
theorem mapO_bad {α β : Type} {f : α → Option β} : ∀ {l : List α} {x : α}, x ∈ l → f x = none → mapO f l = none
  | a :: r, x, hx, h => by
    simp only [mapO]
    rcases List.mem_cons.1 hx with rfl | hx
    · rw [h]
    · rw [mapO_bad hx h]; cases f a <;> rfl
def intO (s : ByteArray) : Option Int := if (intV s).2 = true then some (intV s).1 else none
def nums (f : ByteArray → Option Int) (ws : List ByteArray) (many : Nat) : Option (List Int) := if ws.length = many then mapO f ws else none
theorem mapO_len {α β : Type} {f : α → Option β} : ∀ {l : List α} {r : List β}, mapO f l = some r → r.length = l.length
  | [], r, h => by cases h; rfl
  | a :: l, r, h => by
    simp only [mapO] at h
    split at h
    · rename_i h1 h2; cases h; simp [mapO_len h2]
    · cases h
def dig (x : UInt8) : Bool := decide (48 ≤ x.toNat ∧ x.toNat ≤ 57)
def valN (b : List UInt8) : Int := b.foldl (fun n x => 10 * n + ((x.toNat : Int) - 48)) 0
theorem valN_snoc {b : List UInt8} {x : UInt8} : valN (b ++ [x]) = 10 * valN b + ((x.toNat : Int) - 48) := by simp [valN, List.foldl_append]
theorem dig_iff {x : UInt8} : dig x = true ↔ 48 ≤ x.toNat ∧ x.toNat ≤ 57 := by simp [dig]
theorem head_app {a b : List UInt8} (h : a ≠ []) : (a ++ b).head? = a.head? := by
  cases a with
  | nil => exact absurd rfl h
  | cons x r => rfl
theorem all_one {p : UInt8 → Bool} {x : UInt8} (h : p x = true) : [x].all p = true := by simp only [List.all_cons, List.all_nil, h, Bool.and_self]
theorem dd_small {u : Nat} (h : u < 10) : Lib.decDigits u = [UInt8.ofNat (48 + u)] := Lib.decDigits_one h
theorem dd_big {u : Nat} (h : ¬ u < 10) : Lib.decDigits u = Lib.decDigits (u / 10) ++ [UInt8.ofNat (48 + u % 10)] := by
  rw [Lib.decDigits, dif_neg h]
theorem of48 {d : Nat} (h : d < 10) : (UInt8.ofNat (48 + d)).toNat = 48 + d := by
  rw [UInt8.toNat_ofNat']; omega
theorem dig48 {d : Nat} (h : d < 10) : dig (UInt8.ofNat (48 + d)) = true := by
  rw [dig_iff, of48 h]; omega
theorem dd_facts : ∀ (n u : Nat), u < 10 ^ n → 1 ≤ n → (Lib.decDigits u).all dig = true ∧ valN (Lib.decDigits u) = u ∧ 1 ≤ (Lib.decDigits u).length ∧ (Lib.decDigits u).length ≤ n ∧ ((Lib.decDigits u).head? = some 48 → u = 0)
  | 0, u, h, h1 => by omega
  | n + 1, u, h, _ => by
    by_cases hu : u < 10
    · rw [dd_small hu]
      refine ⟨all_one (dig48 hu), ?_, by simp, by simp, fun e => ?_⟩
      · show 10 * 0 + (((UInt8.ofNat (48 + u)).toNat : Int) - 48) = u
        rw [of48 hu]; omega
      · have e : UInt8.ofNat (48 + u) = 48 := Option.some.inj e
        have := congrArg UInt8.toNat e
        rw [of48 hu] at this
        have e48 : (48 : UInt8).toNat = 48 := rfl
        omega
    · have hn : 1 ≤ n := by
        cases n with
        | zero => simp at h; omega
        | succ n => omega
      have hq : u / 10 < 10 ^ n := by rw [Nat.pow_succ] at h; omega
      obtain ⟨h1, h2, h3, h4, h5⟩ := dd_facts n (u / 10) hq hn
      have hm : u % 10 < 10 := by omega
      rw [dd_big hu]
      refine ⟨by rw [List.all_append, h1, all_one (dig48 hm)]; rfl, ?_, by simp, by simp; omega, fun e => ?_⟩
      · rw [valN_snoc, h2, of48 hm]; omega
      · rw [head_app (by intro e0; rw [e0] at h3; simp at h3)] at e
        have := h5 e; omega
theorem parse_dig : ∀ (b : List UInt8) (acc : Nat), b.all dig = true → (acc + 1) * 10 ^ b.length ≤ 10 ^ 18 → ∃ v : Nat, Lib.parseUint10 acc b = .ok v ∧ (v : Int) = b.foldl (fun n x => 10 * n + ((x.toNat : Int) - 48)) (acc : Int)
  | [], acc, _, _ => ⟨acc, rfl, rfl⟩
  | c :: r, acc, hd, hb => by
    simp only [List.all_cons, Bool.and_eq_true] at hd
    have hc := dig_iff.1 hd.1
    rw [List.length_cons, Nat.pow_succ] at hb
    have hp : 1 ≤ 10 ^ r.length := Nat.one_le_pow _ _ (by omega)
    have hb2 : (acc + 1) * 10 ≤ 10 ^ 18 := by
      have : (acc + 1) * 10 * 1 ≤ (acc + 1) * 10 * 10 ^ r.length := Nat.mul_le_mul_left _ hp
      have e : (acc + 1) * 10 * 10 ^ r.length = (acc + 1) * (10 ^ r.length * 10) := by rw [Nat.mul_assoc, Nat.mul_comm 10]
      omega
    have hn : (acc * 10 + (c.toNat - 48) + 1) * 10 ^ r.length ≤ 10 ^ 18 := by
      have : (acc * 10 + (c.toNat - 48) + 1) * 10 ^ r.length ≤ ((acc + 1) * 10) * 10 ^ r.length := Nat.mul_le_mul_right _ (by omega)
      have e : (acc + 1) * 10 * 10 ^ r.length = (acc + 1) * (10 ^ r.length * 10) := by rw [Nat.mul_assoc, Nat.mul_comm 10]
      omega
    obtain ⟨v, h1, h2⟩ := parse_dig r (acc * 10 + (c.toNat - 48)) hd.2 hn
    refine ⟨v, ?_, ?_⟩
    · rw [Lib.parseUint10, if_pos ⟨hc.1, hc.2⟩, if_neg (by omega), if_neg (by omega), h1]
    · rw [h2, List.foldl_cons]
      congr 1; omega
def Sml (n : Int) : Prop := -100000000000000 < n ∧ n < 100000000000000
theorem itoa_data (n : Int) : (itoaB n).data.toList = Lib.itoa n := by simp [itoaB]
theorem dd14 {u : Nat} (h : u < 100000000000000) : (Lib.decDigits u).all dig = true ∧ valN (Lib.decDigits u) = u ∧ 1 ≤ (Lib.decDigits u).length ∧ (Lib.decDigits u).length ≤ 14 ∧ ((Lib.decDigits u).head? = some 48 → u = 0) := dd_facts 14 u (by omega) (by omega)
theorem atoi_itoa {n : Int} (h : Sml n) : Lib.atoiAll (Lib.itoa n) = .ok n := by
  unfold Sml at h
  have pd : ∀ u : Nat, u < 100000000000000 → Lib.parseMag (Lib.decDigits u) = .ok u := fun u hu => by
    obtain ⟨h1, h2, h3, h4, h5⟩ := dd14 hu
    have hp : (0 + 1) * 10 ^ (Lib.decDigits u).length ≤ 10 ^ 18 := by
      have : (10 ^ (Lib.decDigits u).length : Nat) ≤ 10 ^ 18 := Nat.pow_le_pow_right (by omega) (by omega)
      omega
    obtain ⟨v, g1, g2⟩ := parse_dig _ 0 h1 hp
    have : (v : Int) = u := by rw [g2]; exact h2
    have : v = u := by omega
    unfold Lib.parseMag
    rw [if_neg (by intro e; rw [e] at h3; simp at h3), g1, this]
  by_cases hn : n < 0
  · have e : Lib.itoa n = 45 :: Lib.decDigits n.natAbs := by unfold Lib.itoa; rw [if_pos hn]
    rw [e]
    unfold Lib.atoiAll
    have e45 : (45 : UInt8).toNat = 45 := rfl
    simp only [e45, or_true, if_true]
    rw [pd _ (by omega)]
    simp only [not_true, false_and, if_false, true_and, if_true]
    rw [if_neg (by omega)]
    congr 1; omega
  · have e : Lib.itoa n = Lib.decDigits n.toNat := by unfold Lib.itoa; rw [if_neg hn]
    obtain ⟨h1, h2, h3, h4, h5⟩ := dd14 (u := n.toNat) (by omega)
    rw [e]
    have hp := pd n.toNat (by omega)
    cases hd : Lib.decDigits n.toNat with
    | nil => rw [hd] at h3; simp at h3
    | cons x r =>
      rw [hd] at h1 hp
      simp only [List.all_cons, Bool.and_eq_true] at h1
      have hx := dig_iff.1 h1.1
      have n1 : ¬ (x.toNat = 43 ∨ x.toNat = 45) := by omega
      have n2 : ¬ x.toNat = 45 := by omega
      unfold Lib.atoiAll
      have n3 : ¬ x.toNat = 43 := by omega
      simp only [n2, n3, or_self, if_false]
      rw [hp]
      simp only [not_false_eq_true, true_and, false_and, if_false]
      rw [if_neg (by omega)]
      congr 1; omega
theorem int_itoa {n : Int} (h : Sml n) : intO (itoaB n) = some n := by
  have e : atoiV (itoaB n) = (n, .nilIface) := by unfold atoiV; rw [itoa_data, atoi_itoa h]
  unfold intO intV
  rw [e]
  simp [nilI, beqB]
theorem spl_hit {c : UInt8} : ∀ (a r : List UInt8), c ∉ a → splR c (a ++ c :: r) = a :: splR c r
  | [], r, _ => by conv => lhs; unfold splR
                   simp
  | x :: a, r, h => by
    have hx : x ≠ c := fun e => h (by rw [e]; exact List.mem_cons_self ..)
    have ih := spl_hit a r (fun hm => h (List.mem_cons_of_mem _ hm))
    rw [List.cons_append]
    conv => lhs; unfold splR
    rw [if_neg hx, ih]; rfl
theorem spl_last {c : UInt8} : ∀ (a : List UInt8), c ∉ a → splR c a = [a]
  | [], _ => rfl
  | x :: a, h => by
    have hx : x ≠ c := fun e => h (by rw [e]; exact List.mem_cons_self ..)
    have ih := spl_last a (fun hm => h (List.mem_cons_of_mem _ hm))
    unfold splR
    rw [if_neg hx, ih]; rfl
theorem spl_join {c : UInt8} : ∀ (ws : List (List UInt8)) (w : List UInt8), c ∉ w → (∀ v, v ∈ ws → c ∉ v) → splR c (w ++ (ws.map (c :: ·)).flatten) = w :: ws
  | [], w, hw, _ => by simpa using spl_last w hw
  | v :: r, w, hw, h => by
    have ih := spl_join r v (h v (by simp)) fun u hu => h u (by simp [hu])
    rw [List.map_cons, List.flatten_cons, List.cons_append, spl_hit _ _ hw, ih]
theorem itoa_chars {n : Int} (h : Sml n) : ∀ x, x ∈ Lib.itoa n → x = 45 ∨ dig x = true := by
  unfold Sml at h
  intro x hx
  by_cases hn : n < 0
  · have e : Lib.itoa n = 45 :: Lib.decDigits n.natAbs := by unfold Lib.itoa; rw [if_pos hn]
    rw [e] at hx
    rcases List.mem_cons.1 hx with h1 | h1
    · exact .inl h1
    · exact .inr ((List.all_eq_true.1 (dd14 (u := n.natAbs) (by omega)).1) x h1)
  · have e : Lib.itoa n = Lib.decDigits n.toNat := by unfold Lib.itoa; rw [if_neg hn]
    rw [e] at hx
    exact .inr ((List.all_eq_true.1 (dd14 (u := n.toNat) (by omega)).1) x hx)
theorem no32 {n : Int} (h : Sml n) : (32 : UInt8) ∉ Lib.itoa n := fun hm => by
  rcases itoa_chars h _ hm with e | e <;> exact absurd e (by decide)
theorem no47 {n : Int} (h : Sml n) : (47 : UInt8) ∉ Lib.itoa n := fun hm => by
  rcases itoa_chars h _ hm with e | e <;> exact absurd e (by decide)
theorem data_app (a b : ByteArray) : (a ++ b).data.toList = a.data.toList ++ b.data.toList := by simp [ByteArray.data_append]
theorem consH_len {x : UInt8} {L : List (List UInt8)} : (consH x L).length ≤ L.length + 1 ∧ (L ≠ [] → (consH x L).length = L.length) := by
  cases L <;> simp [consH]
theorem splR_len (c : UInt8) : ∀ l : List UInt8, (splR c l).length ≤ l.length + 1 ∧ ∀ h, h ∈ splR c l → h.length ≤ l.length
  | [] => by simp [splR]
  | x :: r => by
    obtain ⟨h1, h2⟩ := splR_len c r
    unfold splR
    split
    · refine ⟨by simp; omega, fun h hh => ?_⟩
      rcases List.mem_cons.1 hh with rfl | hh
      · simp
      · have := h2 h hh; simp; omega
    · have hne := splR_ne c r
      refine ⟨by rw [consH_len.2 hne]; simp; omega, fun h hh => ?_⟩
      cases hL : splR c r with
      | nil => exact absurd hL hne
      | cons a t =>
        rw [hL] at hh h2
        simp only [consH] at hh
        rcases List.mem_cons.1 hh with rfl | hh
        · have := h2 a (by simp); simp; omega
        · have := h2 h (by simp [hh]); simp; omega
theorem wordsB_len (s : ByteArray) (c : UInt8) : (wordsB s c).length ≤ s.size + 1 := by
  have := (splR_len c s.data.toList).1
  rw [size_list]; simpa [wordsB] using this
theorem wordsB_size {s : ByteArray} {c : UInt8} {x : ByteArray} (h : x ∈ wordsB s c) : x.size ≤ s.size := by
  obtain ⟨l, hl, rfl⟩ := List.mem_map.1 h
  have := (splR_len c s.data.toList).2 l hl
  rw [size_list, size_list, data_ofL]; exact this
theorem aslice_from {H : AHeap} {b : Bool} {ws : List ByteArray} {k : Nat} (h : k ≤ ws.length) : aslice H 1 (.ro b (Go.Awp.sc ws)) (some (I (k : Int))) none = some (.ro b (Go.Awp.sc (ws.drop k))) := by
  have h1 : ((Go.Awp.sc ws).all fun e => e.length == 1) = true := by simp [Go.Awp.sc]
  unfold aslice
  simp only [h1, if_true, sc_length, abnds_lo h]
  congr 2
  simp only [Go.Awp.sc, ← List.map_take, ← List.map_drop]
  rw [List.take_length]
end Go.Proofs.YtomejgikdelgkaaGreatDoor
