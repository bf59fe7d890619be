/- Numerals: what is printed is read, and what is read was printed. -/
import Derived.Test.YtgadlckkmhhmbaaGreatDoorQW5
set_option linter.unusedVariables false
set_option linter.unusedSimpArgs false
set_option linter.unusedSectionVars false
namespace Go.Proofs.YtgadlckkmhhmbaaGreatDoor
open Go.Awp Go.Grams
set_option linter.unusedSimpArgs false
set_option linter.unusedVariables false
theorem head_app {a b : List UInt8} (h : a ≠ []) : (a ++ b).head? = a.head? := by
  cases a with
  | nil => exact absurd rfl h
  | cons x r => rfl
theorem all_one {p : UInt8 → Bool} {x : UInt8} (h : p x = true) : [x].all p = true := by simp only [List.all_cons, List.all_nil, h, Bool.and_self]
theorem dd_small {u : Nat} (h : u < 10) : Lib.decDigits u = [UInt8.ofNat (48 + u)] := Lib.decDigits_one h
theorem dd_big {u : Nat} (h : ¬ u < 10) : Lib.decDigits u = Lib.decDigits (u / 10) ++ [UInt8.ofNat (48 + u % 10)] := by
  rw [Lib.decDigits, dif_neg h]
theorem of48 {d : Nat} (h : d < 10) : (UInt8.ofNat (48 + d)).toNat = 48 + d := by
  rw [UInt8.toNat_ofNat']; omega
theorem dig48 {d : Nat} (h : d < 10) : dig (UInt8.ofNat (48 + d)) = true := by
  rw [dig_iff, of48 h]; omega
theorem dd_facts : ∀ (n u : Nat), u < 10 ^ n → 1 ≤ n → (Lib.decDigits u).all dig = true ∧ valN (Lib.decDigits u) = u ∧ 1 ≤ (Lib.decDigits u).length ∧ (Lib.decDigits u).length ≤ n ∧ ((Lib.decDigits u).head? = some 48 → u = 0)
  | 0, u, h, h1 => by omega
  | n + 1, u, h, _ => by
    by_cases hu : u < 10
    · rw [dd_small hu]
      refine ⟨all_one (dig48 hu), ?_, by simp, by simp, fun e => ?_⟩
      · show 10 * 0 + (((UInt8.ofNat (48 + u)).toNat : Int) - 48) = u
        rw [of48 hu]; omega
      · have e : UInt8.ofNat (48 + u) = 48 := Option.some.inj e
        have := congrArg UInt8.toNat e
        rw [of48 hu] at this
        have e48 : (48 : UInt8).toNat = 48 := rfl
        omega
    · have hn : 1 ≤ n := by
        cases n with
        | zero => simp at h; omega
        | succ n => omega
      have hq : u / 10 < 10 ^ n := by rw [Nat.pow_succ] at h; omega
      obtain ⟨h1, h2, h3, h4, h5⟩ := dd_facts n (u / 10) hq hn
      have hm : u % 10 < 10 := by omega
      rw [dd_big hu]
      refine ⟨by rw [List.all_append, h1, all_one (dig48 hm)]; rfl, ?_, by simp, by simp; omega, fun e => ?_⟩
      · rw [valN_snoc, h2, of48 hm]; omega
      · rw [head_app (by intro e0; rw [e0] at h3; simp at h3)] at e
        have := h5 e; omega
theorem canon : ∀ (n : Nat) (b : List UInt8), b.length = n → 1 ≤ n → b.all dig = true → (b.head? = some 48 → n = 1) → Lib.decDigits (valN b).toNat = b ∧ 0 ≤ valN b
  | 0, b, hb, h1, _, _ => by omega
  | n + 1, b, hb, _, hd, hh => by
    have hne : b ≠ [] := by intro e; rw [e] at hb; simp at hb
    obtain ⟨b', x, rfl⟩ : ∃ b' x, b = b' ++ [x] := ⟨b.dropLast, b.getLast hne, (List.dropLast_concat_getLast hne).symm⟩
    rw [List.all_append, Bool.and_eq_true] at hd
    have hx : 48 ≤ x.toNat ∧ x.toNat ≤ 57 := dig_iff.1 (by simpa using hd.2)
    have hl : b'.length = n := by simpa using hb
    have xe : ∀ d, x.toNat = 48 + d → UInt8.ofNat (48 + d) = x := fun d h => by
      apply UInt8.toNat_inj.1
      rw [of48 (by omega), h]
    rw [valN_snoc]
    by_cases hn : n = 0
    · have e : b' = [] := List.eq_nil_of_length_eq_zero (by omega)
      subst e
      have v0 : valN ([] : List UInt8) = 0 := rfl
      rw [v0]
      refine ⟨?_, by omega⟩
      rw [dd_small (by omega), List.nil_append, xe _ (by omega)]
    · have hh' : b'.head? ≠ some 48 := fun e => by
        have : (b' ++ [x]).head? = some 48 := by rw [head_app (by intro e0; rw [e0] at hl; simp at hl; omega)]; exact e
        have := hh this; omega
      obtain ⟨c1, c2⟩ := canon n b' hl (by omega) hd.1 fun e => absurd e hh'
      have hv : valN b' ≠ 0 := fun e => by
        rw [e] at c1
        have : b' = [48] := c1.symm.trans (dd_small (u := 0) (by omega))
        rw [this] at hh'; exact hh' rfl
      refine ⟨?_, by omega⟩
      have hu : ¬ (10 * valN b' + ((x.toNat : Int) - 48)).toNat < 10 := by omega
      rw [dd_big hu]
      have e1 : (10 * valN b' + ((x.toNat : Int) - 48)).toNat / 10 = (valN b').toNat := by omega
      have e2 : (10 * valN b' + ((x.toNat : Int) - 48)).toNat % 10 = x.toNat - 48 := by omega
      rw [e1, e2, c1, xe _ (by omega)]
theorem parse_dig : ∀ (b : List UInt8) (acc : Nat), b.all dig = true → (acc + 1) * 10 ^ b.length ≤ 10 ^ 18 → ∃ v : Nat, Lib.parseUint10 acc b = .ok v ∧ (v : Int) = b.foldl (fun n x => 10 * n + ((x.toNat : Int) - 48)) (acc : Int)
  | [], acc, _, _ => ⟨acc, rfl, rfl⟩
  | c :: r, acc, hd, hb => by
    simp only [List.all_cons, Bool.and_eq_true] at hd
    have hc := dig_iff.1 hd.1
    rw [List.length_cons, Nat.pow_succ] at hb
    have hp : 1 ≤ 10 ^ r.length := Nat.one_le_pow _ _ (by omega)
    have hb2 : (acc + 1) * 10 ≤ 10 ^ 18 := by
      have : (acc + 1) * 10 * 1 ≤ (acc + 1) * 10 * 10 ^ r.length := Nat.mul_le_mul_left _ hp
      have e : (acc + 1) * 10 * 10 ^ r.length = (acc + 1) * (10 ^ r.length * 10) := by rw [Nat.mul_assoc, Nat.mul_comm 10]
      omega
    have hn : (acc * 10 + (c.toNat - 48) + 1) * 10 ^ r.length ≤ 10 ^ 18 := by
      have : (acc * 10 + (c.toNat - 48) + 1) * 10 ^ r.length ≤ ((acc + 1) * 10) * 10 ^ r.length := Nat.mul_le_mul_right _ (by omega)
      have e : (acc + 1) * 10 * 10 ^ r.length = (acc + 1) * (10 ^ r.length * 10) := by rw [Nat.mul_assoc, Nat.mul_comm 10]
      omega
    obtain ⟨v, h1, h2⟩ := parse_dig r (acc * 10 + (c.toNat - 48)) hd.2 hn
    refine ⟨v, ?_, ?_⟩
    · rw [Lib.parseUint10, if_pos ⟨hc.1, hc.2⟩, if_neg (by omega), if_neg (by omega), h1]
    · rw [h2, List.foldl_cons]
      congr 1; omega
end Go.Proofs.YtgadlckkmhhmbaaGreatDoor
/- Integers of words: both sides find the same, of small numbers. -/
namespace Go.Proofs.YtgadlckkmhhmbaaGreatDoor
open Go.Awp Go.Grams
set_option linter.unusedSimpArgs false
set_option linter.unusedVariables false
def Sml (n : Int) : Prop := -100000000000000 < n ∧ n < 100000000000000
theorem itoa_data (n : Int) : (itoaB n).data.toList = Lib.itoa n := by simp [itoaB]
theorem itoaB_of {s : ByteArray} {n : Int} (h : s.data.toList = Lib.itoa n) : s = itoaB n := by
  rw [← ofL_data s, h]; rfl
theorem dd14 {u : Nat} (h : u < 100000000000000) : (Lib.decDigits u).all dig = true ∧ valN (Lib.decDigits u) = u ∧ 1 ≤ (Lib.decDigits u).length ∧ (Lib.decDigits u).length ≤ 14 ∧ ((Lib.decDigits u).head? = some 48 → u = 0) := dd_facts 14 u (by omega) (by omega)
theorem dig_ne {x : UInt8} {c : UInt8} (hx : dig x = true) (hc : c.toNat < 48) : x ≠ c := fun e => by
  have := dig_iff.1 hx; rw [e] at this; omega
theorem rbad_iff {neg : Bool} {b : List UInt8} : rbad neg b = false ↔ b.length ≠ 0 ∧ b.length ≤ 14 ∧ (b.head? = some 48 → neg = false ∧ b.length ≤ 1) := by
  unfold rbad
  simp only [Bool.or_eq_false_iff, decide_eq_false_iff_not, Bool.and_eq_false_imp, decide_eq_true_eq]
  constructor
  · rintro ⟨⟨h1, h2⟩, h3⟩
    refine ⟨h1, by omega, fun hh => ?_⟩
    have := h3 hh
    exact ⟨this.1, by omega⟩
  · rintro ⟨h1, h2, h3⟩
    refine ⟨⟨h1, by omega⟩, fun hh => ?_⟩
    have := h3 hh
    exact ⟨this.1, by omega⟩
theorem rint_itoa {n : Int} (h : Sml n) : rintO (itoaB n) = some n := by
  unfold Sml at h
  unfold rintO
  rw [itoa_data]
  by_cases hn : n < 0
  · have e : Lib.itoa n = 45 :: Lib.decDigits n.natAbs := by unfold Lib.itoa; rw [if_pos hn]
    obtain ⟨h1, h2, h3, h4, h5⟩ := dd14 (u := n.natAbs) (by omega)
    have eb : rbody (Lib.itoa n) = (true, Lib.decDigits n.natAbs) := by rw [e]; rfl
    rw [eb]
    show rres true (Lib.decDigits n.natAbs) = some n
    unfold rres
    rw [if_neg, if_pos h1, h2]
    · simp only [if_true]
      rw [show -((n.natAbs : Nat) : Int) = n by omega]
    · rw [Bool.not_eq_true, rbad_iff]
      exact ⟨by omega, h4, fun hh => by have := h5 hh; omega⟩
  · have e : Lib.itoa n = Lib.decDigits n.toNat := by unfold Lib.itoa; rw [if_neg hn]
    obtain ⟨h1, h2, h3, h4, h5⟩ := dd14 (u := n.toNat) (by omega)
    have eb : rbody (Lib.itoa n) = (false, Lib.decDigits n.toNat) := by
      rw [e]
      cases hd : Lib.decDigits n.toNat with
      | nil => rw [hd] at h3; simp at h3
      | cons x r =>
        rw [hd] at h1
        simp only [List.all_cons, Bool.and_eq_true] at h1
        rw [rbody_cons, if_neg (dig_ne h1.1 (by decide))]
    rw [eb]
    show rres false (Lib.decDigits n.toNat) = some n
    unfold rres
    rw [if_neg, if_pos h1, h2]
    · simp only [Bool.false_eq_true, if_false]
      rw [show ((n.toNat : Nat) : Int) = n by omega]
    · rw [Bool.not_eq_true, rbad_iff]
      refine ⟨by omega, h4, fun hh => ⟨rfl, ?_⟩⟩
      have h0 := h5 hh
      rw [h0, dd_small (by omega)]; simp
theorem rint_is {s : ByteArray} {n : Int} (h : rintO s = some n) : s = itoaB n ∧ Sml n := by
  unfold rintO at h
  obtain ⟨l, hl⟩ : ∃ l, l = s.data.toList := ⟨_, rfl⟩
  rw [← hl] at h
  obtain ⟨neg, b, hb⟩ : ∃ neg b, rbody l = (neg, b) := ⟨_, _, rfl⟩
  rw [hb] at h
  simp only at h
  unfold rres at h
  split at h
  · cases h
  · rename_i hbad
    split at h
    · rename_i hd
      cases h
      rw [Bool.not_eq_true, rbad_iff] at hbad
      obtain ⟨q1, q2, q3⟩ := hbad
      obtain ⟨c1, c2⟩ := canon b.length b rfl (by omega) hd fun e => by have := (q3 e).2; omega
      have vs := valN_small hd q2
      have lb : l = if neg = true then 45 :: b else b := by
        cases l with
        | nil => cases hb; exact absurd rfl q1
        | cons x r =>
          rw [rbody_cons] at hb
          split at hb
          · rename_i hx; cases hb; rw [if_pos rfl, hx]
          · cases hb; rw [if_neg (by simp)]
      cases neg with
      | false =>
        simp only [Bool.false_eq_true, if_false] at lb ⊢
        refine ⟨itoaB_of ?_, by unfold Sml; omega⟩
        rw [← hl, lb]
        unfold Lib.itoa
        rw [if_neg (by omega), c1]
      | true =>
        simp only [if_true] at lb ⊢
        have hpos : valN b ≠ 0 := fun e => by
          rw [e] at c1
          have e48 : b = [48] := c1.symm.trans (dd_small (u := 0) (by omega))
          have := (q3 (by rw [e48]; rfl)).1
          cases this
        refine ⟨itoaB_of ?_, by unfold Sml; omega⟩
        rw [← hl, lb]
        unfold Lib.itoa
        rw [if_pos (by omega), show (-valN b).natAbs = (valN b).toNat by omega, c1]
    · cases h
theorem atoi_itoa {n : Int} (h : Sml n) : Lib.atoiAll (Lib.itoa n) = .ok n := by
  unfold Sml at h
  have pd : ∀ u : Nat, u < 100000000000000 → Lib.parseMag (Lib.decDigits u) = .ok u := fun u hu => by
    obtain ⟨h1, h2, h3, h4, h5⟩ := dd14 hu
    have hp : (0 + 1) * 10 ^ (Lib.decDigits u).length ≤ 10 ^ 18 := by
      have : (10 ^ (Lib.decDigits u).length : Nat) ≤ 10 ^ 18 := Nat.pow_le_pow_right (by omega) (by omega)
      omega
    obtain ⟨v, g1, g2⟩ := parse_dig _ 0 h1 hp
    have : (v : Int) = u := by rw [g2]; exact h2
    have : v = u := by omega
    unfold Lib.parseMag
    rw [if_neg (by intro e; rw [e] at h3; simp at h3), g1, this]
  by_cases hn : n < 0
  · have e : Lib.itoa n = 45 :: Lib.decDigits n.natAbs := by unfold Lib.itoa; rw [if_pos hn]
    rw [e]
    unfold Lib.atoiAll
    have e45 : (45 : UInt8).toNat = 45 := rfl
    simp only [e45, or_true, if_true]
    rw [pd _ (by omega)]
    simp only [not_true, false_and, if_false, true_and, if_true]
    rw [if_neg (by omega)]
    congr 1; omega
  · have e : Lib.itoa n = Lib.decDigits n.toNat := by unfold Lib.itoa; rw [if_neg hn]
    obtain ⟨h1, h2, h3, h4, h5⟩ := dd14 (u := n.toNat) (by omega)
    rw [e]
    have hp := pd n.toNat (by omega)
    cases hd : Lib.decDigits n.toNat with
    | nil => rw [hd] at h3; simp at h3
    | cons x r =>
      rw [hd] at h1 hp
      simp only [List.all_cons, Bool.and_eq_true] at h1
      have hx := dig_iff.1 h1.1
      have n1 : ¬ (x.toNat = 43 ∨ x.toNat = 45) := by omega
      have n2 : ¬ x.toNat = 45 := by omega
      unfold Lib.atoiAll
      have n3 : ¬ x.toNat = 43 := by omega
      simp only [n2, n3, or_self, if_false]
      rw [hp]
      simp only [not_false_eq_true, true_and, false_and, if_false]
      rw [if_neg (by omega)]
      congr 1; omega
theorem int_itoa {n : Int} (h : Sml n) : intO (itoaB n) = some n := by
  have e : atoiV (itoaB n) = (n, .nilIface) := by unfold atoiV; rw [itoa_data, atoi_itoa h]
  unfold intO intV
  rw [e]
  simp [nilI, beqB]
theorem int_of_rint {s : ByteArray} {n : Int} (h : rintO s = some n) : intO s = some n := by
  obtain ⟨rfl, h2⟩ := rint_is h
  exact int_itoa h2
theorem rint_of_int {s : ByteArray} {n : Int} (h : intO s = some n) (hn : Sml n) : rintO s = some n := by
  unfold intO at h
  split at h
  · rename_i h1
    cases h
    unfold intV at h1 hn ⊢
    simp only [Bool.and_eq_true, beqB, decide_eq_true_eq] at h1 hn ⊢
    have := rint_itoa hn
    rw [h1.2] at this; exact this
  · cases h
theorem mapO_imp {α β : Type} {f g : α → Option β} {P : β → Prop} (h : ∀ x y, f x = some y → P y → g x = some y) : ∀ {l : List α} {r : List β}, mapO f l = some r → (∀ y, y ∈ r → P y) → mapO g l = some r
  | [], r, h1, _ => h1
  | x :: l, r, h1, h2 => by
    simp only [mapO] at h1
    split at h1
    · rename_i y r' e1 e2
      cases h1
      have i1 := mapO_imp h e2 fun y hy => h2 y (by simp [hy])
      have i2 := h x y e1 (h2 y (by simp))
      simp only [mapO, i1, i2]
    · cases h1
theorem nums_imp {f g : ByteArray → Option Int} {P : Int → Prop} (h : ∀ x y, f x = some y → P y → g x = some y) {ws : List ByteArray} {m : Nat} {l : List Int} (h1 : nums f ws m = some l) (h2 : ∀ y, y ∈ l → P y) : nums g ws m = some l := by
  unfold nums at h1 ⊢
  split at h1
  · rename_i hm; rw [if_pos hm]; exact mapO_imp h h1 h2
  · cases h1
theorem nums_down {ws : List ByteArray} {m : Nat} {l : List Int} (h : nums rintO ws m = some l) : nums intO ws m = some l := nums_imp (P := fun _ => True) (fun x y h _ => int_of_rint h) h fun _ _ => trivial
theorem nums_up {ws : List ByteArray} {m : Nat} {l : List Int} (h : nums intO ws m = some l) (hs : ∀ y, y ∈ l → Sml y) : nums rintO ws m = some l := nums_imp (P := Sml) (fun x y h hy => rint_of_int h hy) h hs
theorem mapO_itoa : ∀ (xs : List Int), (∀ x, x ∈ xs → Sml x) → mapO intO (xs.map itoaB) = some xs
  | [], _ => rfl
  | x :: r, h => by
    simp only [List.map_cons, mapO, int_itoa (h x (by simp)), mapO_itoa r fun y hy => h y (by simp [hy])]
end Go.Proofs.YtgadlckkmhhmbaaGreatDoor
