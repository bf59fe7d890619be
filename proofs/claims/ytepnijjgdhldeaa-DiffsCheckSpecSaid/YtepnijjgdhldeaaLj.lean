/- The truth of quiet operations in the model (part 9). Generic in the program. -/
import Derived.Test.YtepnijjgdhldeaaLi
namespace Go.Awp
section
variable {P : Program} {n : Nat} {w : World} {m : AMap} {H : AHeap} {B : Nat} {env : AEnv} {a : Act} {o : Oper} {r : QR}

theorem length_setMany : ∀ (ys : List AV) (xs : List AV) (off : Nat), (setMany xs off ys).length = xs.length
  | [], xs, off => rfl
  | y :: ys, xs, off => by simp [setMany, length_setMany ys]

theorem RL.setMany : ∀ (ys : List AV) (us : List Value) (xs : List AV) (vs : Array Value) (off k : Nat), RL w m H B xs vs → ys.length = us.length → (∀ y, y ∈ ys → y.one = true) → (∀ (i : Nat) (y : AV) (u : Value), ys[i]? = some y → us[i]? = some u → RV w m H B y u) →
    RL w m H B (setMany xs (off + k) ys) ((us.zipIdx k).foldl (fun cs (c, j) => cs.setIfInBounds (off + j) c) vs)
  | [], us, xs, vs, off, k, h, hl, _, _ => by
    cases us with
    | nil => exact h
    | cons => simp at hl
  | y :: ys, us, xs, vs, off, k, h, hl, h1, hr => by
    cases us with
    | nil => simp at hl
    | cons u us =>
      simp only [Awp.setMany, List.zipIdx_cons, List.foldl_cons]
      have h0 := hr 0 y u rfl rfl
      have := RL.setMany ys us (xs.set (off + k) y) (vs.setIfInBounds (off + k) u) off (k + 1) (h.set h0 (h1 y (by simp)) _) (by simpa using hl) (fun y' hy => h1 y' (by simp [hy])) (fun i y' u' e1 e2 => hr (i + 1) y' u' (by simpa using e1) (by simpa using e2))
      rwa [← Nat.add_assoc] at this

theorem RL.put_cells {xs : List AV} {vs : Array Value} (h : RL w m H B xs vs) {x : AV} {v : Value} (hv : RV w m H B x v) (ht : x.isTuple = false) (off : Nat) :
    RL w m H B (Awp.setMany xs off x.cells) (v.cells.zipIdx.foldl (fun cs (c, j) => cs.setIfInBounds (off + j) c) vs) := by
  obtain ⟨l1, l2, l3⟩ := hv.cells (RV.not_tuple ht)
  have := RL.setMany x.cells v.cells.toList xs vs off 0 h (by simpa using l1) l2 (fun i y u e1 e2 => l3 i y u e1 (by simpa using e2))
  rw [Nat.add_zero] at this
  rw [← Array.foldl_toList, Array.toList_zipIdx]
  exact this

theorem fill_sound (fr : FR n w m H B env a) (place : Nat → Option (Nat × Nat)) : ∀ (parts : List (Nat × Operand)) (l : List (Nat × Nat × Operand)) (xs ys : List AV) (vs : Array Value), RL w m H B xs vs →
    l.length = parts.length → (∀ (k : Nat) (p : Nat × Operand) (q : Nat × Nat × Operand), parts[k]? = some p → l[k]? = some q → q.2.2 = p.2 ∧ place p.1 = some (q.1, q.2.1)) → afill env xs l = some ys →
    ∃ us, Instr.fill place vs (parts.map fun p => (p.1, a.eval p.2)) = some us ∧ RL w m H B ys us
  | [], l, xs, ys, vs, h, hl, _, hf => by
    cases l with
    | nil => cases hf; exact ⟨vs, rfl, h⟩
    | cons => simp at hl
  | p :: parts, l, xs, ys, vs, h, hl, hp, hf => by
    cases l with
    | nil => simp at hl
    | cons q l =>
      obtain ⟨off, size, x⟩ := q
      obtain ⟨e1, e2⟩ := hp 0 p (off, size, x) rfl rfl
      simp only [afill] at hf
      split at hf
      · rename_i v hv
        split at hf
        · rename_i hc
          obtain ⟨c1, c2, c3⟩ := hc
          have hv' := ev_sound fr hv
          obtain ⟨l1, l2, l3⟩ := hv'.cells (RV.not_tuple c3)
          simp only at e1 e2
          subst e1
          obtain ⟨us, q1, q2⟩ := fill_sound fr place parts l _ ys _ (h.put_cells hv' c3 off) (by simpa using hl) (fun k p q a1 a2 => hp (k + 1) p q (by simpa using a1) (by simpa using a2)) hf
          refine ⟨us, ?_, q2⟩
          simp only [List.map_cons, Instr.fill, e2]
          rw [if_neg]
          · exact q1
          · have h1' := h.1
            simp only [Bool.or_eq_true, decide_eq_true_eq, ne_eq, not_or, Nat.not_lt]
            omega
        · cases hf
      · cases hf

theorem trParts_spec (fields : Array Field) : ∀ (parts : List (Nat × Operand)) (l : List (Nat × Nat × Operand)), trParts P fields parts = some l → l.length = parts.length ∧
    ∀ (k : Nat) (p : Nat × Operand) (q : Nat × Nat × Operand), parts[k]? = some p → l[k]? = some q → q.2.2 = p.2 ∧ ∃ f i, fields[p.1]? = some f ∧ P.info? f.type = some i ∧ q.1 = f.offset ∧ q.2.1 = i.size
  | [], l, h => by cases h; exact ⟨rfl, by simp⟩
  | (i, x) :: parts, l, h => by
    simp only [trParts] at h
    split at h
    · rename_i f l' hf hl
      split at h
      · rename_i j hj
        cases h
        obtain ⟨q1, q2⟩ := trParts_spec fields parts l' hl
        refine ⟨by simp [q1], fun k p q e1 e2 => ?_⟩
        cases k with
        | zero => cases e1; cases e2; exact ⟨rfl, f, j, hf, hj, rfl, rfl⟩
        | succ k => exact q2 k p q (by simpa using e1) (by simpa using e2)
      · cases h
    · cases h
end
end Go.Awp
