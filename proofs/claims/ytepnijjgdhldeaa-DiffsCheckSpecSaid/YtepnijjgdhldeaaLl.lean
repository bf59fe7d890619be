/- The truth of quiet operations in the model (part 11). Generic in the program. -/
import Derived.Test.YtepnijjgdhldeaaLk
namespace Go.Awp

theorem flatten_get {α : Type} {s : Nat} : ∀ (es : List (List α)), (∀ e, e ∈ es → e.length = s) → ∀ (i : Nat) (e : List α) (j : Nat) (x : α), es[i]? = some e → e[j]? = some x → es.flatten[i * s + j]? = some x
  | [], _, i, e, j, x, h, _ => by simp at h
  | e0 :: es, hs, i, e, j, x, h1, h2 => by
    have h0 := hs e0 (by simp)
    cases i with
    | zero =>
      simp at h1; subst h1
      have : j < e0.length := by
        rcases Nat.lt_or_ge j e0.length with h' | h'
        · exact h'
        · rw [List.getElem?_eq_none h'] at h2; cases h2
      simp only [List.flatten_cons, Nat.zero_mul, Nat.zero_add]
      rw [List.getElem?_append_left this]; exact h2
    | succ i =>
      have := flatten_get es (fun e he => hs e (by simp [he])) i e j x (by simpa using h1) h2
      simp only [List.flatten_cons]
      rw [List.getElem?_append_right (by rw [Nat.add_mul]; omega)]
      rw [show (i + 1) * s + j - e0.length = i * s + j by rw [Nat.add_mul]; omega]
      exact this

theorem flatten_length {α : Type} {s : Nat} : ∀ (es : List (List α)), (∀ e, e ∈ es → e.length = s) → es.flatten.length = es.length * s
  | [], _ => by simp
  | e :: es, hs => by
    simp only [List.flatten_cons, List.length_append, List.length_cons]
    rw [flatten_length es (fun e he => hs e (by simp [he])), hs e (by simp), Nat.add_mul]; omega

theorem setMany_append_left : ∀ (c : List AV) (p q : List AV) (off : Nat), off + c.length ≤ p.length → setMany (p ++ q) off c = setMany p off c ++ q
  | [], p, q, off, _ => rfl
  | x :: c, p, q, off, h => by
    simp only [setMany]
    simp only [List.length_cons] at h
    rw [List.set_append_left _ _ (by omega), setMany_append_left c _ q (off + 1) (by simp; omega)]

theorem setMany_append_right : ∀ (c : List AV) (p q : List AV) (off : Nat), setMany (p ++ q) (p.length + off) c = p ++ setMany q off c
  | [], p, q, off => rfl
  | x :: c, p, q, off => by
    simp only [setMany]
    rw [List.set_append_right _ _ (by omega), Nat.add_sub_cancel_left, Nat.add_assoc, setMany_append_right c p _ (off + 1)]

theorem setMany_all : ∀ (c p r : List AV), c.length = p.length → setMany (r ++ p) r.length c = r ++ c
  | [], p, r, h => by
    have : p = [] := List.eq_nil_of_length_eq_zero (by simpa using h.symm)
    subst this; rfl
  | x :: c, p, r, h => by
    cases p with
    | nil => simp at h
    | cons y p =>
      simp only [setMany]
      rw [List.set_append_right _ _ (by omega), Nat.sub_self]
      simp only [List.set_cons_zero]
      have := setMany_all c p (r ++ [x]) (by simpa using h)
      simpa using this

theorem flatten_set {s : Nat} : ∀ (es : List (List AV)), (∀ e, e ∈ es → e.length = s) → ∀ (i : Nat) (c : List AV), c.length = s → i < es.length → (es.set i c).flatten = setMany es.flatten (i * s) c
  | [], _, i, c, _, h => by simp at h
  | e :: es, hs, i, c, hc, hi => by
    have h0 := hs e (by simp)
    cases i with
    | zero =>
      simp only [List.set_cons_zero, List.flatten_cons, Nat.zero_mul]
      rw [setMany_append_left c e es.flatten 0 (by omega)]
      have := setMany_all c e [] (by omega)
      simp at this
      rw [this]
    | succ i =>
      simp only [List.set_cons_succ, List.flatten_cons]
      rw [flatten_set es (fun e he => hs e (by simp [he])) i c hc (by simpa using hi)]
      rw [← setMany_append_right c e es.flatten (i * s)]
      congr 1
      rw [Nat.add_mul]; omega

theorem afillE_flat {env : AEnv} {s : Nat} : ∀ (parts : List (Nat × Operand)) (es es' : List (List AV)), (∀ e, e ∈ es → e.length = s) → afillE env s es parts = some es' →
    afill env es.flatten (parts.map fun p => (p.1 * s, s, p.2)) = some es'.flatten ∧ (∀ e, e ∈ es' → e.length = s) ∧ es'.length = es.length
  | [], es, es', hs, h => by cases h; exact ⟨rfl, hs, rfl⟩
  | (i, x) :: parts, es, es', hs, h => by
    simp only [afillE] at h
    split at h
    · rename_i v hv
      split at h
      · rename_i hc
        obtain ⟨c1, c2, c3⟩ := hc
        have hs' : ∀ e, e ∈ es.set i v.cells → e.length = s := by
          intro e he
          rcases List.mem_or_eq_of_mem_set he with he | rfl
          · exact hs e he
          · exact c1
        obtain ⟨q1, q2, q3⟩ := afillE_flat parts _ es' hs' h
        refine ⟨?_, q2, by simpa using q3⟩
        have hlen : i * s + s ≤ es.flatten.length := by
          rw [flatten_length es hs]
          have : (i + 1) * s ≤ es.length * s := Nat.mul_le_mul_right _ c2
          rw [Nat.add_mul] at this; omega
        simp only [List.map_cons, afill, hv, c1, c3, hlen, and_self, if_true]
        rw [← flatten_set es hs i v.cells c1 c2]
        exact q1
      · cases h
    · cases h

section
variable {P : Program} {n : Nat} {w : World} {m : AMap} {H : AHeap} {B : Nat} {env : AEnv} {a : Act} {o : Oper} {r : QR}

theorem RL_zeros {z : List AV} {zc : Array Value} {s : Nat} (h : RL w m H B z zc) (hz : z.length = s) (hs : 0 < s) (k : Nat) : RL w m H B (List.replicate k z).flatten ((Array.range (k * s)).map fun i => zc[i % zc.size]!) := by
  have hu : ∀ e, e ∈ List.replicate k z → e.length = s := by intro e he; rw [List.eq_of_mem_replicate he]; exact hz
  have hlen := flatten_length (List.replicate k z) hu
  simp only [List.length_replicate] at hlen
  have hsz : zc.size = s := by have := h.1; omega
  refine ⟨by simp [hlen], fun x hx => ?_, fun i x v e1 e2 => ?_⟩
  · obtain ⟨e, he, hx⟩ := List.mem_flatten.1 hx
    rw [List.eq_of_mem_replicate he] at hx
    exact h.2.1 x hx
  · have hi : i < k * s := by
      rcases Nat.lt_or_ge i (k * s) with h' | h'
      · exact h'
      · rw [List.getElem?_eq_none (by omega)] at e1; cases e1
    have hq : i / s < k := Nat.div_lt_of_lt_mul (by rwa [Nat.mul_comm] at hi)
    have hr : i % s < s := Nat.mod_lt _ hs
    have hdm : i / s * s + i % s = i := by rw [Nat.mul_comm]; exact Nat.div_add_mod i s
    have hg := flatten_get (List.replicate k z) hu (i / s) z (i % s) (z[i % s]'(by omega)) (by simp [hq]) (List.getElem?_eq_getElem _)
    rw [hdm, e1] at hg
    cases hg
    have : v = zc[i % s]'(by omega) := by
      simp [hi, hsz] at e2
      rw [← e2]
      rw [getElem!_pos zc (i % s) (by omega)]
    rw [this]
    exact h.2.2 (i % s) _ _ (List.getElem?_eq_getElem _) (Array.getElem?_eq_getElem _)

theorem arr_cells {es : List (List AV)} {s : Nat} {vs : Array Value} (hs : ∀ e, e ∈ es → e.length = s) (h : RL w m H B es.flatten vs) : ∀ (i : Nat) (el : List AV) (j : Nat) (x : AV), es[i]? = some el → el[j]? = some x → ∃ v, vs[i * s + j]? = some v ∧ RV w m H B x v ∧ x.one = true := by
  intro i el j x h1 h2
  have hg := flatten_get es hs i el j x h1 h2
  have hlt : i * s + j < vs.size := by
    rcases Nat.lt_or_ge (i * s + j) vs.size with h' | h'
    · exact h'
    · rw [List.getElem?_eq_none (by rw [h.1]; exact h')] at hg; cases hg
  exact ⟨vs[i * s + j], Array.getElem?_eq_getElem hlt, h.2.2 _ x _ hg (Array.getElem?_eq_getElem hlt), h.2.1 x (List.mem_of_getElem? hg)⟩

theorem zero_RL {z : Value} {x : AV} (hc : cst z = some x) (h1 : x.cells.all AV.one = true) : RL w m H B x.cells z.cells := by
  have hx := cst_sound (w := w) (m := m) (H := H) (B := B) hc
  have ht : ∀ l, x ≠ .tuple l := by
    intro l e; subst e; simp [AV.cells, AV.one] at h1
  exact hx.cells ht

theorem q_mklit {t e : TypeId} {i : TypeInfo} {z : Value} {x : AV} {len : Nat} {parts : Array (Nat × Operand)} (ht : P.underlying t = some (.slice e)) (hi : P.info? e = some i) (hz : i.zero = some z) (hc : cst z = some x) (h1 : x.cells.all AV.one = true) (hs : 0 < i.size) (hbig : len * i.size ≤ 16777216)
    (ho : o.op = .buildSlice t len parts) (fr : FR n w m H B env a) (h : qstep (.mklit e i.size len x.cells parts.toList) env H = some r) : QOK P o a w m H B r := by
  simp only [qstep] at h
  split at h
  · rename_i hl
    obtain ⟨hl, hn⟩ := hl
    split at h
    · rename_i es hes
      cases h
      rcases Nat.eq_zero_or_pos len with hz0 | hpos
      · subst hz0
        have hp : parts.toList = [] := by
          cases hp : parts.toList with
          | nil => rfl
          | cons q qs =>
            rw [hp] at hes
            obtain ⟨k, xo⟩ := q
            simp only [afillE] at hes
            split at hes
            · rw [if_neg (by simp)] at hes; cases hes
            · cases hes
        rw [hp] at hes
        have he : es = [] := by simpa [afillE] using hes.symm
        subst he
        have hpa : parts = #[] := by cases parts; simp_all
        subst hpa
        refine ⟨by simp, #[], 0, ?_, Nat.le_refl _, by unfold maxLen; omega, by simp, by simp⟩
        simp only [execOp, ho, Instr.buildSlice, Sem.run_bind, run_underlying ht, Result.andThen_ok, run_sizeOf' hi, Nat.zero_mul, show ¬ 0 > 2 ^ 24 by decide, if_false, if_true, Sem.run_pure, Instr.fill, Array.map_empty, show Array.range 0 = #[] by simp, newRow, run_newObj, World.alloc, List.length_nil]
      have hu : ∀ e, e ∈ List.replicate len x.cells → e.length = i.size := by intro e he; rw [List.eq_of_mem_replicate he]; exact hl
      obtain ⟨q1, q2, q3⟩ := afillE_flat parts.toList _ es hu hes
      have hz0 := RL_zeros (zero_RL (w := w) (m := m) (H := H) (B := B) hc h1) hl hs len
      obtain ⟨us, f1, f2⟩ := fill_sound fr (fun k => some (k * i.size, i.size)) parts.toList _ _ _ _ hz0 (by simp) (fun k p q e1 e2 => by
        rw [List.getElem?_map, e1] at e2
        cases e2
        exact ⟨rfl, rfl⟩) q1
      have hlen : es.length = len := by simpa using q3
      refine ⟨q2, us, len, ?_, by omega, by unfold maxLen; omega, by rw [← f2.1, flatten_length es q2, hlen], arr_cells q2 f2⟩
      have hf1 : Instr.fill (fun k => some (k * i.size, i.size)) ((Array.range (len * i.size)).map fun k => z.cells[k % z.cells.size]!) (parts.map fun p => (p.1, a.eval p.2)).toList = some us := by simpa using f1
      have hb : ¬ len * i.size > 2 ^ 24 := by omega
      have h0 : ¬ len * i.size = 0 := by
        intro h0
        rcases Nat.mul_eq_zero.1 h0 with h | h <;> omega
      rw [hlen]
      simp only [execOp, ho, Instr.buildSlice, Sem.run_bind, run_underlying ht, Result.andThen_ok, run_sizeOf' hi, Sem.run_ite, hb, if_false, Sem.run_pure, h0, zeroValue, typeInfo, run_program, hi, hz, hf1, newRow, run_newObj, World.alloc]
    · cases h
  · cases h

theorem q_mkslice {t e : TypeId} {i : TypeInfo} {z : Value} {x : AV} {l c : Operand} (ht : P.underlying t = some (.slice e)) (hi : P.info? e = some i) (hz : i.zero = some z) (hc : cst z = some x) (h1 : x.cells.all AV.one = true) (hs : 0 < i.size)
    (ho : o.op = .makeSlice t l c) (fr : FR n w m H B env a) (h : qstep (.mkslice e i.size i.bytes x.cells l c) env H = some r) : QOK P o a w m H B r := by
  simp only [qstep] at h
  split at h
  · rename_i kl lz kc cz hlv hcv
    split at h
    · rename_i hh
      obtain ⟨g1, g2, g3, g4, g5⟩ := hh
      cases h
      have hx := ev_sound fr hlv
      have hy := ev_sound fr hcv
      generalize he : a.eval l = u at hx
      generalize hf : a.eval c = v at hy
      cases hx; cases hy
      have hrl := RL_zeros (zero_RL (w := w) (m := m) (H := H) (B := B) hc h1) g1 hs cz.toNat
      have hu : ∀ (k : Nat) e, e ∈ List.replicate k x.cells → e.length = i.size := by intro k e he; rw [List.eq_of_mem_replicate he]; exact g1
      refine ⟨hu _, madeCells z.cells (cz.toNat * i.size), cz.toNat, ?_, by simp; omega, by unfold maxLen; omega, ?_, fun k el j y e1 e2 => ?_⟩
      · have := run_make (P := P) w t e i z ht hi hz kl kc lz cz g2 g3 g4 g5
        simp only [execOp, ho, he, hf, Sem.run_bind, this, Result.andThen_ok, Sem.run_pure, List.length_replicate]
      · rw [size_madeCells]
      · have hk : k < cz.toNat := by
          rcases Nat.lt_or_ge k lz.toNat with h' | h'
          · omega
          · rw [List.getElem?_eq_none (by simpa using h')] at e1; cases e1
        have e1' : (List.replicate cz.toNat x.cells)[k]? = some el := by
          rw [List.getElem?_replicate] at e1 ⊢
          split at e1
          · rw [if_pos hk]; exact e1
          · cases e1
        exact arr_cells (hu _) hrl k el j y e1' e2
    · cases h
  · cases h
end
end Go.Awp
