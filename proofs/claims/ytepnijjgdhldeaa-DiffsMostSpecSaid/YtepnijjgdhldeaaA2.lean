/- The truth of quiet operations in the model (part 11). Generic in the program. -/
import Derived.Test.YtepnijjgdhldeaaA1
namespace Go.Awp
set_option linter.unusedSectionVars false
variable [Fx]
theorem flatten_get {α : Type} {s : Nat} : ∀ (es : List (List α)), (∀ e, e ∈ es → e.length = s) → ∀ (i : Nat) (e : List α) (j : Nat) (x : α), es[i]? = some e → e[j]? = some x → es.flatten[i * s + j]? = some x
  | [], _, i, e, j, x, h, _ => by simp at h
  | e0 :: es, hs, i, e, j, x, h1, h2 => by
    have h0 := hs e0 (by simp)
    cases i with
    | zero =>
      simp at h1; subst h1
      have : j < e0.length := by
        rcases Nat.lt_or_ge j e0.length with h' | h'
        · exact h'
        · rw [List.getElem?_eq_none h'] at h2; cases h2
      simp only [List.flatten_cons, Nat.zero_mul, Nat.zero_add]
      rw [List.getElem?_append_left this]; exact h2
    | succ i =>
      have := flatten_get es (fun e he => hs e (by simp [he])) i e j x (by simpa using h1) h2
      simp only [List.flatten_cons]
      rw [List.getElem?_append_right (by rw [Nat.add_mul]; omega)]
      rw [show (i + 1) * s + j - e0.length = i * s + j by rw [Nat.add_mul]; omega]
      exact this
theorem flatten_length {α : Type} {s : Nat} : ∀ (es : List (List α)), (∀ e, e ∈ es → e.length = s) → es.flatten.length = es.length * s
  | [], _ => by simp
  | e :: es, hs => by
    simp only [List.flatten_cons, List.length_append, List.length_cons]
    rw [flatten_length es (fun e he => hs e (by simp [he])), hs e (by simp), Nat.add_mul]; omega
theorem setMany_append_left : ∀ (c : List AV) (p q : List AV) (off : Nat), off + c.length ≤ p.length → setMany (p ++ q) off c = setMany p off c ++ q
  | [], p, q, off, _ => rfl
  | x :: c, p, q, off, h => by
    simp only [setMany]
    simp only [List.length_cons] at h
    rw [List.set_append_left _ _ (by omega), setMany_append_left c _ q (off + 1) (by simp; omega)]
theorem setMany_append_right : ∀ (c : List AV) (p q : List AV) (off : Nat), setMany (p ++ q) (p.length + off) c = p ++ setMany q off c
  | [], p, q, off => rfl
  | x :: c, p, q, off => by
    simp only [setMany]
    rw [List.set_append_right _ _ (by omega), Nat.add_sub_cancel_left, Nat.add_assoc, setMany_append_right c p _ (off + 1)]
theorem setMany_all : ∀ (c p r : List AV), c.length = p.length → setMany (r ++ p) r.length c = r ++ c
  | [], p, r, h => by
    have : p = [] := List.eq_nil_of_length_eq_zero (by simpa using h.symm)
    subst this; rfl
  | x :: c, p, r, h => by
    cases p with
    | nil => simp at h
    | cons y p =>
      simp only [setMany]
      rw [List.set_append_right _ _ (by omega), Nat.sub_self]
      simp only [List.set_cons_zero]
      have := setMany_all c p (r ++ [x]) (by simpa using h)
      simpa using this
theorem flatten_set {s : Nat} : ∀ (es : List (List AV)), (∀ e, e ∈ es → e.length = s) → ∀ (i : Nat) (c : List AV), c.length = s → i < es.length → (es.set i c).flatten = setMany es.flatten (i * s) c
  | [], _, i, c, _, h => by simp at h
  | e :: es, hs, i, c, hc, hi => by
    have h0 := hs e (by simp)
    cases i with
    | zero =>
      simp only [List.set_cons_zero, List.flatten_cons, Nat.zero_mul]
      rw [setMany_append_left c e es.flatten 0 (by omega)]
      have := setMany_all c e [] (by omega)
      simp at this
      rw [this]
    | succ i =>
      simp only [List.set_cons_succ, List.flatten_cons]
      rw [flatten_set es (fun e he => hs e (by simp [he])) i c hc (by simpa using hi)]
      rw [← setMany_append_right c e es.flatten (i * s)]
      congr 1
      rw [Nat.add_mul]; omega
theorem afillE_flat {env : AEnv} {s : Nat} : ∀ (parts : List (Nat × Operand)) (es es' : List (List AV)), (∀ e, e ∈ es → e.length = s) → afillE env s es parts = some es' →
    afill env es.flatten (parts.map fun p => (p.1 * s, s, p.2)) = some es'.flatten ∧ (∀ e, e ∈ es' → e.length = s) ∧ es'.length = es.length
  | [], es, es', hs, h => by cases h; exact ⟨rfl, hs, rfl⟩
  | (i, x) :: parts, es, es', hs, h => by
    simp only [afillE] at h
    split at h
    · rename_i v hv
      split at h
      · rename_i hc
        obtain ⟨c1, c2, c3⟩ := hc
        have hs' : ∀ e, e ∈ es.set i v.cells → e.length = s := by
          intro e he
          rcases List.mem_or_eq_of_mem_set he with he | rfl
          · exact hs e he
          · exact c1
        obtain ⟨q1, q2, q3⟩ := afillE_flat parts _ es' hs' h
        refine ⟨?_, q2, by simpa using q3⟩
        have hlen : i * s + s ≤ es.flatten.length := by
          rw [flatten_length es hs]
          have : (i + 1) * s ≤ es.length * s := Nat.mul_le_mul_right _ c2
          rw [Nat.add_mul] at this; omega
        simp only [List.map_cons, afill, hv, c1, c3, hlen, and_self, if_true]
        rw [← flatten_set es hs i v.cells c1 c2]
        exact q1
      · cases h
    · cases h
section
variable {P : Program} {n : Nat} {w : World} {m : AMap} {H : AHeap} {B : Nat} {env : AEnv} {a : Act} {o : Oper} {r : QR}
theorem RL_zeros {z : List AV} {zc : Array Value} {s : Nat} (h : RL w m H B z zc) (hz : z.length = s) (hs : 0 < s) (k : Nat) : RL w m H B (List.replicate k z).flatten ((Array.range (k * s)).map fun i => zc[i % zc.size]!) := by
  have hu : ∀ e, e ∈ List.replicate k z → e.length = s := by intro e he; rw [List.eq_of_mem_replicate he]; exact hz
  have hlen := flatten_length (List.replicate k z) hu
  simp only [List.length_replicate] at hlen
  have hsz : zc.size = s := by have := h.1; omega
  refine ⟨by simp [hlen], fun x hx => ?_, fun i x v e1 e2 => ?_⟩
  · obtain ⟨e, he, hx⟩ := List.mem_flatten.1 hx
    rw [List.eq_of_mem_replicate he] at hx
    exact h.2.1 x hx
  · have hi : i < k * s := by
      rcases Nat.lt_or_ge i (k * s) with h' | h'
      · exact h'
      · rw [List.getElem?_eq_none (by omega)] at e1; cases e1
    have hq : i / s < k := Nat.div_lt_of_lt_mul (by rwa [Nat.mul_comm] at hi)
    have hr : i % s < s := Nat.mod_lt _ hs
    have hdm : i / s * s + i % s = i := by rw [Nat.mul_comm]; exact Nat.div_add_mod i s
    have hg := flatten_get (List.replicate k z) hu (i / s) z (i % s) (z[i % s]'(by omega)) (by simp [hq]) (List.getElem?_eq_getElem _)
    rw [hdm, e1] at hg
    cases hg
    have : v = zc[i % s]'(by omega) := by
      simp [hi, hsz] at e2
      rw [← e2]
      rw [getElem!_pos zc (i % s) (by omega)]
    rw [this]
    exact h.2.2 (i % s) _ _ (List.getElem?_eq_getElem _) (Array.getElem?_eq_getElem _)
theorem arr_cells {es : List (List AV)} {s : Nat} {vs : Array Value} (hs : ∀ e, e ∈ es → e.length = s) (h : RL w m H B es.flatten vs) : ∀ (i : Nat) (el : List AV) (j : Nat) (x : AV), es[i]? = some el → el[j]? = some x → ∃ v, vs[i * s + j]? = some v ∧ RV w m H B x v ∧ x.one = true := by
  intro i el j x h1 h2
  have hg := flatten_get es hs i el j x h1 h2
  have hlt : i * s + j < vs.size := by
    rcases Nat.lt_or_ge (i * s + j) vs.size with h' | h'
    · exact h'
    · rw [List.getElem?_eq_none (by rw [h.1]; exact h')] at hg; cases hg
  exact ⟨vs[i * s + j], Array.getElem?_eq_getElem hlt, h.2.2 _ x _ hg (Array.getElem?_eq_getElem hlt), h.2.1 x (List.mem_of_getElem? hg)⟩
theorem zero_RL {z : Value} {x : AV} (hc : cst z = some x) (h1 : x.cells.all AV.one = true) : RL w m H B x.cells z.cells := by
  have hx := cst_sound (w := w) (m := m) (H := H) (B := B) hc
  have ht : ∀ l, x ≠ .tuple l := by
    intro l e; subst e; simp [AV.cells, AV.one] at h1
  exact hx.cells ht
theorem q_mklit {t e : TypeId} {i : TypeInfo} {z : Value} {x : AV} {len : Nat} {parts : Array (Nat × Operand)} (ht : P.underlying t = some (.slice e)) (hi : P.info? e = some i) (hz : i.zero = some z) (hc : cst z = some x) (h1 : x.cells.all AV.one = true) (hs : 0 < i.size) (hbig : len * i.size ≤ 16777216)
    (ho : o.op = .buildSlice t len parts) (fr : FR n w m H B env a) (h : qstep (.mklit e i.size len x.cells parts.toList) env H = some r) : QOK P o a w m H B r := by
  simp only [qstep] at h
  split at h
  · rename_i hl
    obtain ⟨hl, hn⟩ := hl
    split at h
    · rename_i es hes
      cases h
      rcases Nat.eq_zero_or_pos len with hz0 | hpos
      · subst hz0
        have hp : parts.toList = [] := by
          cases hp : parts.toList with
          | nil => rfl
          | cons q qs =>
            rw [hp] at hes
            obtain ⟨k, xo⟩ := q
            simp only [afillE] at hes
            split at hes
            · rw [if_neg (by simp)] at hes; cases hes
            · cases hes
        rw [hp] at hes
        have he : es = [] := by simpa [afillE] using hes.symm
        subst he
        have hpa : parts = #[] := by cases parts; simp_all
        subst hpa
        refine ⟨by simp, #[], 0, ?_, Nat.le_refl _, by unfold maxLen; omega, by simp, by simp⟩
        simp only [execOp, ho, Instr.buildSlice, Sem.run_bind, run_underlying ht, Result.andThen_ok, run_sizeOf' hi, Nat.zero_mul, show ¬ 0 > 2 ^ 24 by decide, if_false, if_true, Sem.run_pure, Instr.fill, Array.map_empty, show Array.range 0 = #[] by simp, newRow, run_newObj, World.alloc, List.length_nil]
      have hu : ∀ e, e ∈ List.replicate len x.cells → e.length = i.size := by intro e he; rw [List.eq_of_mem_replicate he]; exact hl
      obtain ⟨q1, q2, q3⟩ := afillE_flat parts.toList _ es hu hes
      have hz0 := RL_zeros (zero_RL (w := w) (m := m) (H := H) (B := B) hc h1) hl hs len
      obtain ⟨us, f1, f2⟩ := fill_sound fr (fun k => some (k * i.size, i.size)) parts.toList _ _ _ _ hz0 (by simp) (fun k p q e1 e2 => by
        rw [List.getElem?_map, e1] at e2
        cases e2
        exact ⟨rfl, rfl⟩) q1
      have hlen : es.length = len := by simpa using q3
      refine ⟨q2, us, len, ?_, by omega, by unfold maxLen; omega, by rw [← f2.1, flatten_length es q2, hlen], arr_cells q2 f2⟩
      have hf1 : Instr.fill (fun k => some (k * i.size, i.size)) ((Array.range (len * i.size)).map fun k => z.cells[k % z.cells.size]!) (parts.map fun p => (p.1, a.eval p.2)).toList = some us := by simpa using f1
      have hb : ¬ len * i.size > 2 ^ 24 := by omega
      have h0 : ¬ len * i.size = 0 := by
        intro h0
        rcases Nat.mul_eq_zero.1 h0 with h | h <;> omega
      rw [hlen]
      simp only [execOp, ho, Instr.buildSlice, Sem.run_bind, run_underlying ht, Result.andThen_ok, run_sizeOf' hi, Sem.run_ite, hb, if_false, Sem.run_pure, h0, zeroValue, typeInfo, run_program, hi, hz, hf1, newRow, run_newObj, World.alloc]
    · cases h
  · cases h
theorem q_mkslice {t e : TypeId} {i : TypeInfo} {z : Value} {x : AV} {l c : Operand} (ht : P.underlying t = some (.slice e)) (hi : P.info? e = some i) (hz : i.zero = some z) (hc : cst z = some x) (h1 : x.cells.all AV.one = true) (hs : 0 < i.size)
    (ho : o.op = .makeSlice t l c) (fr : FR n w m H B env a) (h : qstep (.mkslice e i.size i.bytes x.cells l c) env H = some r) : QOK P o a w m H B r := by
  simp only [qstep] at h
  split at h
  · rename_i kl lz kc cz hlv hcv
    split at h
    · rename_i hh
      obtain ⟨g1, g2, g3, g4, g5⟩ := hh
      cases h
      have hx := ev_sound fr hlv
      have hy := ev_sound fr hcv
      generalize he : a.eval l = u at hx
      generalize hf : a.eval c = v at hy
      cases hx; cases hy
      have hrl := RL_zeros (zero_RL (w := w) (m := m) (H := H) (B := B) hc h1) g1 hs cz.toNat
      have hu : ∀ (k : Nat) e, e ∈ List.replicate k x.cells → e.length = i.size := by intro k e he; rw [List.eq_of_mem_replicate he]; exact g1
      refine ⟨hu _, madeCells z.cells (cz.toNat * i.size), cz.toNat, ?_, by simp; omega, by unfold maxLen; omega, ?_, fun k el j y e1 e2 => ?_⟩
      · have := run_make (P := P) w t e i z ht hi hz kl kc lz cz g2 g3 g4 g5
        simp only [execOp, ho, he, hf, Sem.run_bind, this, Result.andThen_ok, Sem.run_pure, List.length_replicate]
      · rw [size_madeCells]
      · have hk : k < cz.toNat := by
          rcases Nat.lt_or_ge k lz.toNat with h' | h'
          · omega
          · rw [List.getElem?_eq_none (by simpa using h')] at e1; cases e1
        have e1' : (List.replicate cz.toNat x.cells)[k]? = some el := by
          rw [List.getElem?_replicate] at e1 ⊢
          split at e1
          · rw [if_pos hk]; exact e1
          · cases e1
        exact arr_cells (hu _) hrl k el j y e1' e2
    · cases h
  · cases h
end
end Go.Awp
/- The truth of quiet operations in the model: all of them. Generic in the program. -/
namespace Go.Awp
set_option linter.unusedSectionVars false
variable [Fx]
section
variable {P : Program} {n : Nat} {w : World} {m : AMap} {H : AHeap} {B : Nat} {env : AEnv} {a : Act} {o : Oper} {r : QR} {io : IOp}
theorem qstep_sound (htr : trOp P o = some io) (st : St w m H B) (fr : FR n w m H B env a) (h : qstep io env H = some r) : QOK P o a w m H B r := by
  unfold trOp at htr
  split at htr
  · cases htr; exact q_mv (.inl ‹_›) fr h
  · cases htr; exact q_mv (.inr ‹_›) fr h
  · cases htr; exact q_pick ‹_› fr h
  · split at htr
    · cases htr; exact q_load ‹_› ‹_› ‹_› st fr h
    · cases htr
  · split at htr
    · cases htr; exact q_box ‹_› fr h
    · cases htr
  · split at htr
    · split at htr
      · split at htr
        · split at htr
          · cases htr; exact q_zero ‹_› ‹_› ‹_› ‹_› ‹_› h
          · cases htr
        · cases htr
      · cases htr
    · cases htr
  · split at htr
    · split at htr
      · split at htr
        · split at htr
          · rename_i hall
            cases htr
            refine q_build ‹_› ‹_› ‹_› ‹_› ‹_› (fun f hf => ?_) ‹_› fr h
            have := List.all_eq_true.1 hall f (by simpa using hf)
            exact Option.isSome_iff_exists.1 this
          · cases htr
        · cases htr
      · cases htr
    · split at htr
      · split at htr
        · cases htr
          rename_i hob _ _ _ _ _ hi ht _ _ _ _ hz hj _ _ hc
          exact q_buildA hi ht hz hj hc hob fr h
        · cases htr
      · cases htr
    · cases htr
  · split at htr
    · split at htr
      · split at htr
        · cases htr; simp [qstep] at h
        · cases htr
      · cases htr
    · cases htr
  · split at htr
    · split at htr
      · split at htr
        · split at htr
          · split at htr
            · rename_i hc
              obtain ⟨h1, h2, h3⟩ := hc
              cases htr; exact q_mklit ‹_› ‹_› ‹_› ‹_› h1 h2 h3 ‹_› fr h
            · cases htr
          · cases htr
        · cases htr
      · cases htr
    · cases htr
  · split at htr
    · split at htr
      · split at htr
        · split at htr
          · split at htr
            · rename_i hc
              cases htr; exact q_mkslice ‹_› ‹_› ‹_› ‹_› hc.1 hc.2 ‹_› fr h
            · cases htr
          · cases htr
        · cases htr
      · cases htr
    · cases htr
  · split at htr
    · split at htr
      · split at htr
        · split at htr
          · cases htr
          · cases htr; exact q_faddr ‹_› ‹_› ‹_› ‹_› ‹_› fr h
        · cases htr
      · cases htr
    · cases htr
  · split at htr
    · split at htr
      · split at htr
        · cases htr; exact q_field ‹_› ‹_› ‹_› ‹_› ‹_› fr h
        · cases htr
      · cases htr
    · cases htr
  · split at htr
    · split at htr
      · cases htr; exact q_iaddr ‹_› ‹_› ‹_› fr h
      · cases htr
    · split at htr
      · cases htr; exact q_iaddrA ‹_› ‹_› ‹_› fr h
      · cases htr
    · cases htr
  · split at htr
    · split at htr
      · cases htr; exact q_indexA ‹_› ‹_› ‹_› ‹_› fr h
      · cases htr
    · cases htr; exact q_indexS ‹_› ‹_› fr h
    · cases htr
  · split at htr
    · split at htr
      · cases htr; exact q_slice ‹_› ‹_› ‹_› st fr h
      · cases htr
    · cases htr; exact q_sliceS ‹_› ‹_› fr h
    · cases htr
  · split at htr
    · split at htr
      · cases htr; exact q_slice0 ‹_› ‹_› ‹_› fr h
      · cases htr
    · cases htr
  · split at htr
    · split at htr
      · cases htr; exact q_slice3 ‹_› ‹_› ‹_› fr h
      · cases htr
    · cases htr
  · cases htr; exact q_extract ‹_› fr h
  · cases htr; exact q_un ‹_› fr h
  · split at htr
    · cases htr; exact q_bin ‹_› fr h
    · cases htr; exact q_bin ‹_› fr h
    · split at htr
      · cases htr; exact q_binB (neg := false) ‹_› ‹_› fr h
      · cases htr; exact q_binB (neg := true) ‹_› ‹_› fr h
      · cases htr
    · split at htr
      · cases htr; simp [qstep] at h
      · cases htr; simp [qstep] at h
      · cases htr
    · split at htr
      · split at htr
        · split at htr
          · cases htr; exact q_eqA (neg := false) ‹_› ‹_› ‹_› ‹_› fr h
          · cases htr; exact q_eqA (neg := true) ‹_› ‹_› ‹_› ‹_› fr h
          · cases htr
        · cases htr
      · cases htr
    · cases htr
  · split at htr
    · cases htr
      rename_i hob _ _ _ _ hs hd
      exact q_conv hs hd hob fr h
    · cases htr
  · split at htr
    · cases htr; exact q_iface ‹_› ‹_› fr h
    · cases htr
  · cases htr; exact q_mkfun ‹_› fr h
  · cases htr; exact q_nilchk ‹_› fr h
  · split at htr
    · cases htr; simp [qstep] at h
    · cases htr
  · rename_i b args ts hop
    split at htr
    · rename_i x t ha ht
      have ha' : args = #[x] := by cases args; simp_all
      have ht' : ts = #[t] := by cases ts; simp_all
      subst ha'; subst ht'
      split at htr
      · cases htr; exact q_len ‹_› ‹_› fr h
      · cases htr; exact q_lenS ‹_› ‹_› fr h
      · cases htr
    · cases htr; exact q_mm (mx := true) (by simpa using hop) fr h
    · cases htr; exact q_mm (mx := false) (by simpa using hop) fr h
    · split at htr
      · split at htr
        · split at htr
          · split at htr
            · split at htr
              · cases htr; simp [qstep] at h
              · cases htr
            · cases htr
          · cases htr
        · cases htr
      · cases htr
    · split at htr
      · split at htr
        · split at htr
          · cases htr; simp [qstep] at h
          · cases htr
        · cases htr
      · cases htr
    · split at htr
      · split at htr
        · split at htr
          · split at htr
            · split at htr
              · cases htr; simp [qstep] at h
              · cases htr
            · cases htr
          · cases htr
        · cases htr
      · cases htr
    · cases htr
  · cases htr; simp [qstep] at h
  · cases htr; simp [qstep] at h
  · cases htr; simp [qstep] at h
  · cases htr
end
end Go.Awp
/- How what is known of the activation's own objects is carried on. Generic in the program. -/
namespace Go.Awp
set_option linter.unusedSectionVars false
variable [Fx]
theorem St.mlt {w m H B} (st : St w m H B) {h b : Nat} (e : m h = some b) : h < H.length := by
  obtain ⟨_, _, o, _, e1, _⟩ := st.dom h b e
  exact AHeap.obj_lt e1
theorem St.push {w m H B} (st : St w m H B) (X : AHeap) : St w m (H ++ X) B ∧ Adv w m H w m (H ++ X) := by
  have ad : Adv w m H w m (H ++ X) := by
    refine ⟨rfl, rfl, rfl, Nat.le_refl _, fun _ _ _ => rfl, fun _ _ h => .inl h, by simp, fun h o' hh e => ?_⟩
    rw [AHeap.obj_push_lt hh] at e
    exact ⟨o', e, rfl, rfl, Nat.le_refl _, fun _ _ h => ⟨h, rfl⟩⟩
  refine ⟨⟨st.base, fun h b e => ?_, st.inj, st.fxa ad⟩, ad⟩
  obtain ⟨h1, h2, o, cs, e1, e2, e3, e4⟩ := st.dom h b e
  refine ⟨h1, h2, o, cs, by rw [AHeap.obj_push_lt (st.mlt e)]; exact e1, e2, e3, fun i el j x a1 a2 => ?_⟩
  obtain ⟨v, q1, q2, q3⟩ := e4 i el j x a1 a2
  exact ⟨v, q1, q2.mono ad, q3⟩
def AMap.without (m : AMap) (h : Nat) : AMap := fun k => if k = h then none else m k
def AMap.upd (m : AMap) (h b : Nat) : AMap := fun k => if k = h then some b else m k
theorem St.drop {w m H B} (st : St w m H B) {h : Nat} {o : AObj} (ho : AHeap.obj H h = some o) (o' : Option AObj) (hc : ∀ o1, o' = some o1 → o1.s = o.s ∧ o1.e = o.e ∧ o.elems.length < o1.elems.length) :
    St w (AMap.without m h) (H.set h o') B ∧ Adv w m H w (AMap.without m h) (H.set h o') := by
  have hlt := AHeap.obj_lt ho
  have ad : Adv w m H w (AMap.without m h) (H.set h o') := by
    refine ⟨rfl, rfl, rfl, Nat.le_refl _, fun _ _ _ => rfl, fun k b e => ?_, by simp, fun k o1 hk e => ?_⟩
    · unfold AMap.without at e
      split at e
      · cases e
      · exact .inl e
    · by_cases hkh : k = h
      · subst hkh
        rw [AHeap.obj_set_eq hlt] at e
        obtain ⟨c1, c2, c3⟩ := hc o1 e
        exact ⟨o, ho, c1, c2, by omega, fun e => by omega⟩
      · rw [AHeap.obj_set_ne (Ne.symm hkh)] at e
        exact ⟨o1, e, rfl, rfl, Nat.le_refl _, fun _ b e => ⟨by simp [AMap.without, hkh, e], rfl⟩⟩
  refine ⟨⟨st.base, fun k b e => ?_, fun k k' b e e' => ?_, st.fxa ad⟩, ad⟩
  · unfold AMap.without at e
    split at e
    · cases e
    · rename_i hkh
      obtain ⟨h1, h2, o1, cs, e1, e2, e3, e4⟩ := st.dom k b e
      refine ⟨h1, h2, o1, cs, by rw [AHeap.obj_set_ne (Ne.symm hkh)]; exact e1, e2, e3, fun i el j x a1 a2 => ?_⟩
      obtain ⟨v, q1, q2, q3⟩ := e4 i el j x a1 a2
      exact ⟨v, q1, q2.mono ad, q3⟩
  · unfold AMap.without at e e'
    split at e
    · cases e
    · split at e'
      · cases e'
      · exact st.inj k k' b e e'
theorem St.new {w m H B} (st : St w m H B) {h : Nat} {o : AObj} (ho : AHeap.obj H h = some o) (hm : m h = none) {w' : World} (os : w'.os = w.os) (tape : w'.tape = w.tape) (output : w'.output = w.output) {vs : Array Value} (heap : w'.heap = w.heap.push (.cells vs o.e))
    (hu : ∀ e, e ∈ o.elems → e.length = o.s) (hc : ∀ (i : Nat) (e : List AV) (j : Nat) (x : AV), o.elems[i]? = some e → e[j]? = some x → ∃ v, vs[i * o.s + j]? = some v ∧ RV w m H B x v ∧ x.one = true) :
    St w' (AMap.upd m h w.heap.size) H B ∧ Adv w m H w' (AMap.upd m h w.heap.size) H := by
  have old : ∀ b, b < w.heap.size → w'.heap[b]? = w.heap[b]? := by
    intro b hb; rw [heap, Array.getElem?_push, if_neg (by omega)]
  have sz : w'.heap.size = w.heap.size + 1 := by rw [heap]; simp
  have ad : Adv w m H w' (AMap.upd m h w.heap.size) H := by
    refine ⟨os, tape, output, by omega, fun b hb _ => old b hb, fun k b e => ?_, Nat.le_refl _, fun k o1 hk e => ⟨o1, e, rfl, rfl, Nat.le_refl _, fun _ b hb => ?_⟩⟩
    · unfold AMap.upd at e
      split at e
      · cases e; exact .inr (Nat.le_refl _)
      · exact .inl e
    · have hkh : k ≠ h := by intro e; subst e; rw [hm] at hb; cases hb
      refine ⟨by simp [AMap.upd, hkh, hb], ?_⟩
      unfold World.shape?
      rw [old b (st.dom k b hb).2.1]
  refine ⟨⟨by have := st.base; omega, fun k b e => ?_, fun k k' b e e' => ?_, st.fxa ad⟩, ad⟩
  · unfold AMap.upd at e
    split at e
    · rename_i hkh
      cases e; subst hkh
      refine ⟨st.base, by omega, o, vs, ho, by rw [heap]; simp, hu, fun i el j x a1 a2 => ?_⟩
      obtain ⟨v, q1, q2, q3⟩ := hc i el j x a1 a2
      exact ⟨v, q1, q2.mono ad, q3⟩
    · obtain ⟨h1, h2, o1, cs, e1, e2, e3, e4⟩ := st.dom k b e
      refine ⟨h1, by omega, o1, cs, e1, by rw [old b h2]; exact e2, e3, fun i el j x a1 a2 => ?_⟩
      obtain ⟨v, q1, q2, q3⟩ := e4 i el j x a1 a2
      exact ⟨v, q1, q2.mono ad, q3⟩
  · unfold AMap.upd at e e'
    split at e <;> split at e'
    · rename_i a b; rw [a, b]
    · rename_i a b
      cases e
      have := (st.dom k' _ e').2.1; omega
    · rename_i a b
      cases e'
      have := (st.dom k _ e).2.1; omega
    · exact st.inj k k' b e e'
theorem St.upd {w m H B} (st : St w m H B) {h b : Nat} {o o' : AObj} (ho : AHeap.obj H h = some o) (hm : m h = some b) (hs : o'.s = o.s) (he : o'.e = o.e) (hl : o.elems.length ≤ o'.elems.length) {w' : World} (os : w'.os = w.os) (tape : w'.tape = w.tape) (output : w'.output = w.output)
    (size : w'.heap.size = w.heap.size) (other : ∀ k, k ≠ b → w'.heap[k]? = w.heap[k]?) {cs cs' : Array Value} (hcs : w.heap[b]? = some (.cells cs o.e (0, 0))) (hcs' : w'.heap[b]? = some (.cells cs' o.e (0, 0))) (hsz : cs'.size = cs.size)
    (hu : ∀ e, e ∈ o'.elems → e.length = o'.s) (hc : ∀ (i : Nat) (e : List AV) (j : Nat) (x : AV), o'.elems[i]? = some e → e[j]? = some x → ∃ v, cs'[i * o'.s + j]? = some v ∧ RV w m H B x v ∧ x.one = true) :
    St w' m (H.set h (some o')) B ∧ Adv w m H w' m (H.set h (some o')) := by
  have hlt := AHeap.obj_lt ho
  have ad : Adv w m H w' m (H.set h (some o')) := by
    refine ⟨os, tape, output, by omega, fun k hk hn => other k (fun e => hn h (by rw [e]; exact hm)), fun _ _ h => .inl h, by simp, fun k o1 hk e => ?_⟩
    have shp : ∀ b', m k = some b' → w'.shape? b' = w.shape? b' := by
      intro b' hb'
      by_cases e' : b' = b
      · subst e'
        simp [World.shape?, hcs, hcs', hsz]
      · simp only [World.shape?, other b' e']
    by_cases hkh : k = h
    · subst hkh
      rw [AHeap.obj_set_eq hlt] at e
      cases e
      exact ⟨o, ho, hs, he, hl, fun _ b' hb' => ⟨hb', shp b' hb'⟩⟩
    · rw [AHeap.obj_set_ne (Ne.symm hkh)] at e
      exact ⟨o1, e, rfl, rfl, Nat.le_refl _, fun _ b' hb' => ⟨hb', shp b' hb'⟩⟩
  refine ⟨⟨by rw [size]; exact st.base, fun k b' e => ?_, st.inj, st.fxa ad⟩, ad⟩
  by_cases hkh : k = h
  · subst hkh
    rw [hm] at e; cases e
    obtain ⟨h1, h2, _⟩ := st.dom k b hm
    refine ⟨h1, by omega, o', cs', AHeap.obj_set_eq hlt, by rw [he]; exact hcs', hu, fun i el j x a1 a2 => ?_⟩
    obtain ⟨v, q1, q2, q3⟩ := hc i el j x a1 a2
    exact ⟨v, q1, q2.mono ad, q3⟩
  · obtain ⟨h1, h2, o1, cs1, e1, e2, e3, e4⟩ := st.dom k b' e
    have hbb : b' ≠ b := by intro e'; subst e'; exact hkh (st.inj k h b' e hm)
    refine ⟨h1, by omega, o1, cs1, by rw [AHeap.obj_set_ne (Ne.symm hkh)]; exact e1, by rw [other b' hbb]; exact e2, e3, fun i el j x a1 a2 => ?_⟩
    obtain ⟨v, q1, q2, q3⟩ := e4 i el j x a1 a2
    exact ⟨v, q1, q2.mono ad, q3⟩
end Go.Awp
/- Operations that write: the steps, and their truth in the model. Generic in the program. -/
namespace Go.Awp
set_option linter.unusedSectionVars false
variable [Fx]
theorem flatten_get_inv {α : Type} {s : Nat} : ∀ (es : List (List α)), (∀ e, e ∈ es → e.length = s) → ∀ (k : Nat) (x : α), es.flatten[k]? = some x → ∃ i e j, es[i]? = some e ∧ e[j]? = some x ∧ k = i * s + j
  | [], _, k, x, h => by simp at h
  | e :: es, hs, k, x, h => by
    have h0 := hs e (by simp)
    simp only [List.flatten_cons] at h
    rcases Nat.lt_or_ge k e.length with hk | hk
    · rw [List.getElem?_append_left hk] at h
      exact ⟨0, e, k, rfl, h, by omega⟩
    · rw [List.getElem?_append_right hk] at h
      obtain ⟨i, e', j, h1, h2, h3⟩ := flatten_get_inv es (fun e he => hs e (by simp [he])) _ x h
      exact ⟨i + 1, e', j, by simpa using h1, h2, by rw [Nat.add_mul]; omega⟩
/-- The cells that a function gives are those of a flat list. -/
def FC (w : World) (m : AMap) (H : AHeap) (B : Nat) (xs : List AV) (f : Nat → Option Value) : Prop :=
  ∀ (k : Nat) (x : AV), xs[k]? = some x → ∃ v, f k = some v ∧ RV w m H B x v ∧ x.one = true
theorem FC.nested {w m H B} {es : List (List AV)} {s : Nat} {f : Nat → Option Value} (hs : ∀ e, e ∈ es → e.length = s) (h : FC w m H B es.flatten f) : ∀ (i : Nat) (e : List AV) (j : Nat) (x : AV), es[i]? = some e → e[j]? = some x → ∃ v, f (i * s + j) = some v ∧ RV w m H B x v ∧ x.one = true :=
  fun i e j x h1 h2 => h _ x (flatten_get es hs i e j x h1 h2)
theorem FC.flat {w m H B} {es : List (List AV)} {s : Nat} {f : Nat → Option Value} (hs : ∀ e, e ∈ es → e.length = s) (h : ∀ (i : Nat) (e : List AV) (j : Nat) (x : AV), es[i]? = some e → e[j]? = some x → ∃ v, f (i * s + j) = some v ∧ RV w m H B x v ∧ x.one = true) : FC w m H B es.flatten f := by
  intro k x hk
  obtain ⟨i, e, j, h1, h2, rfl⟩ := flatten_get_inv es hs k x hk
  exact h i e j x h1 h2
def asrc (H : AHeap) (s : Nat) : AV → Option (List (List AV))
  | .own h ver i len => match AHeap.obj H h with
    | some o => if ver = o.elems.length ∧ s = o.s then some ((o.elems.drop i).take len) else none
    | none => none
  | .ro _ l => if (l.all fun e => e.length == s) then some l else none
  | .nilSlice => some []
  | _ => none
theorem asrc_sound {w m H B} (st : St w m H B) {s : Nat} {y : AV} {v : Value} (hy : RV w m H B y v) {els : List (List AV)} (h : asrc H s y = some els) :
    ∃ ad cap, v = .slice ad els.length cap ∧ (∀ e, e ∈ els → e.length = s) ∧ els.length ≤ cap ∧ (ad = none → cap = 0) ∧ (els ≠ [] → ∃ b off, ad = some ⟨b, off, none⟩ ∧ FC w m H B els.flatten fun k => w.cell? ⟨b, off + k, none⟩) := by
  unfold asrc at h
  split at h
  · rename_i h' ver i len
    split at h
    · rename_i o ho
      split at h
      · rename_i hc
        obtain ⟨c1, c2⟩ := hc
        cases h
        cases hy with
        | own _ _ _ _ ad n cap hlt hh =>
          obtain ⟨b, q1, q2, q3, q4, q5, q6, q7⟩ := (hh o ho).2 c1
          obtain ⟨_, _, o', cs, e1, e2, e3, e4⟩ := st.dom h' b q1
          rw [ho] at e1; cases e1
          have hl : ((o.elems.drop i).take len).length = len := by simp; omega
          have hu : ∀ e, e ∈ (o.elems.drop i).take len → e.length = s := fun e he => by rw [c2]; exact e3 e (List.mem_of_mem_drop (List.mem_of_mem_take he))
          have key : ∀ b off, ad = some ⟨b, off, none⟩ → m h' = some b → off = i * o.s → FC w m H B ((o.elems.drop i).take len).flatten fun k => w.cell? ⟨b, off + k, none⟩ := by
            intro b off _ hb hoff
            subst hoff
            refine FC.flat (s := s) hu fun i' e j x h1 h2 => ?_
            rw [List.getElem?_take] at h1
            split at h1
            · rw [List.getElem?_drop] at h1
              have := st.cell hb ho h1 h2
              rw [show (i + i') * o.s + j = i * o.s + (i' * s + j) by rw [c2, Nat.add_mul]; omega] at this
              exact this
            · cases h1
          refine ⟨ad, cap, by rw [hl, q3], hu, by omega, fun e => ?_, fun hne => ?_⟩
          · rcases Nat.eq_zero_or_pos cap with h0 | h0
            · exact h0
            · rw [q2 (.inl h0)] at e; cases e
          · have h0 : 0 < cap := by
              rcases Nat.eq_zero_or_pos cap with h0 | h0
              · exact absurd (List.eq_nil_of_length_eq_zero (by omega)) hne
              · exact h0
            exact ⟨b, _, q2 (.inl h0), key b _ (q2 (.inl h0)) q1 rfl⟩
      · cases h
    · cases h
  · rename_i fl l
    split at h
    · rename_i hall
      injection h with h
      subst h
      have hu : ∀ e, e ∈ l → e.length = s := fun e he => by simpa using List.all_eq_true.1 hall e he
      cases hy with
      | roNil _ ad cap ha => exact ⟨ad, cap, rfl, hu, Nat.zero_le _, ha, fun hne => absurd rfl hne⟩
      | ro _ _ s' b off cap vs hl hb hfr hlt hs hcap hc hv =>
        have es : s' = s := by
          cases l with
          | nil => exact absurd rfl hl
          | cons e l => rw [← hs e (by simp), hu e (by simp)]
        subst es
        exact ⟨_, cap, rfl, hu, hcap, fun e => (by cases e), fun _ => ⟨b, off, rfl, FC.flat hu fun i e j x h1 h2 => ⟨vs i j, by rw [← Nat.add_assoc]; exact (hc i e j x h1 h2).1, hv i e j x h1 h2, (hc i e j x h1 h2).2⟩⟩⟩
    · cases h
  · cases h
    cases hy with
    | nilSlice ad => exact ⟨ad, 0, rfl, by simp, Nat.le_refl _, fun _ => rfl, fun hne => absurd rfl hne⟩
  · cases h
def sres : QR → AHeap → Option AV × AHeap
  | .val v, H => (some v, H)
  | .box e s cells, H => (some (.ptr H.length 1 0 0), H ++ [some ⟨e, s, [cells]⟩])
  | .arr e s els, H => (some (.own H.length els.length 0 els.length), H ++ [some ⟨e, s, els⟩])
def sstep (io : IOp) (env : AEnv) (H : AHeap) : Option (Option AV × AHeap) :=
  match io with
  | .store s _ x v => match ev env x, ev env v with
    | some (.ptr h ver i j), some y => (match AHeap.obj H h with
      | some o => (match o.elems[i]? with
        | some e => if ver = o.elems.length ∧ y.cells.length = s ∧ y.isTuple = false ∧ j + s ≤ e.length then some (none, H.set h (some { o with elems := o.elems.set i (setMany e j y.cells) })) else none
        | none => none)
      | none => none)
    | _, _ => none
  | .append e s bytes x y => match ev env x, ev env y with
    | some x, some y => (match asrc H s y with
      | some els => (match x with
        | .nilSlice => if els.length = 0 then some (some .nilSlice, H) else if els.length ≤ 140737488355328 ∧ els.length * bytes ≤ 140737488355328 then some (some (.own H.length els.length 0 els.length), H ++ [some ⟨e, s, els⟩]) else none
        | .own h ver i len => (match AHeap.obj H h with
          | some o => if ver = o.elems.length ∧ i = 0 ∧ len = ver ∧ e = o.e ∧ s = o.s ∧ len + els.length ≤ 140737488355328 ∧ (len + els.length) * bytes ≤ 140737488355328 then
              some (some (.own h (len + els.length) 0 (len + els.length)), H.set h (some { o with elems := o.elems ++ els }))
            else if ver = o.elems.length ∧ i = 0 ∧ e = o.e ∧ s = o.s ∧ 0 < s ∧ len + els.length ≤ ver then
              some (some (.own h ver 0 (len + els.length)), H.set h (some { o with elems := o.elems.take len ++ els ++ o.elems.drop (len + els.length) })) else none
          | none => none)
        | .full l => if els.length = 0 then some (some (.full l), H) else if (l.all fun e => e.length == s) ∧ l.length + els.length ≤ 140737488355328 ∧ (l.length + els.length) * bytes ≤ 140737488355328 then some (some (.own H.length (l.length + els.length) 0 (l.length + els.length)), H ++ [some ⟨e, s, l ++ els⟩]) else none
        | _ => none)
      | none => none)
    | _, _ => none
  | .copy s x y => match ev env x, ev env y with
    | some (.own h ver i len), some y => (match asrc H s y with
      | some els => (match AHeap.obj H h with
        | some o => if ver = o.elems.length ∧ s = o.s then some (some (.int .i64 (Nat.min els.length len : Nat)), H.set h (some { o with elems := o.elems.take i ++ els.take (Nat.min els.length len) ++ o.elems.drop (i + Nat.min els.length len) })) else none
        | none => none)
      | none => none)
    | _, _ => none
  | .clear s z x => match ev env x with
    | some (.own h ver i len) => (match AHeap.obj H h with
      | some o => if ver = o.elems.length ∧ s = o.s ∧ i + len ≤ ver then some (some (.tuple []), H.set h (some { o with elems := o.elems.take i ++ List.replicate len z ++ o.elems.drop (i + len) })) else none
      | none => none)
    | some .nilSlice => some (some (.tuple []), H)
    | _ => none
  | io => match qstep io env H with
    | some r => some (sres r H)
    | none => none
def SOK (P : Program) (o : Oper) (a : Act) (w : World) (m : AMap) (H : AHeap) (B : Nat) (r : Option AV × AHeap) : Prop :=
  ∃ w' m', St w' m' r.2 B ∧ Adv w m H w' m' r.2 ∧ match r.1 with
    | some x => ∃ v, (execOp a.eval o).run P w = .ok (.value v) w' ∧ RV w' m' r.2 B x v
    | none => (execOp a.eval o).run P w = .ok .skip w'
section
variable {P : Program} {n : Nat} {w : World} {m : AMap} {H : AHeap} {B : Nat} {env : AEnv} {a : Act} {o : Oper} {io : IOp}
theorem shape_new {w' : World} {heap : Array Obj} {vs : Array Value} {e : TypeId} (h : w'.heap = heap.push (.cells vs e)) : w'.shape? heap.size = some (e, vs.size) := by
  simp [World.shape?, h]
/-- A new object, at a number that the objects already bear. -/
theorem box_ok (st : St w m H B) {e s h : Nat} {cells : List AV} (ho : AHeap.obj H h = some ⟨e, s, [cells]⟩) (hm : m h = none) (hl : cells.length = s) {vs : Array Value} (hc : ∀ (j : Nat) (x : AV), cells[j]? = some x → ∃ v, vs[j]? = some v ∧ RV w m H B x v ∧ x.one = true) :
    St (w.alloc (.cells vs e)) (AMap.upd m h w.heap.size) H B ∧ Adv w m H (w.alloc (.cells vs e)) (AMap.upd m h w.heap.size) H ∧ RV (w.alloc (.cells vs e)) (AMap.upd m h w.heap.size) H B (.ptr h 1 0 0) (.pointer (some ⟨w.heap.size, 0, none⟩)) := by
  obtain ⟨p, q⟩ := st.new ho hm (w' := w.alloc (.cells vs e)) rfl rfl rfl rfl (by simpa using hl) (fun i el j x a1 a2 => by
    cases i with
    | zero =>
      simp at a1; subst a1
      obtain ⟨v, h1, h2, h3⟩ := hc j x a2
      exact ⟨v, by simpa using h1, h2, h3⟩
    | succ i => simp at a1)
  refine ⟨p, q, .ptr _ _ _ _ _ (AHeap.obj_lt ho) fun o' ho' => ?_⟩
  rw [ho] at ho'; cases ho'
  exact ⟨by simp, fun _ => ⟨w.heap.size, by simp [AMap.upd], by simp⟩⟩
theorem arr_ok (st : St w m H B) {e s h : Nat} {els : List (List AV)} (ho : AHeap.obj H h = some ⟨e, s, els⟩) (hm : m h = none) (hu : ∀ el, el ∈ els → el.length = s) {w1 : World} (hw : w1.heap = w.heap) (os : w1.os = w.os) (tape : w1.tape = w.tape) (output : w1.output = w.output) {vs : Array Value} {cap : Nat} (h1 : els.length ≤ cap) (h2 : cap ≤ maxLen) (hsz : vs.size = cap * s)
    (hc : ∀ (i : Nat) (el : List AV) (j : Nat) (x : AV), els[i]? = some el → el[j]? = some x → ∃ v, vs[i * s + j]? = some v ∧ RV w m H B x v ∧ x.one = true) :
    St (w1.alloc (.cells vs e)) (AMap.upd m h w.heap.size) H B ∧ Adv w m H (w1.alloc (.cells vs e)) (AMap.upd m h w.heap.size) H ∧ RV (w1.alloc (.cells vs e)) (AMap.upd m h w.heap.size) H B (.own h els.length 0 els.length) (.slice (some ⟨w.heap.size, 0, none⟩) els.length cap) := by
  have heap : (w1.alloc (.cells vs e)).heap = w.heap.push (.cells vs e) := by show w1.heap.push _ = _; rw [hw]
  obtain ⟨p, q⟩ := st.new ho hm (w' := w1.alloc (.cells vs e)) os tape output heap hu hc
  refine ⟨p, q, .own _ _ _ _ _ _ _ (AHeap.obj_lt ho) fun o' ho' => ?_⟩
  rw [ho] at ho'; cases ho'
  refine ⟨Nat.le_refl _, fun _ => ⟨w.heap.size, by simp [AMap.upd], fun _ => by simp, rfl, by simp, h1, h2, ?_⟩⟩
  rw [shape_new heap, hsz, Nat.zero_add]
theorem quiet_ok (htr : trOp P o = some io) (st : St w m H B) (fr : FR n w m H B env a) {r : QR} (h : qstep io env H = some r) : SOK P o a w m H B (sres r H) := by
  have q := qstep_sound htr st fr h
  cases r with
  | val x =>
    obtain ⟨v, h1, h2⟩ := q
    exact ⟨w, m, st, Adv.refl _ _ _, v, h1, h2⟩
  | box e s cells =>
    obtain ⟨hl, vs, h1, h2, h3⟩ := q
    obtain ⟨p1, p2⟩ := st.push [some ⟨e, s, [cells]⟩]
    have hm : m H.length = none := by
      cases hm : m H.length with
      | none => rfl
      | some b => exact absurd (st.mlt hm) (Nat.lt_irrefl _)
    obtain ⟨q1, q2, q3⟩ := box_ok p1 (h := H.length) AHeap.obj_push_eq hm hl (vs := vs) (fun j x hj => by
      obtain ⟨v, a1, a2, a3⟩ := h3 j x hj
      exact ⟨v, a1, a2.mono p2, a3⟩)
    exact ⟨_, _, q1, p2.trans q2, _, h1, q3⟩
  | arr e s els =>
    obtain ⟨hu, vs, cap, h1, h2, h3, h4, h5⟩ := q
    obtain ⟨p1, p2⟩ := st.push [some ⟨e, s, els⟩]
    have hm : m H.length = none := by
      cases hm : m H.length with
      | none => rfl
      | some b => exact absurd (st.mlt hm) (Nat.lt_irrefl _)
    obtain ⟨q1, q2, q3⟩ := arr_ok p1 (h := H.length) AHeap.obj_push_eq hm hu (w1 := w) rfl rfl rfl rfl h2 h3 h4 (fun i el j x a1 a2 => by
      obtain ⟨v, b1, b2, b3⟩ := h5 i el j x a1 a2
      exact ⟨v, b1, b2.mono p2, b3⟩)
    exact ⟨_, _, q1, p2.trans q2, _, h1, q3⟩
end
end Go.Awp
/- Operations that write: their truth in the model. Generic in the program. -/
namespace Go.Awp
set_option linter.unusedSectionVars false
variable [Fx]
theorem setMany_get : ∀ (ys xs : List AV) (off k : Nat), off + ys.length ≤ xs.length → (setMany xs off ys)[k]? = if off ≤ k ∧ k < off + ys.length then ys[k - off]? else xs[k]?
  | [], xs, off, k, _ => by
    rw [if_neg (by simp only [List.length_nil]; omega)]; rfl
  | y :: ys, xs, off, k, h => by
    simp only [List.length_cons] at h
    simp only [setMany]
    rw [setMany_get ys (xs.set off y) (off + 1) k (by simp; omega)]
    by_cases hk : off = k
    · subst hk
      rw [if_neg (by omega), if_pos (by simp only [List.length_cons]; omega), Nat.sub_self, List.getElem?_set_self (by omega)]; rfl
    · by_cases h1 : off + 1 ≤ k ∧ k < off + 1 + ys.length
      · rw [if_pos h1, if_pos (by simp only [List.length_cons]; omega)]
        rw [show k - off = (k - (off + 1)) + 1 by omega]; rfl
      · rw [if_neg h1, if_neg (by simp only [List.length_cons]; omega), List.getElem?_set_ne hk]
theorem splice_get (cs : Array Value) (vs : List Value) (k q : Nat) (h : k + vs.length ≤ cs.size) :
    (cs.toList.take k ++ vs ++ cs.toList.drop (k + vs.length)).toArray[q]? = if k ≤ q ∧ q < k + vs.length then vs[q - k]? else cs[q]? := by
  have hl : (cs.toList.take k).length = k := by simp; omega
  rw [List.getElem?_toArray, List.append_assoc]
  rcases Nat.lt_or_ge q k with h1 | h1
  · rw [List.getElem?_append_left (by omega), if_neg (by omega), List.getElem?_take_of_lt h1, Array.getElem?_toList]
  · rw [List.getElem?_append_right (by omega), hl]
    rcases Nat.lt_or_ge q (k + vs.length) with h2 | h2
    · rw [List.getElem?_append_left (by omega), if_pos ⟨h1, h2⟩]
    · rw [List.getElem?_append_right (by omega), if_neg (by omega), List.getElem?_drop, Array.getElem?_toList]
      congr 1; omega
theorem splice_size (cs : Array Value) (vs : List Value) (k : Nat) (h : k + vs.length ≤ cs.size) : (cs.toList.take k ++ vs ++ cs.toList.drop (k + vs.length)).toArray.size = cs.size := by
  simp; omega
section
variable {P : Program} {n : Nat} {w : World} {m : AMap} {H : AHeap} {B : Nat} {env : AEnv} {a : Act} {o : Oper} {io : IOp}
/-- The block of an object holds at least its cells. -/
theorem block_fits {o : AObj} {cs : Array Value} (hu : ∀ e, e ∈ o.elems → e.length = o.s) (hc : ∀ (i : Nat) (e : List AV) (j : Nat) (x : AV), o.elems[i]? = some e → e[j]? = some x → ∃ v, cs[i * o.s + j]? = some v ∧ RV w m H B x v ∧ x.one = true) : o.elems.length * o.s ≤ cs.size := by
  rcases Nat.eq_zero_or_pos (o.elems.length * o.s) with h0 | h0
  · omega
  · have hs : 0 < o.s := Nat.pos_of_mul_pos_left h0
    have hl : 0 < o.elems.length := Nat.pos_of_mul_pos_right h0
    have h1 : o.elems[o.elems.length - 1]? = some (o.elems[o.elems.length - 1]'(by omega)) := List.getElem?_eq_getElem _
    have hlen := hu _ (List.mem_of_getElem? h1)
    obtain ⟨v, hv, _⟩ := hc _ _ (o.s - 1) _ h1 (List.getElem?_eq_getElem (by omega))
    have := (Array.getElem?_eq_some_iff.1 hv).1
    have e1 : (o.elems.length - 1) * o.s + o.s = o.elems.length * o.s := by
      rw [← Nat.succ_mul]; congr 1; omega
    omega
theorem store_ok {t : TypeId} {x v : Operand} {i : TypeInfo} {d : TypeDesc} (hi : P.info? t = some i) (ho : o.op = .store t x v) (st : St w m H B) (fr : FR n w m H B env a) {r : Option AV × AHeap} (h : sstep (.store i.size (isAggD d) x v) env H = some r) : SOK P o a w m H B r := by
  simp only [sstep] at h
  split at h
  · rename_i h' ver i' j y hx hy
    split at h
    · rename_i o' ho'
      split at h
      · rename_i e he
        split at h
        · rename_i hc
          obtain ⟨c1, c2, c3, c4⟩ := hc
          cases h
          have hxv := ev_sound fr hx
          have hyv := ev_sound fr hy
          generalize hex : a.eval x = u at hxv
          generalize hey : a.eval v = z at hyv
          cases hxv with
          | ptr _ _ _ _ ad hlt hh =>
            obtain ⟨b, hb, hae⟩ := (hh o' ho').2 c1
            subst hae
            obtain ⟨g1, g2, o2, cs, e1, e2, e3, e4⟩ := st.dom h' b hb
            rw [ho'] at e1; cases e1
            have hfit := block_fits e3 e4
            obtain ⟨l1, l2, l3⟩ := hyv.cells (RV.not_tuple c3)
            have hel := e3 e (List.mem_of_getElem? he)
            have hil : i' < o'.elems.length := by
              rcases Nat.lt_or_ge i' o'.elems.length with h1 | h1
              · exact h1
              · rw [List.getElem?_eq_none h1] at he; cases he
            have hmul : i' * o'.s + o'.s ≤ o'.elems.length * o'.s := by
              have := Nat.mul_le_mul_right o'.s hil
              rw [Nat.succ_mul] at this; exact this
            have hzl : z.cells.toList.length = i.size := by simp; omega
            have hk : (i' * o'.s + j) + z.cells.toList.length ≤ cs.size := by omega
            have ones : ∀ u ∈ z.cells.toList, u.oneCell' = true := by
              intro u hu
              obtain ⟨q, hq⟩ := List.mem_iff_getElem?.1 hu
              have hql : q < y.cells.length := by
                have := (List.getElem?_eq_some_iff.1 hq).1
                simp at this; omega
              have := l3 q _ u (List.getElem?_eq_getElem hql) (by simpa using hq)
              rw [this.one_eq]
              exact l2 _ (List.getElem_mem hql)
            have hrun := run_storeCells_at P b (i' * o'.s + j) o'.e z.cells.toList 0 cs w e2 (by simpa using hk) ones
            simp only [Nat.add_zero] at hrun
            have hst : (execOp a.eval o).run P w = .ok .skip (w.setRow b (cs.toList.take (i' * o'.s + j) ++ z.cells.toList ++ cs.toList.drop (i' * o'.s + j + z.cells.toList.length)).toArray) := by
              have hsz : z.cells.size = i.size := by simpa using hzl
              simp only [execOp, ho, hex, hey, Instr.storeAt, Instr.sureAddr, storeVar, Sem.run_bind, Sem.run_pure, Result.andThen_ok, run_sizeOf' hi, Sem.run_ite, ne_eq, hsz, not_true, if_false, hrun]
            have hset : (setMany e j y.cells).length = o'.s := by rw [length_setMany, hel]
            obtain ⟨p1, p2⟩ := st.upd ho' hb (o' := { o' with elems := o'.elems.set i' (setMany e j y.cells) }) rfl rfl (by simp) (w' := w.setRow b (cs.toList.take (i' * o'.s + j) ++ z.cells.toList ++ cs.toList.drop (i' * o'.s + j + z.cells.toList.length)).toArray) rfl rfl rfl (by simp) (fun k hk => setRow_other w b k _ hk) e2 (setRow_heap w b cs _ o'.e _ e2) (splice_size cs _ _ hk) (fun e' he' => by
              rcases List.mem_or_eq_of_mem_set he' with he' | rfl
              · exact e3 e' he'
              · exact hset) (fun i2 e' j2 q a1 a2 => by
              have hj2 : j2 < o'.s := by
                have hm := List.mem_of_getElem? a1
                have hl2 : e'.length = o'.s := by
                  rcases List.mem_or_eq_of_mem_set hm with hm | rfl
                  · exact e3 e' hm
                  · exact hset
                have := (List.getElem?_eq_some_iff.1 a2).1
                omega
              simp only
              rw [splice_get cs _ _ _ hk]
              by_cases hii : i' = i2
              · subst hii
                rw [List.getElem?_set_self hil] at a1
                cases a1
                rw [setMany_get _ _ _ _ (by omega)] at a2
                by_cases hin : j ≤ j2 ∧ j2 < j + y.cells.length
                · rw [if_pos hin] at a2
                  rw [if_pos (by omega)]
                  have hlt2 : j2 - j < z.cells.size := by omega
                  refine ⟨z.cells[j2 - j], ?_, l3 _ q _ a2 (Array.getElem?_eq_getElem hlt2), l2 q (List.mem_of_getElem? a2)⟩
                  rw [show i' * o'.s + j2 - (i' * o'.s + j) = j2 - j by omega]
                  simp [hlt2]
                · rw [if_neg hin] at a2
                  rw [if_neg (by omega)]
                  exact e4 i' e j2 q he a2
              · rw [List.getElem?_set_ne hii] at a1
                rw [if_neg ?_]
                · exact e4 i2 e' j2 q a1 a2
                · intro hin
                  rcases Nat.lt_or_gt_of_ne hii with hlt' | hlt'
                  · have := Nat.mul_le_mul_right o'.s hlt'
                    rw [Nat.succ_mul] at this; omega
                  · have := Nat.mul_le_mul_right o'.s hlt'
                    rw [Nat.succ_mul] at this; omega)
            exact ⟨_, m, p1, p2, hst⟩
        · cases h
      · cases h
    · cases h
  · cases h
end
end Go.Awp
/- Operations that write: append, their truth in the model. Generic in the program. -/
namespace Go.Awp
set_option linter.unusedSectionVars false
variable [Fx]
section
variable {P : Program} {n : Nat} {w : World} {m : AMap} {H : AHeap} {B : Nat} {env : AEnv} {a : Act} {o : Oper} {io : IOp}
/-- The cells of the elements that are appended, as a list of values. -/
theorem src_values {s : Nat} {ad : Option Addr} {els : List (List AV)} (hu : ∀ e, e ∈ els → e.length = s) (hf : els ≠ [] → ∃ b off, ad = some ⟨b, off, none⟩ ∧ FC w m H B els.flatten fun k => w.cell? ⟨b, off + k, none⟩) (hne : els ≠ []) :
    ∃ (x : Addr) (news : List Value), ad = some x ∧ news.length = els.length * s ∧ (∀ j u, news[j]? = some u → w.cell? (x.add j) = some u) ∧ (∀ u ∈ news, u.oneCell' = true) ∧ FC w m H B els.flatten fun k => news[k]? := by
  obtain ⟨b, off, had, hc⟩ := hf hne
  have hl := flatten_length els hu
  have key : ∀ k, k < els.length * s → ∃ v, w.cell? ⟨b, off + k, none⟩ = some v ∧ RV w m H B (els.flatten[k]!) v ∧ (els.flatten[k]!).one = true := by
    intro k hk
    have h1 : els.flatten[k]? = some (els.flatten[k]'(by omega)) := List.getElem?_eq_getElem _
    obtain ⟨v, q1, q2, q3⟩ := hc k _ h1
    rw [getElem!_pos els.flatten k (by omega)]
    exact ⟨v, q1, q2, q3⟩
  let news := (List.range (els.length * s)).map fun k => (w.cell? ⟨b, off + k, none⟩).getD undef
  have hget : ∀ j, j < els.length * s → news[j]? = w.cell? ⟨b, off + j, none⟩ := by
    intro j hj
    obtain ⟨v, q1, _⟩ := key j hj
    simp [news, hj, q1]
  refine ⟨_, news, had, by simp [news], fun j u hj => ?_, fun u hu' => ?_, fun k x hk => ?_⟩
  · have hlt : j < els.length * s := by
      have := (List.getElem?_eq_some_iff.1 hj).1
      simpa [news] using this
    rw [add_none, ← hget j hlt]; exact hj
  · obtain ⟨j, hj⟩ := List.mem_iff_getElem?.1 hu'
    have hlt : j < els.length * s := by
      have := (List.getElem?_eq_some_iff.1 hj).1
      simpa [news] using this
    obtain ⟨v, q1, q2, q3⟩ := key j hlt
    rw [hget j hlt, q1] at hj
    cases hj
    rw [q2.one_eq]; exact q3
  · have hlt : k < els.length * s := by
      have := (List.getElem?_eq_some_iff.1 hk).1
      omega
    obtain ⟨v, q1, q2, q3⟩ := hc k x hk
    exact ⟨v, by show news[k]? = _; rw [hget k hlt]; exact q1, q2, q3⟩
theorem run_append_zero {t e ty : TypeId} {i : TypeInfo} (ht : P.underlying t = some (.slice e)) (hi : P.info? e = some i) (ad : Option Addr) (len cap : Nat) (hle : len ≤ cap) (bd : Option Addr) (c : Nat) :
    (Builtin.append_ #[t, t] ty #[.slice ad len cap, .slice bd 0 c]).run P w = .ok (.slice ad len cap) w := by
  cases ad <;> cases bd <;> simp [Builtin.append_, run_underlying ht, sizeOf, typeInfo, hi, Builtin.lenOf, Builtin.firstCells, loadCells, loadCellsFrom, storeCells, hle]
theorem obj_set_self {H : AHeap} {h : Nat} {o : AObj} (ho : AHeap.obj H h = some o) : H.set h (some o) = H := by
  have hlt := AHeap.obj_lt ho
  apply List.ext_getElem?
  intro k
  by_cases hk : h = k
  · subst hk
    rw [List.getElem?_set_self hlt]
    unfold AHeap.obj at ho
    rw [List.getElem?_eq_getElem hlt] at ho ⊢
    simp at ho
    rw [ho]
  · rw [List.getElem?_set_ne hk]
theorem append_ok {t e : TypeId} {x y : Operand} {i : TypeInfo} {z : Value} (ht : P.underlying t = some (.slice e)) (hi : P.info? e = some i) (hz : i.zero = some z) (hzs : z.cells.size = i.size) 
    (ho : o.op = .call { callee := .builtin .append, args := #[x, y], argTypes := #[t, t] }) (st : St w m H B) (fr : FR n w m H B env a) {r : Option AV × AHeap} (h : sstep (.append e i.size i.bytes x y) env H = some r) : SOK P o a w m H B r := by
  have ex : ∀ {v : Value} {w' : World}, (Builtin.append_ #[t, t] o.type #[a.eval x, a.eval y]).run P w = .ok v w' → (execOp a.eval o).run P w = .ok (.value v) w' := by
    intro v w' hr
    simp [execOp, ho, resolve, invoke, builtin, hr]
  simp only [sstep] at h
  split at h
  · rename_i xv yv hx hy
    have hxv := ev_sound fr hx
    have hyv := ev_sound fr hy
    generalize hex : a.eval x = u at hxv ex
    generalize hey : a.eval y = q at hyv ex
    split at h
    · rename_i els hsrc
      obtain ⟨ad, cap, rfl, hu, hlc, hnone, hcells⟩ := asrc_sound st hyv hsrc
      split at h
      · obtain ⟨ad1, rfl⟩ : ∃ ad1, u = .slice ad1 0 0 := by cases hxv; exact ⟨_, rfl⟩
        split at h
        · rename_i h0
          cases h
          refine ⟨w, m, st, Adv.refl _ _ _, .slice ad1 0 0, ex ?_, .nilSlice _⟩
          rw [h0]
          exact run_append_zero ht hi ad1 0 0 (Nat.le_refl _) ad cap
        · rename_i h0
          split at h
          · rename_i hc
            cases h
            have hne : els ≠ [] := fun e => h0 (by rw [e]; rfl)
            obtain ⟨xa, news, rfl, n1, n2, n3, n4⟩ := src_values hu hcells hne
            have hr : (Builtin.append_ #[t, t] o.type #[.slice ad1 0 0, .slice (some xa) els.length cap]).run P w = .ok (.slice (some ⟨w.heap.size, 0, none⟩) els.length (grownCap w els.length 0 e)) (w.drew.alloc (.cells (news.toArray ++ Builtin.zeroCells z.cells (grownCap w els.length 0 e - els.length)) e)) := by
              cases ad1 with
              | none => exact run_append_nil (P := P) w t o.type e i z ht hi hz xa els.length cap news n1 n2 (by omega) (by omega) (by omega)
              | some a1 =>
                have := run_append_grow (P := P) w t o.type e i z ht hi hz a1 0 0 [] (by simp) (by simp) xa els.length cap news n1 n2 (by omega) (by omega) (growslice_fits (by omega) (by rw [Nat.zero_add]; omega))
                simpa using this
            obtain ⟨p1, p2⟩ := st.push [some ⟨e, i.size, els⟩]
            have hm : m H.length = none := by
              cases hm : m H.length with
              | none => rfl
              | some b => exact absurd (st.mlt hm) (Nat.lt_irrefl _)
            have hge := grownCap_ge w els.length 0 e
            have hle := grownCap_le_maxLen w els.length 0 e (by unfold maxLen; omega)
            obtain ⟨q1, q2, q3⟩ := arr_ok p1 (h := H.length) AHeap.obj_push_eq hm hu (w1 := w.drew) rfl rfl rfl rfl hge hle (vs := news.toArray ++ Builtin.zeroCells z.cells (grownCap w els.length 0 e - els.length)) (by
              rw [Array.size_append, size_zeroCells, hzs, List.size_toArray, n1, ← Nat.add_mul]; congr 1; omega) (fun i' el j x' a1 a2 => by
              obtain ⟨v, b1, b2, b3⟩ := FC.nested hu n4 i' el j x' a1 a2
              refine ⟨v, ?_, b2.mono p2, b3⟩
              have := (List.getElem?_eq_some_iff.1 b1).1
              rw [Array.getElem?_append_left (by simpa using this)]
              simpa using b1)
            exact ⟨_, _, q1, p2.trans q2, _, ex hr, q3⟩
          · cases h
      · rename_i h' ver i0 len
        split at h
        · rename_i o' ho'
          split at h
          · rename_i hc
            obtain ⟨c1, c2, c3, c4, c5, c6, c7⟩ := hc
            cases h
            subst c2 c4
            cases hxv with
            | own _ _ _ _ ad0 len0 cap0 hlt hh =>
              obtain ⟨hv1, hv2⟩ := hh o' ho'
              obtain ⟨b, q1, q2, q3, q4, q5, q6, q7⟩ := hv2 c1
              have had := q2 (.inr rfl)
              subst had q3
              simp only [Nat.zero_mul] at *
              obtain ⟨g1, g2, o2, cs, e1, e2, e3, e4⟩ := st.dom h' b q1
              rw [ho'] at e1; cases e1
              have hcs : cs.size = cap0 * o'.s := by
                have := q7
                simp only [World.shape?, e2] at this
                simp at this
                omega
              by_cases hnil : els = []
              · subst hnil
                simp only [List.length_nil, Nat.add_zero, List.append_nil]
                have hset : H.set h' (some o') = H := by
                  apply List.ext_getElem?
                  intro k
                  by_cases hk : h' = k
                  · subst hk
                    rw [List.getElem?_set_self hlt]
                    unfold AHeap.obj at ho'
                    rw [List.getElem?_eq_getElem hlt] at ho' ⊢
                    simp at ho'
                    rw [ho']
                  · rw [List.getElem?_set_ne hk]
                rw [show ({ o' with elems := o'.elems } : AObj) = o' from rfl, hset]
                refine ⟨w, m, st, Adv.refl _ _ _, _, ex (run_append_zero ht hi _ len0 cap0 q5 ad cap), ?_⟩
                rw [c3]
                refine .own _ _ _ _ _ _ _ hlt fun o3 ho3 => ?_
                rw [ho'] at ho3; cases ho3
                exact ⟨hv1, fun _ => ⟨b, q1, fun _ => by simp, rfl, by omega, by omega, q6, by rw [Nat.zero_add]; rw [Nat.zero_add] at q7; exact q7⟩⟩
              · obtain ⟨xa, news, rfl, n1, n2, n3, n4⟩ := src_values hu hcells hnil
                have hpos : 0 < els.length := by
                  rcases Nat.eq_zero_or_pos els.length with h0 | h0
                  · exact absurd (List.eq_nil_of_length_eq_zero h0) hnil
                  · exact h0
                have hlen : o'.elems.length = len0 := by omega
                have hu' : ∀ e', e' ∈ o'.elems ++ els → e'.length = i.size := by
                  intro e' he'
                  rcases List.mem_append.1 he' with he' | he'
                  · exact (e3 e' he').trans c5.symm
                  · exact hu e' he'
                have hflat : (o'.elems ++ els).flatten = o'.elems.flatten ++ els.flatten := List.flatten_append
                have hl1 : o'.elems.flatten.length = len0 * i.size := by rw [flatten_length (s := i.size) o'.elems (fun e' he' => (e3 e' he').trans c5.symm), hlen]
                have hold : FC w m H B o'.elems.flatten fun k => cs[k]? := FC.flat (s := o'.s) e3 e4
                by_cases hroom : len0 + els.length ≤ cap0
                · have hfit : len0 * i.size + news.length ≤ cs.size := by
                    rw [n1, hcs, ← c5, ← Nat.add_mul]; exact Nat.mul_le_mul_right _ hroom
                  have hr := run_append_room (P := P) w t o.type o'.e i ht hi b len0 cap0 cs e2 xa els.length cap news n1 n2 n3 hroom hfit
                  obtain ⟨p1, p2⟩ := st.upd ho' q1 (o' := { o' with elems := o'.elems ++ els }) rfl rfl (by simp) (w' := w.setRow b (cs.toList.take (len0 * i.size) ++ news ++ cs.toList.drop (len0 * i.size + news.length)).toArray) rfl rfl rfl (by simp) (fun k hk => setRow_other w b k _ hk) e2 (setRow_heap w b cs _ o'.e _ e2) (splice_size cs _ _ hfit) (fun e' he' => (hu' e' he').trans c5) (fun i2 e' j2 q a1 a2 => by
                    have hfc : FC w m H B (o'.elems ++ els).flatten fun k => (cs.toList.take (len0 * i.size) ++ news ++ cs.toList.drop (len0 * i.size + news.length)).toArray[k]? := by
                      intro k x' hk
                      simp only
                      rw [hflat] at hk
                      rw [splice_get cs _ _ _ hfit]
                      rcases Nat.lt_or_ge k (len0 * i.size) with h1 | h1
                      · rw [List.getElem?_append_left (by omega)] at hk
                        rw [if_neg (by omega)]
                        exact hold k x' hk
                      · rw [List.getElem?_append_right (by omega), hl1] at hk
                        have hk2 := (List.getElem?_eq_some_iff.1 hk).1
                        rw [flatten_length els hu] at hk2
                        rw [if_pos (by omega)]
                        exact n4 _ x' hk
                    have := FC.nested hu' hfc i2 e' j2 q a1 a2
                    have e5 : i2 * i.size + j2 = i2 * o'.s + j2 := by rw [c5]
                    rw [e5] at this
                    exact this)
                  refine ⟨_, m, p1, p2, _, ex hr, ?_⟩
                  rw [c3]
                  have hlt' : h' < (H.set h' (some { o' with elems := o'.elems ++ els })).length := by simpa using hlt
                  refine .own _ _ _ _ _ _ _ hlt' fun o3 ho3 => ?_
                  rw [AHeap.obj_set_eq hlt] at ho3
                  cases ho3
                  refine ⟨by simp; omega, fun _ => ⟨b, q1, fun _ => by simp, by omega, by omega, by omega, q6, ?_⟩⟩
                  simp [World.shape?, setRow_heap w b cs _ o'.e _ e2]
                  rw [← hcs]
                  have := splice_size cs news (len0 * i.size) hfit
                  rw [c3] at this
                  simpa using this
                · have hvals : ∃ olds : List Value, olds.length = len0 * i.size ∧ (∀ j u, olds[j]? = some u → w.cell? ((⟨b, 0, none⟩ : Addr).add j) = some u) ∧ ∀ k, k < len0 * i.size → olds[k]? = cs[k]? := by
                    have hle : len0 * i.size ≤ cs.size := by rw [hcs, ← c5]; exact Nat.mul_le_mul_right _ q5
                    refine ⟨cs.toList.take (len0 * i.size), by simp; omega, fun j u hj => ?_, fun k hk => by rw [List.getElem?_take_of_lt hk, Array.getElem?_toList]⟩
                    have hjl := (List.getElem?_eq_some_iff.1 hj).1
                    simp at hjl
                    rw [List.getElem?_take_of_lt (by omega), Array.getElem?_toList] at hj
                    rw [add_none]
                    simp [World.cell?, e2, hj]
                  obtain ⟨olds, m1, m2, m3⟩ := hvals
                  have hr := run_append_grow (P := P) w t o.type o'.e i z ht hi hz ⟨b, 0, none⟩ len0 cap0 olds m1 m2 xa els.length cap news n1 n2 (by omega) (by omega) (growslice_fits (by omega) (by omega))
                  have hge := grownCap_ge w (len0 + els.length) cap0 o'.e
                  have hle := grownCap_le_maxLen w (len0 + els.length) cap0 o'.e (by unfold maxLen; omega)
                  obtain ⟨p1, p2⟩ := st.drop ho' (some { o' with elems := o'.elems ++ els }) (fun o1 e => by cases e; exact ⟨rfl, rfl, by simp; omega⟩)
                  have ho2 : AHeap.obj (H.set h' (some { o' with elems := o'.elems ++ els })) h' = some ⟨o'.e, i.size, o'.elems ++ els⟩ := by
                    rw [AHeap.obj_set_eq hlt, c5]
                  have hm : AMap.without m h' h' = none := by simp [AMap.without]
                  obtain ⟨r1, r2, r3⟩ := arr_ok p1 (h := h') ho2 hm hu' (w1 := w.drew) rfl rfl rfl rfl (cap := grownCap w (len0 + els.length) cap0 o'.e) (by rw [List.length_append, hlen]; exact hge) hle (vs := olds.toArray ++ news.toArray ++ Builtin.zeroCells z.cells (grownCap w (len0 + els.length) cap0 o'.e - (len0 + els.length))) (by
                    rw [Array.size_append, Array.size_append, size_zeroCells, hzs, List.size_toArray, List.size_toArray, n1, m1, ← Nat.add_mul, ← Nat.add_mul]; congr 1; omega) (fun i2 e' j2 q a1 a2 => by
                    have hfc : FC w m H B (o'.elems ++ els).flatten fun k => (olds.toArray ++ news.toArray ++ Builtin.zeroCells z.cells (grownCap w (len0 + els.length) cap0 o'.e - (len0 + els.length)))[k]? := by
                      intro k x' hk
                      simp only
                      rw [hflat] at hk
                      rcases Nat.lt_or_ge k (len0 * i.size) with h1 | h1
                      · rw [List.getElem?_append_left (by omega)] at hk
                        rw [Array.append_assoc, Array.getElem?_append_left (by simp; omega)]
                        obtain ⟨v, b1, b2⟩ := hold k x' hk
                        refine ⟨v, ?_, b2⟩
                        have := m3 k h1
                        simp only [List.getElem?_toArray]
                        rw [this]; exact b1
                      · rw [List.getElem?_append_right (by omega), hl1] at hk
                        have hk2 := (List.getElem?_eq_some_iff.1 hk).1
                        rw [flatten_length els hu] at hk2
                        obtain ⟨v, b1, b2⟩ := n4 _ x' hk
                        refine ⟨v, ?_, b2⟩
                        rw [Array.getElem?_append_left (by simp; omega), Array.getElem?_append_right (by simp; omega)]
                        simp only [List.size_toArray, List.getElem?_toArray, m1]
                        exact b1
                    obtain ⟨v, b1, b2, b3⟩ := FC.nested hu' hfc i2 e' j2 q a1 a2
                    exact ⟨v, b1, b2.mono p2, b3⟩)
                  refine ⟨_, _, r1, p2.trans r2, _, ex hr, ?_⟩
                  rw [List.length_append, hlen] at r3
                  rw [c3]
                  rw [← c3] at *
                  exact r3
          · split at h
            · rename_i hc
              obtain ⟨c1, c2, c4, c5, c6, c7⟩ := hc
              cases h
              subst c2 c4
              cases hxv with
              | own _ _ _ _ ad0 len0 cap0 hlt hh =>
                obtain ⟨hv1, hv2⟩ := hh o' ho'
                obtain ⟨b, q1, q2, q3, q4, q5, q6, q7⟩ := hv2 c1
                have had := q2 (.inr rfl)
                subst had q3
                simp only [Nat.zero_mul] at *
                have hroom0 := own_room st ho' q1 (by omega) q7 (by omega)
                obtain ⟨g1, g2, o2, cs, e1, e2, e3, e4⟩ := st.dom h' b q1
                rw [ho'] at e1; cases e1
                have hcs : cs.size = cap0 * o'.s := by
                  have := q7
                  simp only [World.shape?, e2] at this
                  simp at this
                  omega
                by_cases hnil : els = []
                · subst hnil
                  simp only [List.length_nil, Nat.add_zero, List.append_nil, List.take_append_drop]
                  rw [show ({ o' with elems := o'.elems } : AObj) = o' from rfl, obj_set_self ho']
                  refine ⟨w, m, st, Adv.refl _ _ _, _, ex (run_append_zero ht hi _ len0 cap0 q5 ad cap), ?_⟩
                  refine .own _ _ _ _ _ _ _ hlt fun o3 ho3 => ?_
                  rw [ho'] at ho3; cases ho3
                  exact ⟨hv1, fun _ => ⟨b, q1, fun _ => by simp, rfl, by omega, by omega, q6, by rw [Nat.zero_add]; rw [Nat.zero_add] at q7; exact q7⟩⟩
                · obtain ⟨xa, news, rfl, n1, n2, n3, n4⟩ := src_values hu hcells hnil
                  have hroom : len0 + els.length ≤ cap0 := by omega
                  have hfit : len0 * i.size + news.length ≤ cs.size := by
                    rw [n1, hcs, ← c5, ← Nat.add_mul]; exact Nat.mul_le_mul_right _ hroom
                  have hr := run_append_room (P := P) w t o.type o'.e i ht hi b len0 cap0 cs e2 xa els.length cap news n1 n2 n3 hroom hfit
                  have hnl : (o'.elems.take len0 ++ els ++ o'.elems.drop (len0 + els.length)).length = o'.elems.length := by simp; omega
                  have hu' : ∀ e', e' ∈ o'.elems.take len0 ++ els ++ o'.elems.drop (len0 + els.length) → e'.length = o'.s := by
                    intro e' he'
                    rcases List.mem_append.1 he' with he' | he'
                    · rcases List.mem_append.1 he' with he' | he'
                      · exact e3 e' (List.mem_of_mem_take he')
                      · rw [← c5]; exact hu e' he'
                    · exact e3 e' (List.mem_of_mem_drop he')
                  obtain ⟨p1, p2⟩ := st.upd ho' q1 (o' := { o' with elems := o'.elems.take len0 ++ els ++ o'.elems.drop (len0 + els.length) }) rfl rfl (by rw [hnl]; exact Nat.le_refl _) (w' := w.setRow b (cs.toList.take (len0 * i.size) ++ news ++ cs.toList.drop (len0 * i.size + news.length)).toArray) rfl rfl rfl (by simp) (fun k hk => setRow_other w b k _ hk) e2 (setRow_heap w b cs _ o'.e _ e2) (splice_size cs _ _ hfit) hu' (fun i2 e' j2 q a1 a2 => by
                    have hj2 : j2 < o'.s := by
                      have := hu' e' (List.mem_of_getElem? a1)
                      have := (List.getElem?_eq_some_iff.1 a2).1
                      omega
                    simp only
                    rw [splice_get cs _ _ _ hfit, n1]
                    have hlt0 : (o'.elems.take len0).length = len0 := by simp; omega
                    have hlt1 : (o'.elems.take len0 ++ els).length = len0 + els.length := by simp; omega
                    rcases Nat.lt_or_ge i2 len0 with hA | hA
                    · have hm := Nat.mul_le_mul_right o'.s hA
                      rw [Nat.succ_mul] at hm
                      rw [if_neg (by rw [c5]; omega)]
                      rw [List.getElem?_append_left (by omega), List.getElem?_append_left (by omega), List.getElem?_take_of_lt hA] at a1
                      exact e4 i2 e' j2 q a1 a2
                    · rcases Nat.lt_or_ge i2 (len0 + els.length) with hB | hB
                      · rw [List.getElem?_append_left (by omega), List.getElem?_append_right (by omega), hlt0] at a1
                        have hm := Nat.mul_le_mul_right o'.s hA
                        have hm2 := Nat.mul_le_mul_right o'.s hB
                        rw [Nat.succ_mul, Nat.add_mul] at hm2
                        rw [if_pos (by rw [c5]; omega)]
                        obtain ⟨v, b1, b2, b3⟩ := FC.nested hu n4 (i2 - len0) e' j2 q a1 a2
                        refine ⟨v, ?_, b2, b3⟩
                        have hsub : i2 * o'.s + j2 - len0 * i.size = (i2 - len0) * i.size + j2 := by
                          rw [c5, Nat.sub_mul]; omega
                        rw [hsub]; exact b1
                      · have hm2 := Nat.mul_le_mul_right o'.s hB
                        rw [Nat.add_mul] at hm2
                        rw [if_neg (by rw [c5]; omega)]
                        rw [List.getElem?_append_right (by omega), hlt1, List.getElem?_drop, show len0 + els.length + (i2 - (len0 + els.length)) = i2 by omega] at a1
                        exact e4 i2 e' j2 q a1 a2)
                  refine ⟨_, m, p1, p2, _, ex hr, ?_⟩
                  have hlt' : h' < (H.set h' (some { o' with elems := o'.elems.take len0 ++ els ++ o'.elems.drop (len0 + els.length) })).length := by simpa using hlt
                  refine .own _ _ _ _ _ _ _ hlt' fun o3 ho3 => ?_
                  rw [AHeap.obj_set_eq hlt] at ho3
                  cases ho3
                  refine ⟨by rw [hnl]; omega, fun _ => ⟨b, q1, fun _ => by simp, by omega, by omega, by omega, q6, ?_⟩⟩
                  simp [World.shape?, setRow_heap w b cs _ o'.e _ e2]
                  rw [← hcs]
                  have := splice_size cs news (len0 * i.size) hfit
                  simpa using this
            · cases h
        · cases h
      · rename_i l0
        split at h
        · rename_i h0
          cases h
          cases hxv with
          | full _ n0 ad1 hr =>
            refine ⟨w, m, st, Adv.refl _ _ _, .slice ad1 n0 n0, ex ?_, .full _ _ _ hr⟩
            rw [h0]
            exact run_append_zero ht hi ad1 n0 n0 (Nat.le_refl _) ad cap
        · rename_i h0
          split at h
          · rename_i hc
            obtain ⟨c1, c2, c3⟩ := hc
            cases h
            have hne : els ≠ [] := fun e => h0 (by rw [e]; rfl)
            obtain ⟨xa, news, rfl, n1, n2, n3, n4⟩ := src_values hu hcells hne
            cases hxv with
            | full _ n0 ad1 hrv =>
              obtain ⟨ad2, cap2, hv2, hu2, hlc2, hnone2, hcells2⟩ := asrc_sound st hrv (s := i.size) (els := l0) (by simp only [asrc]; rw [if_pos c1])
              have hn0 : n0 = l0.length := by injection hv2
              have had2 : ad2 = ad1 := by injection hv2 with h1; exact h1.symm
              subst had2
              subst hn0
              have huu : ∀ e', e' ∈ l0 ++ els → e'.length = i.size := fun e' he' => by
                rcases List.mem_append.1 he' with he' | he'
                · exact hu2 e' he'
                · exact hu e' he'
              obtain ⟨olds, m1, m2, m3⟩ : ∃ olds : List Value, olds.length = l0.length * i.size ∧ (∀ x1, ad2 = some x1 → ∀ j u, olds[j]? = some u → w.cell? (x1.add j) = some u) ∧ FC w m H B l0.flatten fun k => olds[k]? := by
                by_cases hl0 : l0 = []
                · subst hl0; exact ⟨[], by simp, fun _ _ j u hj => by simp at hj, fun k x hk => by simp at hk⟩
                · obtain ⟨xb, olds, hxb, o1, o2, o3, o4⟩ := src_values hu2 hcells2 hl0
                  exact ⟨olds, o1, fun x1 hx1 => by rw [hxb] at hx1; cases hx1; exact o2, o4⟩
              have hpos : 0 < els.length := by omega
              have hr : (Builtin.append_ #[t, t] o.type #[.slice ad2 l0.length l0.length, .slice (some xa) els.length cap]).run P w = .ok (.slice (some ⟨w.heap.size, 0, none⟩) (l0.length + els.length) (grownCap w (l0.length + els.length) l0.length e)) (w.drew.alloc (.cells (olds.toArray ++ news.toArray ++ Builtin.zeroCells z.cells (grownCap w (l0.length + els.length) l0.length e - (l0.length + els.length))) e)) := by
                cases ad2 with
                | none =>
                  have hz0 : l0.length = 0 := by have := hnone2 rfl; omega
                  have hl0 : l0 = [] := List.eq_nil_of_length_eq_zero hz0
                  subst hl0
                  have ho0 : olds = [] := List.eq_nil_of_length_eq_zero (by simpa using m1)
                  subst ho0
                  simp only [List.length_nil, Nat.zero_add] at c2 c3
                  have := run_append_nil (P := P) w t o.type e i z ht hi hz xa els.length cap news n1 n2 (by omega) (by omega) (by omega)
                  simpa using this
                | some a1 =>
                  exact run_append_grow (P := P) w t o.type e i z ht hi hz a1 l0.length l0.length olds m1 (m2 a1 rfl) xa els.length cap news n1 n2 (by omega) (by omega) (growslice_fits (by omega) (by omega))
              obtain ⟨p1, p2⟩ := st.push [some ⟨e, i.size, l0 ++ els⟩]
              have hm : m H.length = none := by
                cases hm : m H.length with
                | none => rfl
                | some b => exact absurd (st.mlt hm) (Nat.lt_irrefl _)
              have hge := grownCap_ge w (l0.length + els.length) l0.length e
              have hle := grownCap_le_maxLen w (l0.length + els.length) l0.length e (by unfold maxLen; omega)
              have hl1 : l0.flatten.length = l0.length * i.size := flatten_length l0 hu2
              obtain ⟨q1, q2, q3⟩ := arr_ok p1 (h := H.length) AHeap.obj_push_eq hm huu (w1 := w.drew) rfl rfl rfl rfl (cap := grownCap w (l0.length + els.length) l0.length e) (by rw [List.length_append]; exact hge) hle (vs := olds.toArray ++ news.toArray ++ Builtin.zeroCells z.cells (grownCap w (l0.length + els.length) l0.length e - (l0.length + els.length))) (by
                rw [Array.size_append, Array.size_append, size_zeroCells, hzs, List.size_toArray, List.size_toArray, n1, m1, ← Nat.add_mul, ← Nat.add_mul]; congr 1; omega) (fun i2 e' j2 q a1 a2 => by
                have hfc : FC w m H B (l0 ++ els).flatten fun k => (olds.toArray ++ news.toArray ++ Builtin.zeroCells z.cells (grownCap w (l0.length + els.length) l0.length e - (l0.length + els.length)))[k]? := by
                  intro k x' hk
                  simp only
                  rw [List.flatten_append] at hk
                  rcases Nat.lt_or_ge k (l0.length * i.size) with h1 | h1
                  · rw [List.getElem?_append_left (by omega)] at hk
                    rw [Array.append_assoc, Array.getElem?_append_left (by simp; omega)]
                    obtain ⟨v, b1, b2⟩ := m3 k x' hk
                    exact ⟨v, by simpa using b1, b2⟩
                  · rw [List.getElem?_append_right (by omega), hl1] at hk
                    have hk2 := (List.getElem?_eq_some_iff.1 hk).1
                    rw [flatten_length els hu] at hk2
                    obtain ⟨v, b1, b2⟩ := n4 _ x' hk
                    refine ⟨v, ?_, b2⟩
                    rw [Array.getElem?_append_left (by simp; omega), Array.getElem?_append_right (by simp; omega)]
                    simp only [List.size_toArray, List.getElem?_toArray, m1]
                    exact b1
                obtain ⟨v, b1, b2, b3⟩ := FC.nested huu hfc i2 e' j2 q a1 a2
                exact ⟨v, b1, b2.mono p2, b3⟩)
              rw [List.length_append] at q3
              exact ⟨_, _, q1, p2.trans q2, _, ex hr, q3⟩
          · cases h
      · cases h
    · cases h
  · cases h
theorem run_copy_cells (w : World) (dT ty elem : TypeId) (g o dLen dCap : Nat) (a : Addr) (sLen sCap : Nat) (cur : Array Value) (t : TypeId) (cs : List Value) {i : TypeInfo}
    (hu : P.underlying dT = some (.slice elem)) (hq : P.info? elem = some i)
    (hg : w.heap[g]? = some (.cells cur t (0, 0))) (hn : cs.length = Nat.min sLen dLen * i.size)
    (hsrc : ∀ j v, cs[j]? = some v → w.cell? (a.add j) = some v) (hfit : o + cs.length ≤ cur.size) (h1 : ∀ v ∈ cs, v.oneCell' = true) :
    (Builtin.copy_ #[dT, dT] ty #[.slice (some ⟨g, o, none⟩) dLen dCap, .slice (some a) sLen sCap]).run P w =
      .ok (goInt (Nat.min sLen dLen)) (w.setRow g (cur.toList.take o ++ cs ++ cur.toList.drop (o + cs.length)).toArray) := by
  have hl := run_loadCells_list (P := P) w a cs hsrc
  have hst := run_storeCells_at P g o t cs 0 cur w hg (by simpa using hfit) h1
  simp [Builtin.copy_, run_underlying hu, Builtin.lenOf, Builtin.firstCells, sizeOf, typeInfo, hq, ← hn, hl, hst]
theorem run_copy_zero (w : World) (dT ty elem : TypeId) (ad bd : Option Addr) (dLen dCap sLen sCap : Nat) {i : TypeInfo}
    (hu : P.underlying dT = some (.slice elem)) (hq : P.info? elem = some i) (hn : Nat.min sLen dLen = 0) :
    (Builtin.copy_ #[dT, dT] ty #[.slice ad dLen dCap, .slice bd sLen sCap]).run P w = .ok (goInt 0) w := by
  cases ad <;> cases bd <;> simp [Builtin.copy_, run_underlying hu, Builtin.lenOf, Builtin.firstCells, sizeOf, typeInfo, hq, hn, loadCells, loadCellsFrom, storeCells]
theorem copy_ok {t e : TypeId} {x y : Operand} {i : TypeInfo} (ht : P.underlying t = some (.slice e)) (hi : P.info? e = some i)
    (ho : o.op = .call { callee := .builtin .copy, args := #[x, y], argTypes := #[t, t] }) (st : St w m H B) (fr : FR n w m H B env a) {r : Option AV × AHeap} (h : sstep (.copy i.size x y) env H = some r) : SOK P o a w m H B r := by
  have ex : ∀ {v : Value} {w' : World}, (Builtin.copy_ #[t, t] o.type #[a.eval x, a.eval y]).run P w = .ok v w' → (execOp a.eval o).run P w = .ok (.value v) w' := by
    intro v w' hr
    simp [execOp, ho, resolve, invoke, builtin, hr]
  simp only [sstep] at h
  split at h
  · rename_i h' ver i0 len yv hx hy
    have hxv := ev_sound fr hx
    have hyv := ev_sound fr hy
    generalize hex : a.eval x = u at hxv ex
    generalize hey : a.eval y = q at hyv ex
    split at h
    · rename_i els hsrc
      obtain ⟨bd, cap, rfl, hu, hlc, hnone, hcells⟩ := asrc_sound st hyv hsrc
      split at h
      · rename_i o' ho'
        split at h
        · rename_i hc
          obtain ⟨c1, c2⟩ := hc
          cases h
          cases hxv with
          | own _ _ _ _ ad n0 cap0 hlt hh =>
            obtain ⟨hv1, hv2⟩ := hh o' ho'
            obtain ⟨b, q1, q2, q3, q4, q5, q6, q7⟩ := hv2 c1
            subst q3
            obtain ⟨g1, g2, o2, cs, e1, e2, e3, e4⟩ := st.dom h' b q1
            rw [ho'] at e1; cases e1
            have hmin : Nat.min els.length n0 = min els.length n0 := rfl
            by_cases hz : Nat.min els.length n0 = 0
            · rw [hz]
              simp only [List.take_zero, List.append_nil, Nat.add_zero, List.take_append_drop]
              rw [show ({ o' with elems := o'.elems } : AObj) = o' from rfl, obj_set_self ho']
              exact ⟨w, m, st, Adv.refl _ _ _, _, ex (run_copy_zero w t o.type e ad bd n0 cap0 els.length cap ht hi hz), .int _ _⟩
            · generalize hk : Nat.min els.length n0 = k at hz
              have hk1 : k ≤ els.length := by omega
              have hk2 : k ≤ n0 := by omega
              have hne : els ≠ [] := fun e => by subst e; simp at hk1; omega
              obtain ⟨xa, news, rfl, n1, n2, n3, n4⟩ := src_values hu hcells hne
              have had := q2 (.inl (by omega))
              subst had
              have hfit0 := block_fits e3 e4
              have hks : k * i.size ≤ els.length * i.size := Nat.mul_le_mul_right _ hk1
              have hcl : (news.take (k * i.size)).length = k * i.size := by simp; omega
              have hb1 : (i0 + k) * o'.s ≤ o'.elems.length * o'.s := Nat.mul_le_mul_right _ (by omega)
              have hfit : i0 * o'.s + (news.take (k * i.size)).length ≤ cs.size := by
                rw [hcl, c2, ← Nat.add_mul]; omega
              have hr := run_copy_cells (P := P) w t o.type e b (i0 * o'.s) n0 cap0 xa els.length cap cs o'.e (news.take (k * i.size)) ht hi e2 (by rw [hcl, hk]) (fun j v hj => by
                rw [List.getElem?_take] at hj
                split at hj
                · exact n2 j v hj
                · cases hj) hfit (fun v hv => n3 v (List.mem_of_mem_take hv))
              rw [hk] at hr
              have hnl : (o'.elems.take i0 ++ els.take k ++ o'.elems.drop (i0 + k)).length = o'.elems.length := by simp; omega
              have hu' : ∀ e', e' ∈ o'.elems.take i0 ++ els.take k ++ o'.elems.drop (i0 + k) → e'.length = o'.s := by
                intro e' he'
                rcases List.mem_append.1 he' with he' | he'
                · rcases List.mem_append.1 he' with he' | he'
                  · exact e3 e' (List.mem_of_mem_take he')
                  · rw [← c2]; exact hu e' (List.mem_of_mem_take he')
                · exact e3 e' (List.mem_of_mem_drop he')
              obtain ⟨p1, p2⟩ := st.upd ho' q1 (o' := { o' with elems := o'.elems.take i0 ++ els.take k ++ o'.elems.drop (i0 + k) }) rfl rfl (by rw [hnl]; exact Nat.le_refl _) (w' := w.setRow b (cs.toList.take (i0 * o'.s) ++ news.take (k * i.size) ++ cs.toList.drop (i0 * o'.s + (news.take (k * i.size)).length)).toArray) rfl rfl rfl (by simp) (fun k hk => setRow_other w b k _ hk) e2 (setRow_heap w b cs _ o'.e _ e2) (splice_size cs _ _ hfit) hu' (fun i2 e' j2 q a1 a2 => by
                have hj2 : j2 < o'.s := by
                  have := hu' e' (List.mem_of_getElem? a1)
                  have := (List.getElem?_eq_some_iff.1 a2).1
                  omega
                simp only
                rw [splice_get cs _ _ _ hfit, hcl]
                have hlt0 : (o'.elems.take i0).length = i0 := by simp; omega
                have hlt1 : (o'.elems.take i0 ++ els.take k).length = i0 + k := by simp; omega
                rcases Nat.lt_or_ge i2 i0 with hA | hA
                · have hm := Nat.mul_le_mul_right o'.s hA
                  rw [Nat.succ_mul] at hm
                  rw [if_neg (by omega)]
                  rw [List.getElem?_append_left (by omega), List.getElem?_append_left (by omega), List.getElem?_take_of_lt hA] at a1
                  exact e4 i2 e' j2 q a1 a2
                · rcases Nat.lt_or_ge i2 (i0 + k) with hB | hB
                  · rw [List.getElem?_append_left (by omega), List.getElem?_append_right (by omega), hlt0, List.getElem?_take_of_lt (by omega)] at a1
                    have hm := Nat.mul_le_mul_right o'.s hA
                    have hm2 := Nat.mul_le_mul_right o'.s hB
                    rw [Nat.succ_mul, Nat.add_mul] at hm2
                    rw [if_pos (by rw [c2]; omega)]
                    obtain ⟨v, b1, b2, b3⟩ := FC.nested hu n4 (i2 - i0) e' j2 q a1 a2
                    refine ⟨v, ?_, b2, b3⟩
                    have hsub : i2 * o'.s + j2 - i0 * o'.s = (i2 - i0) * i.size + j2 := by
                      rw [c2, Nat.sub_mul]; omega
                    rw [hsub, List.getElem?_take_of_lt]
                    · exact b1
                    · rw [← hsub, c2]; omega
                  · have hm2 := Nat.mul_le_mul_right o'.s hB
                    rw [Nat.add_mul] at hm2
                    rw [if_neg (by rw [c2]; omega)]
                    rw [List.getElem?_append_right (by omega), hlt1, List.getElem?_drop, show i0 + k + (i2 - (i0 + k)) = i2 by omega] at a1
                    exact e4 i2 e' j2 q a1 a2)
              exact ⟨_, m, p1, p2, _, ex hr, .int _ _⟩
        · cases h
      · cases h
    · cases h
  · cases h
theorem clear_ok {t e : TypeId} {x : Operand} {i : TypeInfo} {z : Value} {y : AV} (ht : P.underlying t = some (.slice e)) (hi : P.info? e = some i) (hz : i.zero = some z) (hcz : cst z = some y) (h1 : y.cells.all AV.one = true) (hyl : y.cells.length = i.size) (hzs : z.cells.size = i.size) (hs : 0 < i.size)
    (ho : o.op = .call { callee := .builtin .clear, args := #[x], argTypes := #[t] }) (st : St w m H B) (fr : FR n w m H B env a) {r : Option AV × AHeap} (h : sstep (.clear i.size y.cells x) env H = some r) : SOK P o a w m H B r := by
  have ex : ∀ {v : Value} {w' : World}, (Builtin.clear_ #[t] o.type #[a.eval x]).run P w = .ok v w' → (execOp a.eval o).run P w = .ok (.value v) w' := by
    intro v w' hr
    simp [execOp, ho, resolve, invoke, builtin, hr]
  have tup : ∀ {w' : World} {m' : AMap} {H' : AHeap}, RV w' m' H' B (.tuple []) (.tuple #[]) := .tuple [] #[] rfl (by simp)
  have zero : ∀ (ad : Option Addr) (c : Nat), (Builtin.clear_ #[t] o.type #[.slice ad 0 c]).run P w = .ok (.tuple #[]) w := by
    intro ad c
    cases ad <;> simp [Builtin.clear_, run_underlying ht]
  simp only [sstep] at h
  split at h
  · rename_i h' ver i0 len hx
    have hxv := ev_sound fr hx
    generalize hex : a.eval x = u at hxv ex
    split at h
    · rename_i o' ho'
      split at h
      · rename_i hc
        obtain ⟨c1, c2, c3⟩ := hc
        cases h
        cases hxv with
        | own _ _ _ _ ad n0 cap0 hlt hh =>
          obtain ⟨hv1, hv2⟩ := hh o' ho'
          obtain ⟨b, q1, q2, q3, q4, q5, q6, q7⟩ := hv2 c1
          subst q3
          obtain ⟨g1, g2, o2, cs, e1, e2, e3, e4⟩ := st.dom h' b q1
          rw [ho'] at e1; cases e1
          rcases Nat.eq_zero_or_pos n0 with hz0 | hz0
          · subst hz0
            simp only [List.replicate_zero, List.append_nil, Nat.add_zero, List.take_append_drop]
            rw [show ({ o' with elems := o'.elems } : AObj) = o' from rfl, obj_set_self ho']
            exact ⟨w, m, st, Adv.refl _ _ _, _, ex (zero ad cap0), tup⟩
          · have had := q2 (.inl (by omega))
            subst had
            have hfit0 := block_fits e3 e4
            have hrl := RL_zeros (zero_RL (w := w) (m := m) (H := H) (B := B) hcz h1) hyl hs n0
            have hzl : (Builtin.zeroCells z.cells n0).toList.length = n0 * i.size := by simp [Builtin.zeroCells, hzs]
            have hurep : ∀ e', e' ∈ List.replicate n0 y.cells → e'.length = i.size := fun e' he' => by rw [List.eq_of_mem_replicate he']; exact hyl
            have hcells := arr_cells hurep hrl
            have ones : ∀ v ∈ (Builtin.zeroCells z.cells n0).toList, v.oneCell' = true := by
              intro v hv
              obtain ⟨k, hk⟩ := List.mem_iff_getElem?.1 hv
              have hkl := (List.getElem?_eq_some_iff.1 hk).1
              rw [hzl] at hkl
              have hfl : ((List.replicate n0 y.cells).flatten).length = n0 * i.size := by rw [flatten_length (s := i.size) _ hurep]; simp
              have hfg : ((List.replicate n0 y.cells).flatten)[k]? = some (((List.replicate n0 y.cells).flatten)[k]'(by omega)) := List.getElem?_eq_getElem _
              obtain ⟨i2, e', j2, a1, a2, a3⟩ := flatten_get_inv _ hurep k _ hfg
              obtain ⟨v', b1, b2, b3⟩ := hcells i2 e' j2 _ a1 a2
              rw [← a3] at b1
              have hk' : ((Array.range (n0 * i.size)).map fun i => z.cells[i % z.cells.size]!)[k]? = some v := by
                rw [Array.getElem?_toList] at hk
                rw [← hk]; simp only [Builtin.zeroCells, hzs]
              rw [hk'] at b1
              cases b1
              rw [b2.one_eq]; exact b3
            have hb1 : (i0 + n0) * o'.s ≤ o'.elems.length * o'.s := Nat.mul_le_mul_right _ (by omega)
            have hfit : i0 * o'.s + (Builtin.zeroCells z.cells n0).toList.length ≤ cs.size := by
              rw [hzl, c2, ← Nat.add_mul]; omega
            have hst := run_storeCells_at P b (i0 * o'.s) o'.e (Builtin.zeroCells z.cells n0).toList 0 cs w e2 (by simpa using hfit) ones
            simp only [Nat.add_zero] at hst
            have hr : (Builtin.clear_ #[t] o.type #[.slice (some ⟨b, i0 * o'.s, none⟩) n0 cap0]).run P w = .ok (.tuple #[]) (w.setRow b (cs.toList.take (i0 * o'.s) ++ (Builtin.zeroCells z.cells n0).toList ++ cs.toList.drop (i0 * o'.s + (Builtin.zeroCells z.cells n0).toList.length)).toArray) := by
              obtain ⟨n1, rfl⟩ : ∃ n1, n0 = n1 + 1 := ⟨n0 - 1, by omega⟩
              have hzv : (zeroValue e).run P w = .ok z w := by simp [zeroValue, typeInfo, hi, hz]
              simp only [Builtin.clear_, List.getElem?_toArray, List.getElem?_cons_zero, Sem.run_bind, run_underlying ht, Result.andThen_ok, hzv, hst, Sem.run_pure]
            have hnl : (o'.elems.take i0 ++ List.replicate n0 y.cells ++ o'.elems.drop (i0 + n0)).length = o'.elems.length := by simp; omega
            have hu' : ∀ e', e' ∈ o'.elems.take i0 ++ List.replicate n0 y.cells ++ o'.elems.drop (i0 + n0) → e'.length = o'.s := by
              intro e' he'
              rcases List.mem_append.1 he' with he' | he'
              · rcases List.mem_append.1 he' with he' | he'
                · exact e3 e' (List.mem_of_mem_take he')
                · rw [← c2]; exact hurep e' he'
              · exact e3 e' (List.mem_of_mem_drop he')
            obtain ⟨p1, p2⟩ := st.upd ho' q1 (o' := { o' with elems := o'.elems.take i0 ++ List.replicate n0 y.cells ++ o'.elems.drop (i0 + n0) }) rfl rfl (by rw [hnl]; exact Nat.le_refl _) (w' := w.setRow b (cs.toList.take (i0 * o'.s) ++ (Builtin.zeroCells z.cells n0).toList ++ cs.toList.drop (i0 * o'.s + (Builtin.zeroCells z.cells n0).toList.length)).toArray) rfl rfl rfl (by simp) (fun k hk => setRow_other w b k _ hk) e2 (setRow_heap w b cs _ o'.e _ e2) (splice_size cs _ _ hfit) hu' (fun i2 e' j2 q a1 a2 => by
              have hj2 : j2 < o'.s := by
                have := hu' e' (List.mem_of_getElem? a1)
                have := (List.getElem?_eq_some_iff.1 a2).1
                omega
              simp only
              rw [splice_get cs _ _ _ hfit, hzl]
              have hlt0 : (o'.elems.take i0).length = i0 := by simp; omega
              have hlt1 : (o'.elems.take i0 ++ List.replicate n0 y.cells).length = i0 + n0 := by simp; omega
              rcases Nat.lt_or_ge i2 i0 with hA | hA
              · have hm := Nat.mul_le_mul_right o'.s hA
                rw [Nat.succ_mul] at hm
                rw [if_neg (by omega)]
                rw [List.getElem?_append_left (by omega), List.getElem?_append_left (by omega), List.getElem?_take_of_lt hA] at a1
                exact e4 i2 e' j2 q a1 a2
              · rcases Nat.lt_or_ge i2 (i0 + n0) with hB | hB
                · rw [List.getElem?_append_left (by omega), List.getElem?_append_right (by omega), hlt0] at a1
                  have hm := Nat.mul_le_mul_right o'.s hA
                  have hm2 := Nat.mul_le_mul_right o'.s hB
                  rw [Nat.succ_mul, Nat.add_mul] at hm2
                  rw [if_pos (by rw [c2]; omega)]
                  obtain ⟨v, b1, b2, b3⟩ := hcells (i2 - i0) e' j2 q a1 a2
                  refine ⟨v, ?_, b2, b3⟩
                  have hsub : i2 * o'.s + j2 - i0 * o'.s = (i2 - i0) * i.size + j2 := by
                    rw [c2, Nat.sub_mul]; omega
                  rw [hsub, Array.getElem?_toList, ← b1]
                  simp only [Builtin.zeroCells, hzs]
                · have hm2 := Nat.mul_le_mul_right o'.s hB
                  rw [Nat.add_mul] at hm2
                  rw [if_neg (by rw [c2]; omega)]
                  rw [List.getElem?_append_right (by omega), hlt1, List.getElem?_drop, show i0 + n0 + (i2 - (i0 + n0)) = i2 by omega] at a1
                  exact e4 i2 e' j2 q a1 a2)
            exact ⟨_, m, p1, p2, _, ex hr, tup⟩
      · cases h
    · cases h
  · rename_i hx
    have hxv := ev_sound fr hx
    generalize hex : a.eval x = u at hxv ex
    cases h
    cases hxv with
    | nilSlice ad => exact ⟨w, m, st, Adv.refl _ _ _, _, ex (zero ad 0), tup⟩
  · cases h
theorem trOp_clear {s : Nat} {z : List AV} {x : Operand} (h : trOp P o = some (.clear s z x)) : ∃ t e i zv y, o.op = .call { callee := .builtin .clear, args := #[x], argTypes := #[t] } ∧ P.underlying t = some (.slice e) ∧ P.info? e = some i ∧ i.zero = some zv ∧ cst zv = some y ∧ (y.cells.all AV.one = true ∧ y.cells.length = i.size ∧ zv.cells.size = i.size ∧ 0 < i.size) ∧ s = i.size ∧ z = y.cells := by
  unfold trOp at h
  repeat' (split at h)
  all_goals (first | (cases h; done) | skip)
  cases h
  have hargs : ∀ {as : Array Operand}, as.toList = [x] → as = #[x] := by intro as h; cases as; simp_all
  have htys : ∀ {ts : Array TypeId} {p : TypeId}, ts.toList = [p] → ts = #[p] := by intro ts p h; cases ts; simp_all
  rename_i hts ho hop _ ht hu _ hi hinf _ hz hzz _ hy hc hcond has
  refine ⟨_, _, _, _, _, ?_, hu, hinf, hzz, hc, hcond, rfl, rfl⟩
  rw [hop, hargs has, htys ho]
theorem trOp_copy {s : Nat} {x y : Operand} (h : trOp P o = some (.copy s x y)) : ∃ t e i, o.op = .call { callee := .builtin .copy, args := #[x, y], argTypes := #[t, t] } ∧ P.underlying t = some (.slice e) ∧ P.info? e = some i ∧ s = i.size := by
  unfold trOp at h
  repeat' (split at h)
  all_goals (first | (cases h; done) | skip)
  cases h
  have hargs : ∀ {as : Array Operand}, as.toList = [x, y] → as = #[x, y] := by intro as h; cases as; simp_all
  have htys : ∀ {ts : Array TypeId} {p : TypeId}, ts.toList = [p, p] → ts = #[p, p] := by intro ts p h; cases ts; simp_all
  rename_i hts ho htu _ _ _ _ _ hi has
  subst htu
  refine ⟨_, _, _, ?_, ‹_›, hi, rfl⟩
  rw [ho, hargs has, htys hts]
theorem trOp_store {s : Nat} {g : Bool} {x v : Operand} (h : trOp P o = some (.store s g x v)) : ∃ t i d, o.op = .store t x v ∧ P.info? t = some i ∧ P.underlying t = some d ∧ s = i.size ∧ g = isAggD d := by
  unfold trOp at h
  repeat' (split at h)
  all_goals (first | (cases h; done) | skip)
  cases h
  exact ⟨_, _, _, ‹_›, ‹_›, ‹_›, rfl, rfl⟩
theorem trOp_append {e s bytes : Nat} {x y : Operand} (h : trOp P o = some (.append e s bytes x y)) : ∃ t i z, o.op = .call { callee := .builtin .append, args := #[x, y], argTypes := #[t, t] } ∧ P.underlying t = some (.slice e) ∧ P.info? e = some i ∧ i.zero = some z ∧ z.cells.size = i.size ∧ s = i.size ∧ bytes = i.bytes := by
  unfold trOp at h
  repeat' (split at h)
  all_goals (first | (cases h; done) | skip)
  cases h
  have hargs : ∀ {as : Array Operand}, as.toList = [x, y] → as = #[x, y] := by intro as h; cases as; simp_all
  have htys : ∀ {ts : Array TypeId} {p : TypeId}, ts.toList = [p, p] → ts = #[p, p] := by intro ts p h; cases ts; simp_all
  rename_i hl hr htu _ _ _ _ _ _ hc _ _ ha
  subst htu
  refine ⟨_, _, _, ?_, ‹_›, ‹_›, ‹_›, hc.1, rfl, rfl⟩
  rw [hr, hargs ha, htys hl]
theorem sstep_sound (htr : trOp P o = some io) (st : St w m H B) (fr : FR n w m H B env a) {r : Option AV × AHeap} (h : sstep io env H = some r) : SOK P o a w m H B r := by
  have quiet : (match qstep io env H with | some q => some (sres q H) | none => none) = some r → SOK P o a w m H B r := by
    intro h
    split at h
    · rename_i q hq
      cases h
      exact quiet_ok htr st fr hq
    · cases h
  cases io with
  | store s g x v =>
    obtain ⟨t, i, d, ho, hi, hd, rfl, rfl⟩ := trOp_store htr
    exact store_ok hi ho st fr h
  | append e s b x y =>
    obtain ⟨t, i, z, ho, ht, hi, hz, hzs, rfl, rfl⟩ := trOp_append htr
    exact append_ok ht hi hz hzs ho st fr h
  | copy s x y =>
    obtain ⟨t, e, i, ho, ht, hi, rfl⟩ := trOp_copy htr
    exact copy_ok ht hi ho st fr h
  | clear s z x =>
    obtain ⟨t, e, i, zv, y, ho, ht, hi, hz, hy, ⟨c1, c2, c3, c4⟩, rfl, rfl⟩ := trOp_clear htr
    exact clear_ok ht hi hz hy c1 c2 c3 c4 ho st fr h
  | _ => exact quiet h
end
end Go.Awp
