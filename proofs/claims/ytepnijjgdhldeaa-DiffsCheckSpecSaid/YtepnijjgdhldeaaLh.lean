/- The truth of quiet operations in the model (part 7). Generic in the program. -/
import Derived.Test.YtepnijjgdhldeaaLg
namespace Go.Awp
section
variable {P : Program} {n : Nat} {w : World} {m : AMap} {H : AHeap} {B : Nat} {env : AEnv} {a : Act} {o : Oper} {r : QR}

theorem q_bin {op : BinOp} {t u : TypeId} {x y : Operand} (ho : o.op = .binOp op t x y u) (fr : FR n w m H B env a) (h : qstep (.bin op x y) env H = some r) : QOK P o a w m H B r := by
  simp only [qstep] at h
  split at h
  · rename_i p q hp hq
    split at h
    · rename_i z hz
      cases h
      have hx := ev_sound fr hp
      have hy := ev_sound fr hq
      generalize he : a.eval x = u at hx
      generalize hf : a.eval y = v at hy
      unfold abin at hz
      split at hz
      · rename_i k s k' s'
        cases hx; cases hy
        split at hz
        · rename_i hk
          subst hk
          split at hz
          all_goals (first | (cases hz; done) | skip)
          all_goals (first
            | (cases hz; exact ⟨_, by simp [execOp, ho, he, hf, eqGuard, binOp, Op.intArith, Op.intCmp]; rfl, by constructor⟩)
            | (cases hz; exact ⟨_, by simp [execOp, ho, he, hf, eqGuard, binOp, Op.intArith, Op.intCmp], by constructor⟩)
            | (cases hz; exact ⟨_, by simp [execOp, ho, he, hf, eqGuard, binOp, Op.intBits]; rfl, by constructor⟩)
            | (split at hz
               · cases hz
               · rename_i h0
                 first
                 | (cases hz; exact ⟨_, by simp [execOp, ho, he, hf, eqGuard, binOp, Op.intDiv, h0]; rfl, by constructor⟩)
                 | (cases hz; exact ⟨_, by simp [execOp, ho, he, hf, eqGuard, binOp, Op.shift, h0]; rfl, by constructor⟩)))
        · cases hz
      · rename_i sa sb
        cases hx; cases hy
        split at hz
        · cases hz; exact ⟨_, by simp [execOp, ho, he, hf, eqGuard, binOp, Op.stringOp]; rfl, by rw [beq_toListBytes]; constructor⟩
        · cases hz; exact ⟨_, by simp [execOp, ho, he, hf, eqGuard, binOp, Op.stringOp]; rfl, by rw [beq_toListBytes]; constructor⟩
        · split at hz
          · rename_i hs
            cases hz
            have hs' : ¬ (9223372036854775807 : Int) < (sa.size : Int) + sb.size := by omega
            exact ⟨.string (sa ++ sb), by simp [execOp, ho, he, hf, eqGuard, binOp, Op.stringOp, hs'], by constructor⟩
          · cases hz
        · cases hz
      · cases hz
    · cases h
  · cases h

theorem q_binB {neg : Bool} {t u : TypeId} {x y : Operand} (ht : P.underlying t = some .bool) (ho : o.op = .binOp (if neg then .neq else .eql) t x y u) (fr : FR n w m H B env a) (h : qstep (.binB neg x y) env H = some r) : QOK P o a w m H B r := by
  simp only [qstep] at h
  split at h
  · rename_i p q hp hq
    cases h
    have hx := ev_sound fr hp
    have hy := ev_sound fr hq
    generalize he : a.eval x = u at hx
    generalize hf : a.eval y = v at hy
    cases hx; cases hy
    cases neg
    · exact ⟨.bool (p == q), by simp [execOp, ho, he, hf, eqGuard, binOp, Op.equal, Op.maxDepth, run_equalIn_bool' w _ t p q ht], by constructor⟩
    · exact ⟨.bool (!(p == q)), by simp [execOp, ho, he, hf, eqGuard, binOp, Op.equal, Op.maxDepth, run_equalIn_bool' w _ t p q ht], by constructor⟩
  · cases h

theorem CellsAt.elem {ad : Addr} {e : List AV} {s b i : Nat} {vs : Nat → Nat → Value} {off : Nat} {l : List (List AV)} (hc : ∀ (i : Nat) (e : List AV) (j : Nat) (x : AV), l[i]? = some e → e[j]? = some x → w.cell? ⟨b, off + i * s + j, none⟩ = some (vs i j) ∧ x.one = true)
    (hv : ∀ (i : Nat) (e : List AV) (j : Nat) (x : AV), l[i]? = some e → e[j]? = some x → RV w m H B x (vs i j)) (hb : ∀ h, m h ≠ some b) (hlt : b < w.heap.size) (he : l[i]? = some e) (had : ad = ⟨b, off + i * s, none⟩) :
    RV w m H B (.rop e) (.pointer (some ad)) := by
  subst had
  exact .rop e b _ (vs i) hb hlt (fun j x hj => hc i e j x he hj) (fun j x hj => hv i e j x he hj)

theorem run_iaddr {t e : TypeId} {j : TypeInfo} (ht : P.underlying t = some (.slice e)) (hj : P.info? e = some j) {x i : Operand} (ho : o.op = .indexAddr t x i) {ad : Addr} {len cap : Nat} {k : IntKind} {z : Int} (hx : a.eval x = .slice (some ad) len cap) (hi : a.eval i = .int k z)
    (h0 : 0 ≤ z) (h1 : z < len) : (execOp a.eval o).run P w = .ok (.value (.pointer (some (ad.add (z.toNat * j.size))))) w := by
  simp [execOp, ho, hx, hi, Instr.indexAt, asIntOf, run_underlying ht, h0, h1, run_sizeOf' hj]

theorem q_iaddr {t e : TypeId} {j : TypeInfo} {x i : Operand} (ht : P.underlying t = some (.slice e)) (hj : P.info? e = some j) (ho : o.op = .indexAddr t x i) (fr : FR n w m H B env a) (h : qstep (.iaddr j.size x i) env H = some r) : QOK P o a w m H B r := by
  simp only [qstep] at h
  split at h
  · rename_i p q hp hq
    split at h
    · rename_i v hv
      cases h
      have hx := ev_sound fr hp
      have hy := ev_sound fr hq
      generalize he : a.eval x = u at hx
      generalize hf : a.eval i = v at hy
      unfold aiaddr at hv
      split at hv
      · rename_i h' ver i0 len k z
        split at hv
        · rename_i o' ho'
          split at hv
          · rename_i hc
            obtain ⟨c1, c2, c3, c4⟩ := hc
            cases hv; cases hy
            cases hx with
            | own _ _ _ _ ad l c hlt hh =>
              obtain ⟨p1, p2⟩ := hh o' ho'
              obtain ⟨b, q1, q2, q3, q4, q5, q6, q7⟩ := p2 c1
              have hcap : 0 < c := by omega
              have had := q2 (.inl hcap)
              subst had
              refine ⟨_, run_iaddr ht hj ho he hf c3 (by omega), ?_⟩
              rw [add_none]
              refine .ptr _ _ _ _ _ hlt fun o2 ho2 => ?_
              rw [ho'] at ho2; cases ho2
              exact ⟨p1, fun _ => ⟨b, q1, by rw [c2]; congr 1; rw [Nat.add_mul, Nat.add_zero]⟩⟩
          · cases hv
        · cases hv
      · rename_i fl L k z
        split at hv
        · rename_i h0
          split at hv
          · rename_i el hel
            split at hv
            · rename_i hsz
              cases hv; cases hy
              have hlt : z.toNat < L.length := by
                rcases Nat.lt_or_ge z.toNat L.length with h' | h'
                · exact h'
                · rw [List.getElem?_eq_none h'] at hel; cases hel
              cases hx with
              | roNil => simp at hlt
              | ro _ _ s b off cap vs hl hb hfr hlt' hs hcap hc hv =>
                have hs' := hs el (List.mem_of_getElem? hel)
                have es : s = j.size := by omega
                subst es
                refine ⟨_, run_iaddr ht hj ho he hf h0 (by omega), ?_⟩
                rw [add_none]
                exact CellsAt.elem hc hv hb hlt' hel rfl
            · cases hv
          · cases hv
        · cases hv
      · cases hv
    · cases h
  · cases h

theorem q_iaddrA {t e : TypeId} {len : Nat} {j : TypeInfo} {x i : Operand} (ht : P.underlying t = some (.array len e)) (hj : P.info? e = some j) (ho : o.op = .indexAddr t x i) (fr : FR n w m H B env a) (h : qstep (.iaddrA len j.size x i) env H = some r) : QOK P o a w m H B r := by
  simp only [qstep] at h
  have run : ∀ (ad : Addr) (k : IntKind) (z : Int), a.eval x = .pointer (some ad) → a.eval i = .int k z → 0 ≤ z → z < len → (execOp a.eval o).run P w = .ok (.value (.pointer (some (ad.add (z.toNat * j.size))))) w := by
    intro ad k z hx hi h0 h1
    simp [execOp, ho, hx, hi, Instr.indexAt, asIntOf, run_underlying ht, h0, h1, run_sizeOf' hj, Instr.sureAddr]
  split at h
  · rename_i h' ver i' j' k z hp hq
    have hx := ev_sound fr hp
    have hy := ev_sound fr hq
    generalize he : a.eval x = u at hx
    generalize hf : a.eval i = v at hy
    cases hy
    split at h
    · rename_i hc
      cases h
      cases hx with
      | ptr _ _ _ _ ad hlt hv =>
        refine ⟨_, run ad k z he hf hc.1 hc.2, ?_⟩
        refine .ptr _ _ _ _ _ hlt fun o ho => ⟨(hv o ho).1, fun e => ?_⟩
        obtain ⟨b, q1, q2⟩ := (hv o ho).2 e
        exact ⟨b, q1, by rw [q2, add_none]; congr 1; omega⟩
    · cases h
  · rename_i cells k z hp hq
    have hx := ev_sound fr hp
    have hy := ev_sound fr hq
    generalize he : a.eval x = u at hx
    generalize hf : a.eval i = v at hy
    cases hy
    split at h
    · rename_i hc
      cases h
      cases hx with
      | rop _ b off vs hb hlt hcc hv =>
        refine ⟨_, run _ k z he hf hc.1 hc.2, ?_⟩
        rw [add_none]
        refine .rop _ b _ (fun q => vs (z.toNat * j.size + q)) hb hlt (fun q y hy => ?_) (fun q y hy => ?_)
        · rw [List.getElem?_drop] at hy
          have := hcc _ y hy
          rwa [← Nat.add_assoc] at this
        · rw [List.getElem?_drop] at hy
          exact hv _ y hy
    · cases h
  · cases h
end
end Go.Awp
