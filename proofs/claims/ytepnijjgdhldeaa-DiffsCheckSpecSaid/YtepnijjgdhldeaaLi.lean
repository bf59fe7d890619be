/- The truth of quiet operations in the model (part 8). Generic in the program. -/
import Derived.Test.YtepnijjgdhldeaaLh
namespace Go.Awp
section
variable {P : Program} {n : Nat} {w : World} {m : AMap} {H : AHeap} {B : Nat} {env : AEnv} {a : Act} {o : Oper} {r : QR}

theorem q_indexA {t e : TypeId} {len : Nat} {j : TypeInfo} {d : TypeDesc} {x i : Operand} (ht : P.underlying t = some (.array len e)) (hj : P.info? e = some j) (hd : P.underlying e = some d) (ho : o.op = .index t x i) (fr : FR n w m H B env a)
    (h : qstep (.indexA len j.size (isAggD d) x i) env H = some r) : QOK P o a w m H B r := by
  simp only [qstep] at h
  split at h
  · rename_i cs k z hp hq
    have hx := ev_sound fr hp
    have hy := ev_sound fr hq
    generalize he : a.eval x = u at hx
    generalize hf : a.eval i = v at hy
    cases hy
    split at h
    · rename_i hc
      obtain ⟨c1, c2⟩ := hc
      cases hx with
      | agg _ vs hl h1 hh =>
        by_cases hg : isAggD d = true
        · rw [if_pos hg] at h
          cases h
          refine ⟨.agg (vs.extract (z.toNat * j.size) (z.toNat * j.size + j.size)), by simp [execOp, ho, Instr.index, he, hf, asIntOf, run_underlying ht, c1, c2, part, run_isAgg hd, hg, run_sizeOf' hj], ?_⟩
          refine .agg _ _ (by simp [hl]; omega) (fun y hy => h1 y (List.mem_of_mem_drop (List.mem_of_mem_take hy))) (fun k' y u e1 e2 => ?_)
          rw [List.getElem?_take] at e1
          split at e1
          · rw [List.getElem?_drop] at e1
            refine hh _ y u e1 ?_
            have := Array.getElem?_extract (xs := vs) (start := z.toNat * j.size) (stop := z.toNat * j.size + j.size) (i := k')
            rw [this] at e2
            split at e2
            · exact e2
            · cases e2
          · cases e1
        · rw [if_neg hg] at h
          split at h
          · rename_i y hy
            cases h
            have hlt : z.toNat * j.size < vs.size := by
              rcases Nat.lt_or_ge (z.toNat * j.size) vs.size with h' | h'
              · exact h'
              · rw [List.getElem?_eq_none (by omega)] at hy; cases hy
            refine ⟨vs[z.toNat * j.size], ?_, hh _ y _ hy (Array.getElem?_eq_getElem hlt)⟩
            simp [execOp, ho, Instr.index, he, hf, asIntOf, run_underlying ht, c1, c2, part, run_isAgg hd, hg, run_sizeOf' hj, hlt]
          · cases h
    · cases h
  · cases h

theorem q_indexS {t : TypeId} {x i : Operand} (ht : P.underlying t = some .string) (ho : o.op = .index t x i) (fr : FR n w m H B env a) (h : qstep (.indexS x i) env H = some r) : QOK P o a w m H B r := by
  simp only [qstep] at h
  split at h
  · rename_i b k z hp hq
    have hx := ev_sound fr hp
    have hy := ev_sound fr hq
    generalize he : a.eval x = u at hx
    generalize hf : a.eval i = v at hy
    cases hy; cases hx
    split at h
    · rename_i h0
      split at h
      · rename_i c hc
        cases h
        exact ⟨.int .u8 c.toNat, by simp [execOp, ho, Instr.index, he, hf, asIntOf, run_underlying ht, h0, hc], .int _ _⟩
      · cases h
    · cases h
  · cases h

theorem run_bnds (fr : FR n w m H B env a) {len cap : Nat} (hcap : len ≤ cap) {lo hi : Option Operand} {lo' hi' : Option AV} (hl : evo env lo = some lo') (hh : evo env hi = some hi') {l r : Nat} (h : abnds len lo' hi' = some (l, r)) (b : Bool) :
    (Instr.sliceBounds b len cap (lo.map a.eval) (hi.map a.eval) none).run P w = .ok (l, r, cap) w ∧ l ≤ r ∧ r ≤ len := by
  have H1 : ∀ (len d : Nat) (hi : Option Operand) (hi' : Option AV), evo env hi = some hi' → ∀ r, abnd1 len d hi' = some r →
      (hi = none ∧ r = d ∨ ∃ y k z, hi = some y ∧ a.eval y = .int k z ∧ 0 ≤ z ∧ z ≤ len ∧ r = z.toNat) := by
    intro len d hi hi' hh r hr
    cases hi with
    | none => cases hh; cases hr; exact .inl ⟨rfl, rfl⟩
    | some y =>
      simp only [evo] at hh
      split at hh
      · rename_i v hv
        cases hh
        have hy := ev_sound fr hv
        generalize he : a.eval y = u at hy
        unfold abnd1 at hr
        split at hr
        · rename_i e; cases e
        · rename_i k z e
          cases e
          cases hy
          split at hr
          · rename_i hz
            cases hr
            exact .inr ⟨y, _, _, rfl, he, hz.1, hz.2, rfl⟩
          · cases hr
        · cases hr
      · cases hh
  unfold abnds at h
  split at h
  · rename_i r' hr
    split at h
    · rename_i l' hl'
      cases h
      have r2 := H1 len len hi hi' hh r hr
      have l2 := H1 r 0 lo lo' hl l hl'
      rcases r2 with ⟨rfl, rfl⟩ | ⟨y, k, z, rfl, e1, e2, e3, rfl⟩
      · rcases l2 with ⟨rfl, rfl⟩ | ⟨y', k', z', rfl, f1, f2, f3, rfl⟩
        · exact ⟨by simp [Instr.sliceBounds], Nat.zero_le _, Nat.le_refl _⟩
        · exact ⟨by simp [Instr.sliceBounds, Instr.sliceBound, asIntOf, f1, f2, f3], by omega, Nat.le_refl _⟩
      · have e3' : z ≤ (cap : Int) := by omega
        rcases l2 with ⟨rfl, rfl⟩ | ⟨y', k', z', rfl, f1, f2, f3, rfl⟩
        · exact ⟨by simp [Instr.sliceBounds, Instr.sliceBound, asIntOf, e1, e2, e3'], Nat.zero_le _, by omega⟩
        · exact ⟨by simp only [Instr.sliceBounds, Instr.sliceBound, asIntOf, e1, e2, e3', f1, f2, f3, Option.map_some, Sem.run_bind, Sem.run_pure, Result.andThen_ok, and_self, if_true], by omega, by omega⟩
    · cases h
  · cases h

theorem q_sliceS {t : TypeId} {x : Operand} {lo hi : Option Operand} (ht : P.underlying t = some .string) (ho : o.op = .slice t x lo hi none) (fr : FR n w m H B env a) (h : qstep (.sliceS x lo hi) env H = some r) : QOK P o a w m H B r := by
  simp only [qstep] at h
  split at h
  · rename_i p l q hp hl hq
    split at h
    · rename_i v hv
      cases h
      have hx := ev_sound fr hp
      generalize he : a.eval x = u at hx
      unfold asliceS at hv
      split at hv
      · rename_i b
        cases hx
        split at hv
        · rename_i l' r' hb
          cases hv
          obtain ⟨hrun, _, _⟩ := run_bnds (P := P) fr (Nat.le_refl _) hl hq hb false
          exact ⟨.string (b.extract l' r'), by simp [execOp, ho, he, Instr.sliceAt, Instr.slice, run_underlying ht, hrun], .str _⟩
        · cases hv
      · cases hv
    · cases h
  · cases h

theorem q_slice0 {t e : TypeId} {j : TypeInfo} {x : Operand} (ht : P.underlying t = some (.slice e)) (hj : P.info? e = some j) (ho : o.op = .slice t x none (some (.const (.int .i64 (.ofNat 0)))) (some (.const (.int .i64 (.ofNat 0))))) (fr : FR n w m H B env a) (h : qstep (.slice0 x) env H = some r) : QOK P o a w m H B r := by
  have run : ∀ (ad : Option Addr) (len cap : Nat), a.eval x = .slice ad len cap → (execOp a.eval o).run P w = .ok (.value (.slice ad 0 0)) w := by
    intro ad len cap hx
    have h0 : ∀ (c : Nat) (code : BoundsCode), (Instr.sliceBound (.int .i64 (.ofNat 0)) c code).run P w = .ok 0 w := by
      intro c code
      simp [Instr.sliceBound, asIntOf]
    have hb : (Instr.sliceBounds true len cap none (some (.int .i64 (.ofNat 0))) (some (.int .i64 (.ofNat 0)))).run P w = .ok (0, 0, 0) w := by
      simp only [Instr.sliceBounds, Sem.run_bind, h0, Result.andThen_ok, Sem.run_pure]
    have hc : a.eval (.const (.int .i64 (.ofNat 0))) = .int .i64 (.ofNat 0) := rfl
    simp only [execOp, ho, hx, Instr.sliceAt, Instr.slice, Sem.run_bind, run_underlying ht, Result.andThen_ok, Option.map_some, Option.map_none, hc, hb, run_sizeOf' hj, Sem.run_pure, if_true, Nat.sub_self]
  have key : ∀ ad len cap, a.eval x = .slice ad len cap → r = .val .nilSlice → QOK P o a w m H B r := by
    intro ad len cap he e
    subst e
    exact ⟨_, run ad len cap he, .nilSlice _⟩
  simp only [qstep] at h
  split at h
  · rename_i hv
    have hx := ev_sound fr hv
    generalize he : a.eval x = u at hx
    cases h; cases hx; exact key _ _ _ he rfl
  · rename_i hv
    have hx := ev_sound fr hv
    generalize he : a.eval x = u at hx
    cases h
    cases hx <;> exact key _ _ _ he rfl
  · rename_i hv
    have hx := ev_sound fr hv
    generalize he : a.eval x = u at hx
    cases h; cases hx; exact key _ _ _ he rfl
  · cases h

theorem q_slice {t e : TypeId} {j : TypeInfo} {x : Operand} {lo hi : Option Operand} (ht : P.underlying t = some (.slice e)) (hj : P.info? e = some j) (ho : o.op = .slice t x lo hi none) (fr : FR n w m H B env a) (h : qstep (.slice j.size x lo hi) env H = some r) : QOK P o a w m H B r := by
  simp only [qstep] at h
  split at h
  · rename_i p l q hp hl hq
    split at h
    · rename_i v hv
      cases h
      have hx := ev_sound fr hp
      generalize he : a.eval x = u at hx
      have run : ∀ (ad : Option Addr) (len cap l' r' : Nat), a.eval x = .slice ad len cap → len ≤ cap → abnds len l q = some (l', r') → (execOp a.eval o).run P w = .ok (.value (.slice (if cap = l' then ad else ad.map (·.add (l' * j.size))) (r' - l') (cap - l'))) w ∧ l' ≤ r' ∧ r' ≤ len := by
        intro ad len cap l' r' hx hle hb
        obtain ⟨hrun, h1, h2⟩ := run_bnds (P := P) fr hle hl hq hb true
        refine ⟨?_, h1, h2⟩
        simp [execOp, ho, hx, Instr.sliceAt, Instr.slice, run_underlying ht, hrun, run_sizeOf' hj]
      unfold aslice at hv
      split at hv
      · rename_i h' ver i0 len
        split at hv
        · rename_i o' ho'
          split at hv
          · rename_i hc
            split at hv
            · rename_i l' r' hb
              cases hv
              cases hx with
              | own _ _ _ _ ad len' cap hlt hh =>
                obtain ⟨p1, p2⟩ := hh o' ho'
                obtain ⟨b, q1, q2, q3, q4, q5, q6, q7⟩ := p2 hc.1
                subst q3
                obtain ⟨g1, g2, g3⟩ := run ad _ cap l' r' he q5 hb
                refine ⟨_, g1, ?_⟩
                refine .own _ _ _ _ _ _ _ hlt fun o2 ho2 => ?_
                rw [ho'] at ho2; cases ho2
                refine ⟨p1, fun _ => ⟨b, q1, fun hcp => ?_, rfl, by omega, by omega, by omega, ?_⟩⟩
                · have hcp' : 0 < cap ∨ i0 = 0 := by omega
                  have := q2 hcp'
                  subst this
                  by_cases e0 : cap = l'
                  · rw [if_pos e0]
                    have : l' = 0 := by omega
                    subst this; rfl
                  · rw [if_neg e0]
                    simp only [Option.map_some, add_none]
                    rw [hc.2, Nat.add_mul]
                · rw [q7]
                  congr 2
                  congr 1
                  omega
            · cases hv
          · cases hv
        · cases hv
      · rename_i fl L
        split at hv
        · rename_i hall
          split at hv
          · rename_i l' r' hb
            cases hv
            cases hx with
            | roNil _ ad cap hcap =>
              obtain ⟨g1, g2, g3⟩ := run ad 0 cap l' r' he (Nat.zero_le _) hb
              have e1 : l' = 0 := by omega
              have e2 : r' = 0 := by omega
              subst e1; subst e2
              refine ⟨_, g1, ?_⟩
              simp only [List.take_nil, List.drop_nil]
              exact .roNil _ _ _ (fun e => by
                by_cases e0 : cap = 0
                · omega
                · rw [if_neg e0] at e
                  have : ad = none := by simpa using e
                  have := hcap this; omega)
            | ro _ _ s b off cap vs hl' hbb hfr hlt' hs hcap hcc hvv =>
              obtain ⟨g1, g2, g3⟩ := run _ _ cap l' r' he hcap hb
              have es : s = j.size := by
                cases L with
                | nil => exact absurd rfl hl'
                | cons y ys =>
                  have h1 := hs y (by simp)
                  simp at hall
                  have h2 := hall.1
                  omega
              subst es
              refine ⟨_, g1, ?_⟩
              by_cases e0 : r' - l' = 0
              · have hnil : (L.take r').drop l' = [] := by
                  apply List.eq_nil_of_length_eq_zero; simp; omega
                rw [hnil, e0]
                exact .roNil _ _ _ (fun e => by split at e <;> simp at e)
              · have hcl : cap ≠ l' := by omega
                rw [if_neg hcl]
                simp only [Option.map_some, add_none]
                have hlen : ((L.take r').drop l').length = r' - l' := by simp; omega
                rw [← hlen]
                have hget : ∀ i, ((L.take r').drop l')[i]? = if l' + i < r' then L[l' + i]? else none := by
                  intro i; rw [List.getElem?_drop, List.getElem?_take]
                refine .ro _ _ j.size b _ _ (fun i q => vs (l' + i) q) (fun e => by rw [e] at hlen; simp at hlen; omega) hbb hfr hlt' (fun e he' => hs e (List.mem_of_mem_take (List.mem_of_mem_drop he'))) (by omega) (fun i e q y h1 h2 => ?_) (fun i e q y h1 h2 => ?_)
                · rw [hget] at h1
                  split at h1
                  · have := hcc _ e q y h1 h2
                    have e4 : off + (l' + i) * j.size + q = off + l' * j.size + i * j.size + q := by rw [Nat.add_mul]; omega
                    rwa [e4] at this
                  · cases h1
                · rw [hget] at h1
                  split at h1
                  · exact hvv _ e q y h1 h2
                  · cases h1
          · cases hv
        · cases hv
      · split at hv
        · rename_i lr hb
          obtain ⟨l', r'⟩ := lr
          cases hv
          cases hx with
          | nilSlice ad =>
            obtain ⟨g1, g2, g3⟩ := run ad 0 0 l' r' he (Nat.le_refl _) hb
            have e1 : l' = 0 := by omega
            have e2 : r' = 0 := by omega
            subst e1; subst e2
            exact ⟨_, g1, by simp; exact .nilSlice _⟩
        · cases hv
      · cases hv
    · cases h
  · cases h
end
end Go.Awp
