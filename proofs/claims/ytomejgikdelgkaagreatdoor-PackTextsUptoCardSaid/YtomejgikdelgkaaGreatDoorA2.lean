/- The truth of quiet operations in the model (part 8). Generic in the program. -/
import Derived.Test.YtomejgikdelgkaaGreatDoorA1
import Derived.ChangeKeysEq
import Derived.MapKept
import Derived.WideLaws
set_option linter.unusedVariables false
set_option linter.unusedSimpArgs false
set_option linter.unusedSectionVars false
namespace Go.Awp
set_option linter.unusedSectionVars false
variable [Fx]
section
variable {P : Program} {n : Nat} {w : World} {m : AMap} {H : AHeap} {B : Nat} {env : AEnv} {a : Act} {o : Oper} {r : QR}
theorem q_indexA {t e : TypeId} {len : Nat} {j : TypeInfo} {d : TypeDesc} {x i : Operand} (ht : P.underlying t = some (.array len e)) (hj : P.info? e = some j) (hd : P.underlying e = some d) (ho : o.op = .index t x i) (fr : FR n w m H B env a)
    (h : qstep (.indexA len j.size (isAggD d) x i) env H = some r) : QOK P o a w m H B r := by
  simp only [qstep] at h
  split at h
  · rename_i cs k z hp hq
    have hx := ev_sound fr hp
    have hy := ev_sound fr hq
    generalize he : a.eval x = u at hx
    generalize hf : a.eval i = v at hy
    cases hy
    split at h
    · rename_i hc
      obtain ⟨c1, c2⟩ := hc
      cases hx with
      | agg _ vs hl h1 hh =>
        by_cases hg : isAggD d = true
        · rw [if_pos hg] at h
          cases h
          refine ⟨.agg (vs.extract (z.toNat * j.size) (z.toNat * j.size + j.size)), by simp [execOp, ho, Instr.index, he, hf, asIntOf, run_underlying ht, c1, c2, part, run_isAgg hd, hg, run_sizeOf' hj], ?_⟩
          refine .agg _ _ (by simp [hl]; omega) (fun y hy => h1 y (List.mem_of_mem_drop (List.mem_of_mem_take hy))) (fun k' y u e1 e2 => ?_)
          rw [List.getElem?_take] at e1
          split at e1
          · rw [List.getElem?_drop] at e1
            refine hh _ y u e1 ?_
            have := Array.getElem?_extract (xs := vs) (start := z.toNat * j.size) (stop := z.toNat * j.size + j.size) (i := k')
            rw [this] at e2
            split at e2
            · exact e2
            · cases e2
          · cases e1
        · rw [if_neg hg] at h
          split at h
          · rename_i y hy
            cases h
            have hlt : z.toNat * j.size < vs.size := by
              rcases Nat.lt_or_ge (z.toNat * j.size) vs.size with h' | h'
              · exact h'
              · rw [List.getElem?_eq_none (by omega)] at hy; cases hy
            refine ⟨vs[z.toNat * j.size], ?_, hh _ y _ hy (Array.getElem?_eq_getElem hlt)⟩
            simp [execOp, ho, Instr.index, he, hf, asIntOf, run_underlying ht, c1, c2, part, run_isAgg hd, hg, run_sizeOf' hj, hlt]
          · cases h
    · cases h
  · cases h
theorem q_indexS {t : TypeId} {x i : Operand} (ht : P.underlying t = some .string) (ho : o.op = .index t x i) (fr : FR n w m H B env a) (h : qstep (.indexS x i) env H = some r) : QOK P o a w m H B r := by
  simp only [qstep] at h
  split at h
  · rename_i b k z hp hq
    have hx := ev_sound fr hp
    have hy := ev_sound fr hq
    generalize he : a.eval x = u at hx
    generalize hf : a.eval i = v at hy
    cases hy; cases hx
    split at h
    · rename_i h0
      split at h
      · rename_i c hc
        cases h
        exact ⟨.int .u8 c.toNat, by simp [execOp, ho, Instr.index, he, hf, asIntOf, run_underlying ht, h0, hc], .int _ _⟩
      · cases h
    · cases h
  · cases h
theorem run_bnds (fr : FR n w m H B env a) {len cap : Nat} (hcap : len ≤ cap) {lo hi : Option Operand} {lo' hi' : Option AV} (hl : evo env lo = some lo') (hh : evo env hi = some hi') {l r : Nat} (h : abnds len lo' hi' = some (l, r)) (b : Bool) :
    (Instr.sliceBounds b len cap (lo.map a.eval) (hi.map a.eval) none).run P w = .ok (l, r, cap) w ∧ l ≤ r ∧ r ≤ len := by
  have H1 : ∀ (len d : Nat) (hi : Option Operand) (hi' : Option AV), evo env hi = some hi' → ∀ r, abnd1 len d hi' = some r →
      (hi = none ∧ r = d ∨ ∃ y k z, hi = some y ∧ a.eval y = .int k z ∧ 0 ≤ z ∧ z ≤ len ∧ r = z.toNat) := by
    intro len d hi hi' hh r hr
    cases hi with
    | none => cases hh; cases hr; exact .inl ⟨rfl, rfl⟩
    | some y =>
      simp only [evo] at hh
      split at hh
      · rename_i v hv
        cases hh
        have hy := ev_sound fr hv
        generalize he : a.eval y = u at hy
        unfold abnd1 at hr
        split at hr
        · rename_i e; cases e
        · rename_i k z e
          cases e
          cases hy
          split at hr
          · rename_i hz
            cases hr
            exact .inr ⟨y, _, _, rfl, he, hz.1, hz.2, rfl⟩
          · cases hr
        · cases hr
      · cases hh
  unfold abnds at h
  split at h
  · rename_i r' hr
    split at h
    · rename_i l' hl'
      cases h
      have r2 := H1 len len hi hi' hh r hr
      have l2 := H1 r 0 lo lo' hl l hl'
      rcases r2 with ⟨rfl, rfl⟩ | ⟨y, k, z, rfl, e1, e2, e3, rfl⟩
      · rcases l2 with ⟨rfl, rfl⟩ | ⟨y', k', z', rfl, f1, f2, f3, rfl⟩
        · exact ⟨by simp [Instr.sliceBounds], Nat.zero_le _, Nat.le_refl _⟩
        · exact ⟨by simp [Instr.sliceBounds, Instr.sliceBound, asIntOf, f1, f2, f3], by omega, Nat.le_refl _⟩
      · have e3' : z ≤ (cap : Int) := by omega
        rcases l2 with ⟨rfl, rfl⟩ | ⟨y', k', z', rfl, f1, f2, f3, rfl⟩
        · exact ⟨by simp [Instr.sliceBounds, Instr.sliceBound, asIntOf, e1, e2, e3'], Nat.zero_le _, by omega⟩
        · exact ⟨by simp only [Instr.sliceBounds, Instr.sliceBound, asIntOf, e1, e2, e3', f1, f2, f3, Option.map_some, Sem.run_bind, Sem.run_pure, Result.andThen_ok, and_self, if_true], by omega, by omega⟩
    · cases h
  · cases h
theorem bnd1 (fr : FR n w m H B env a) {len d : Nat} {hi : Option Operand} {hi' : Option AV} (hh : evo env hi = some hi') {r : Nat} (hr : abnd1 len d hi' = some r) :
    hi = none ∧ hi' = none ∧ r = d ∨ ∃ y k z, hi = some y ∧ a.eval y = .int k z ∧ 0 ≤ z ∧ z ≤ len ∧ r = z.toNat := by
  cases hi with
  | none => cases hh; cases hr; exact .inl ⟨rfl, rfl, rfl⟩
  | some y =>
    simp only [evo] at hh
    split at hh
    · rename_i v hv
      cases hh
      have hy := ev_sound fr hv
      generalize he : a.eval y = u at hy
      unfold abnd1 at hr
      split at hr
      · rename_i e; cases e
      · rename_i k z e
        cases e
        cases hy
        split at hr
        · rename_i hz
          cases hr
          exact .inr ⟨y, _, _, rfl, he, hz.1, hz.2, rfl⟩
        · cases hr
      · cases hr
    · cases hh
theorem abndX_some {lim : Nat} {lo hi : Option AV} {l r : Nat} (h : abndX lim lo hi = some (l, r)) : hi ≠ none ∧ abnd1 lim lim hi = some r ∧ abnd1 r 0 lo = some l := by
  unfold abndX at h
  split at h
  · unfold abnds at h
    split at h
    · rename_i r' hr
      split at h
      · rename_i l' hl
        cases h
        exact ⟨by simp, hr, hl⟩
      · cases h
    · cases h
  · cases h
theorem run_bndsX (fr : FR n w m H B env a) {len lim cap : Nat} (hcap : lim ≤ cap) {lo hi : Option Operand} {lo' hi' : Option AV} (hl : evo env lo = some lo') (hh : evo env hi = some hi') {l r : Nat} (h : abndX lim lo' hi' = some (l, r)) (b : Bool) :
    (Instr.sliceBounds b len cap (lo.map a.eval) (hi.map a.eval) none).run P w = .ok (l, r, cap) w ∧ l ≤ r ∧ r ≤ lim := by
  obtain ⟨h0, h1, h2⟩ := abndX_some h
  have r2 := bnd1 fr hh h1
  have l2 := bnd1 fr hl h2
  rcases r2 with ⟨rfl, rfl, rfl⟩ | ⟨y, k, z, rfl, e1, e2, e3, rfl⟩
  · exact absurd rfl h0
  · have e3' : z ≤ (cap : Int) := by omega
    rcases l2 with ⟨rfl, _, rfl⟩ | ⟨y', k', z', rfl, f1, f2, f3, rfl⟩
    · exact ⟨by simp [Instr.sliceBounds, Instr.sliceBound, asIntOf, e1, e2, e3'], Nat.zero_le _, by omega⟩
    · exact ⟨by simp only [Instr.sliceBounds, Instr.sliceBound, asIntOf, e1, e2, e3', f1, f2, f3, Option.map_some, Sem.run_bind, Sem.run_pure, Result.andThen_ok, and_self, if_true], by omega, by omega⟩
theorem run_bnds3 (fr : FR n w m H B env a) {len lim cap : Nat} (hcap : lim ≤ cap) {lo hi mx : Option Operand} {lo' hi' mx' : Option AV} (hl : evo env lo = some lo') (hh : evo env hi = some hi') (hm : evo env mx = some mx') {q0 q l r : Nat} (h : abndX lim none mx' = some (q0, q)) (h' : abndX q lo' hi' = some (l, r)) :
    (Instr.sliceBounds true len cap (lo.map a.eval) (hi.map a.eval) (mx.map a.eval)).run P w = .ok (l, r, q) w ∧ l ≤ r ∧ r ≤ q ∧ q ≤ lim := by
  obtain ⟨g0, g1, _⟩ := abndX_some h
  obtain ⟨h0, h1, h2⟩ := abndX_some h'
  have m2 := bnd1 fr hm g1
  have r2 := bnd1 fr hh h1
  have l2 := bnd1 fr hl h2
  rcases m2 with ⟨rfl, rfl, rfl⟩ | ⟨y0, k0, z0, rfl, d1, d2, d3, rfl⟩
  · exact absurd rfl g0
  have d3' : z0 ≤ (cap : Int) := by omega
  rcases r2 with ⟨rfl, rfl, rfl⟩ | ⟨y, k, z, rfl, e1, e2, e3, rfl⟩
  · exact absurd rfl h0
  · rcases l2 with ⟨rfl, _, rfl⟩ | ⟨y', k', z', rfl, f1, f2, f3, rfl⟩
    · exact ⟨by simp only [Instr.sliceBounds, Instr.sliceBound, asIntOf, d1, d2, d3', e1, e2, e3, Option.map_some, Option.map_none, Sem.run_bind, Sem.run_pure, Result.andThen_ok, and_self, if_true], Nat.zero_le _, by omega, by omega⟩
    · exact ⟨by simp only [Instr.sliceBounds, Instr.sliceBound, asIntOf, d1, d2, d3', e1, e2, e3, f1, f2, f3, Option.map_some, Option.isSome_some, Sem.run_bind, Sem.run_pure, Result.andThen_ok, and_self, if_true], by omega, by omega, by omega⟩
theorem q_sliceS {t : TypeId} {x : Operand} {lo hi : Option Operand} (ht : P.underlying t = some .string) (ho : o.op = .slice t x lo hi none) (fr : FR n w m H B env a) (h : qstep (.sliceS x lo hi) env H = some r) : QOK P o a w m H B r := by
  simp only [qstep] at h
  split at h
  · rename_i p l q hp hl hq
    split at h
    · rename_i v hv
      cases h
      have hx := ev_sound fr hp
      generalize he : a.eval x = u at hx
      unfold asliceS at hv
      split at hv
      · rename_i b
        cases hx
        split at hv
        · rename_i l' r' hb
          cases hv
          obtain ⟨hrun, _, _⟩ := run_bnds (P := P) fr (Nat.le_refl _) hl hq hb false
          exact ⟨.string (b.extract l' r'), by simp [execOp, ho, he, Instr.sliceAt, Instr.slice, run_underlying ht, hrun], .str _⟩
        · cases hv
      · cases hv
    · cases h
  · cases h
theorem q_sliceA {t e : TypeId} {N : Nat} {j : TypeInfo} {x : Operand} {lo hi : Option Operand} (ht : P.underlying t = some (.array N e)) (hj : P.info? e = some j) (ho : o.op = .slice t x lo hi none) (fr : FR n w m H B env a) (h : qstep (.sliceA N j.size x lo hi) env H = some r) : QOK P o a w m H B r := by
  simp only [qstep] at h
  split at h
  · rename_i p l q hp hl hq
    split at h
    · rename_i v hv
      cases h
      have hx := ev_sound fr hp
      generalize he : a.eval x = u at hx
      unfold asliceA at hv
      split at hv
      · rename_i h' ver i0 j0
        split at hv
        · rename_i l' r' hb
          cases hv
          obtain ⟨hrun, h1, h2⟩ := run_bnds (P := P) (w := w) fr (Nat.le_refl N) hl hq hb false
          cases hx with
          | ptr _ _ _ _ ad hlt hv =>
            have g1 : (execOp a.eval o).run P w = .ok (.value (.slice (some (if N = l' then ad else ad.add (l' * j.size))) (r' - l') (N - l'))) w := by
              simp [execOp, ho, he, Instr.sliceAt, Instr.sureAddr, run_underlying ht, hrun, run_sizeOf' hj]
            refine ⟨_, g1, ?_⟩
            refine .sub _ _ _ _ _ _ _ _ _ hlt fun o2 ho2 => ?_
            refine ⟨(hv o2 ho2).1, fun e => ?_⟩
            obtain ⟨b, q1, q2⟩ := (hv o2 ho2).2 e
            refine ⟨b, q1, fun hcp => ?_, rfl, by omega⟩
            rw [if_neg (by omega), q2, add_none, Nat.add_assoc]
        · cases hv
      · cases hv
    · cases h
  · cases h
theorem q_slice0 {t e : TypeId} {j : TypeInfo} {x : Operand} (ht : P.underlying t = some (.slice e)) (hj : P.info? e = some j) (ho : o.op = .slice t x none (some (.const (.int .i64 (.ofNat 0)))) (some (.const (.int .i64 (.ofNat 0))))) (fr : FR n w m H B env a) (h : qstep (.slice0 x) env H = some r) : QOK P o a w m H B r := by
  have run : ∀ (ad : Option Addr) (len cap : Nat), a.eval x = .slice ad len cap → (execOp a.eval o).run P w = .ok (.value (.slice ad 0 0)) w := by
    intro ad len cap hx
    have h0 : ∀ (c : Nat) (code : BoundsCode), (Instr.sliceBound (.int .i64 (.ofNat 0)) c code).run P w = .ok 0 w := by
      intro c code
      simp [Instr.sliceBound, asIntOf]
    have hb : (Instr.sliceBounds true len cap none (some (.int .i64 (.ofNat 0))) (some (.int .i64 (.ofNat 0)))).run P w = .ok (0, 0, 0) w := by
      simp only [Instr.sliceBounds, Sem.run_bind, h0, Result.andThen_ok, Sem.run_pure]
    have hc : a.eval (.const (.int .i64 (.ofNat 0))) = .int .i64 (.ofNat 0) := rfl
    simp only [execOp, ho, hx, Instr.sliceAt, Instr.slice, Sem.run_bind, run_underlying ht, Result.andThen_ok, Option.map_some, Option.map_none, hc, hb, run_sizeOf' hj, Sem.run_pure, if_true, Nat.sub_self]
  have key : ∀ ad len cap, a.eval x = .slice ad len cap → r = .val .nilSlice → QOK P o a w m H B r := by
    intro ad len cap he e
    subst e
    exact ⟨_, run ad len cap he, .nilSlice _⟩
  simp only [qstep] at h
  split at h
  · rename_i hv
    have hx := ev_sound fr hv
    generalize he : a.eval x = u at hx
    cases h; cases hx; exact key _ _ _ he rfl
  · rename_i hv
    have hx := ev_sound fr hv
    generalize he : a.eval x = u at hx
    cases h
    cases hx <;> exact key _ _ _ he rfl
  · rename_i hv
    have hx := ev_sound fr hv
    generalize he : a.eval x = u at hx
    cases h; cases hx; exact key _ _ _ he rfl
  · cases h
theorem own_room {w : World} {m : AMap} {H : AHeap} {B : Nat} (st : St w m H B) {h b : Nat} {ob : AObj} (ho : AHeap.obj H h = some ob) (hm : m h = some b) {i cap : Nat} (hs : 0 < ob.s) (hsh : w.shape? b = some (ob.e, (i + cap) * ob.s)) (hi : i ≤ ob.elems.length) : ob.elems.length - i ≤ cap := by
  obtain ⟨g1, g2, o2, cs, e1, e2, e3, e4⟩ := st.dom h b hm
  rw [ho] at e1; cases e1
  have hc : cs.size = (i + cap) * ob.s := by
    simp only [World.shape?, e2] at hsh
    simpa using hsh
  rcases Nat.eq_zero_or_pos ob.elems.length with h0 | h0
  · omega
  · have h1 : ob.elems[ob.elems.length - 1]? = some (ob.elems[ob.elems.length - 1]'(by omega)) := List.getElem?_eq_getElem _
    have hlen := e3 _ (List.mem_of_getElem? h1)
    obtain ⟨v, hv, _⟩ := e4 _ _ (ob.s - 1) _ h1 (List.getElem?_eq_getElem (by omega))
    have hv1 := (Array.getElem?_eq_some_iff.1 hv).1
    have e5 : (ob.elems.length - 1) * ob.s + ob.s = ob.elems.length * ob.s := by
      rw [← Nat.succ_mul]; congr 1; omega
    have : ob.elems.length * ob.s ≤ (i + cap) * ob.s := by omega
    have := Nat.le_of_mul_le_mul_right this hs
    omega
theorem q_slice {t e : TypeId} {j : TypeInfo} {x : Operand} {lo hi : Option Operand} (ht : P.underlying t = some (.slice e)) (hj : P.info? e = some j) (ho : o.op = .slice t x lo hi none) (st : St w m H B) (fr : FR n w m H B env a) (h : qstep (.slice j.size x lo hi) env H = some r) : QOK P o a w m H B r := by
  simp only [qstep] at h
  split at h
  · rename_i p l q hp hl hq
    split at h
    · rename_i v hv
      cases h
      have hx := ev_sound fr hp
      generalize he : a.eval x = u at hx
      have run : ∀ (ad : Option Addr) (len cap l' r' : Nat), a.eval x = .slice ad len cap → len ≤ cap → abnds len l q = some (l', r') → (execOp a.eval o).run P w = .ok (.value (.slice (if cap = l' then ad else ad.map (·.add (l' * j.size))) (r' - l') (cap - l'))) w ∧ l' ≤ r' ∧ r' ≤ len := by
        intro ad len cap l' r' hx hle hb
        obtain ⟨hrun, h1, h2⟩ := run_bnds (P := P) fr hle hl hq hb true
        refine ⟨?_, h1, h2⟩
        simp [execOp, ho, hx, Instr.sliceAt, Instr.slice, run_underlying ht, hrun, run_sizeOf' hj]
      unfold aslice at hv
      split at hv
      · rename_i h' ver i0 len
        split at hv
        · rename_i o' ho'
          split at hv
          · rename_i hc
            split at hv
            · rename_i l' r' hb
              cases hv
              cases hx with
              | own _ _ _ _ ad len' cap hlt hh =>
                obtain ⟨p1, p2⟩ := hh o' ho'
                obtain ⟨b, q1, q2, q3, q4, q5, q6, q7⟩ := p2 hc.1
                subst q3
                obtain ⟨g1, g2, g3⟩ := run ad _ cap l' r' he q5 hb
                refine ⟨_, g1, ?_⟩
                refine .own _ _ _ _ _ _ _ hlt fun o2 ho2 => ?_
                rw [ho'] at ho2; cases ho2
                refine ⟨p1, fun _ => ⟨b, q1, fun hcp => ?_, rfl, by omega, by omega, by omega, ?_⟩⟩
                · have hcp' : 0 < cap ∨ i0 = 0 := by omega
                  have := q2 hcp'
                  subst this
                  by_cases e0 : cap = l'
                  · rw [if_pos e0]
                    have : l' = 0 := by omega
                    subst this; rfl
                  · rw [if_neg e0]
                    simp only [Option.map_some, add_none]
                    rw [hc.2, Nat.add_mul]
                · rw [q7]
                  congr 2
                  congr 1
                  omega
            · split at hv
              · rename_i hs0
                split at hv
                · rename_i l' r' hb
                  cases hv
                  cases hx with
                  | own _ _ _ _ ad len' cap hlt hh =>
                    obtain ⟨p1, p2⟩ := hh o' ho'
                    obtain ⟨b, q1, q2, q3, q4, q5, q6, q7⟩ := p2 hc.1
                    subst q3
                    have hroom := own_room st ho' q1 (by omega) q7 (by omega)
                    obtain ⟨hrun, g2, g3⟩ := run_bndsX (P := P) fr (len := len') (lim := ver - i0) (cap := cap) (by omega) hl hq hb true
                    have g1 : (execOp a.eval o).run P w = .ok (.value (.slice (if cap = l' then ad else ad.map (·.add (l' * j.size))) (r' - l') (cap - l'))) w := by
                      simp [execOp, ho, he, Instr.sliceAt, Instr.slice, run_underlying ht, hrun, run_sizeOf' hj]
                    refine ⟨_, g1, ?_⟩
                    refine .own _ _ _ _ _ _ _ hlt fun o2 ho2 => ?_
                    rw [ho'] at ho2; cases ho2
                    refine ⟨p1, fun _ => ⟨b, q1, fun hcp => ?_, rfl, by omega, by omega, by omega, ?_⟩⟩
                    · have hcp' : 0 < cap ∨ i0 = 0 := by omega
                      have := q2 hcp'
                      subst this
                      by_cases e0 : cap = l'
                      · rw [if_pos e0]
                        have : l' = 0 := by omega
                        subst this; rfl
                      · rw [if_neg e0]
                        simp only [Option.map_some, add_none]
                        rw [hc.2, Nat.add_mul]
                    · rw [q7]
                      congr 2
                      congr 1
                      omega
                · cases hv
              · cases hv
          · cases hv
        · cases hv
      · rename_i fl L
        split at hv
        · rename_i hall
          split at hv
          · rename_i l' r' hb
            cases hv
            cases hx with
            | roNil _ ad cap hcap =>
              obtain ⟨g1, g2, g3⟩ := run ad 0 cap l' r' he (Nat.zero_le _) hb
              have e1 : l' = 0 := by omega
              have e2 : r' = 0 := by omega
              subst e1; subst e2
              refine ⟨_, g1, ?_⟩
              simp only [List.take_nil, List.drop_nil]
              exact .roNil _ _ _ (fun e => by
                by_cases e0 : cap = 0
                · omega
                · rw [if_neg e0] at e
                  have : ad = none := by simpa using e
                  have := hcap this; omega)
            | ro _ _ s b off cap vs hl' hbb hfr hlt' hs hcap hcc hvv =>
              obtain ⟨g1, g2, g3⟩ := run _ _ cap l' r' he hcap hb
              have es : s = j.size := by
                cases L with
                | nil => exact absurd rfl hl'
                | cons y ys =>
                  have h1 := hs y (by simp)
                  simp at hall
                  have h2 := hall.1
                  omega
              subst es
              refine ⟨_, g1, ?_⟩
              by_cases e0 : r' - l' = 0
              · have hnil : (L.take r').drop l' = [] := by
                  apply List.eq_nil_of_length_eq_zero; simp; omega
                rw [hnil, e0]
                exact .roNil _ _ _ (fun e => by split at e <;> simp at e)
              · have hcl : cap ≠ l' := by omega
                rw [if_neg hcl]
                simp only [Option.map_some, add_none]
                have hlen : ((L.take r').drop l').length = r' - l' := by simp; omega
                rw [← hlen]
                have hget : ∀ i, ((L.take r').drop l')[i]? = if l' + i < r' then L[l' + i]? else none := by
                  intro i; rw [List.getElem?_drop, List.getElem?_take]
                refine .ro _ _ j.size b _ _ (fun i q => vs (l' + i) q) (fun e => by rw [e] at hlen; simp at hlen; omega) hbb hfr hlt' (fun e he' => hs e (List.mem_of_mem_take (List.mem_of_mem_drop he'))) (by omega) (fun i e q y h1 h2 => ?_) (fun i e q y h1 h2 => ?_)
                · rw [hget] at h1
                  split at h1
                  · have := hcc _ e q y h1 h2
                    have e4 : off + (l' + i) * j.size + q = off + l' * j.size + i * j.size + q := by rw [Nat.add_mul]; omega
                    rwa [e4] at this
                  · cases h1
                · rw [hget] at h1
                  split at h1
                  · exact hvv _ e q y h1 h2
                  · cases h1
          · cases hv
        · cases hv
      · split at hv
        · rename_i lr hb
          obtain ⟨l', r'⟩ := lr
          cases hv
          cases hx with
          | nilSlice ad =>
            obtain ⟨g1, g2, g3⟩ := run ad 0 0 l' r' he (Nat.le_refl _) hb
            have e1 : l' = 0 := by omega
            have e2 : r' = 0 := by omega
            subst e1; subst e2
            exact ⟨_, g1, by simp; exact .nilSlice _⟩
        · cases hv
      · cases hv
    · cases h
  · cases h
theorem q_slice3 {t e : TypeId} {j : TypeInfo} {x : Operand} {lo hi : Option Operand} {mx : Operand} (ht : P.underlying t = some (.slice e)) (hj : P.info? e = some j) (ho : o.op = .slice t x lo hi (some mx)) (fr : FR n w m H B env a) (h : qstep (.slice3 j.size x lo hi (some mx)) env H = some r) : QOK P o a w m H B r := by
  simp only [qstep] at h
  split at h
  · rename_i p l q u hp hl hq hu
    split at h
    · rename_i v hv
      cases h
      have hx := ev_sound fr hp
      generalize he : a.eval x = xu at hx
      have run : ∀ (ad : Option Addr) (len cap lim q0 m' l' r' : Nat), a.eval x = .slice ad len cap → lim ≤ cap → abndX lim none u = some (q0, m') → abndX m' l q = some (l', r') → (execOp a.eval o).run P w = .ok (.value (.slice (if m' = l' then ad else ad.map (·.add (l' * j.size))) (r' - l') (m' - l'))) w ∧ l' ≤ r' ∧ r' ≤ m' ∧ m' ≤ lim := by
        intro ad len cap lim q0 m' l' r' hx hle hb1 hb2
        obtain ⟨hrun, h1, h2, h3⟩ := run_bnds3 (P := P) fr (len := len) hle hl hq hu hb1 hb2
        refine ⟨?_, h1, h2, h3⟩
        have hrun' : (Instr.sliceBounds true len cap (lo.map a.eval) (hi.map a.eval) (some (a.eval mx))).run P w = .ok (l', r', m') w := hrun
        simp [execOp, ho, hx, Instr.sliceAt, Instr.slice, run_underlying ht, hrun', run_sizeOf' hj]
      unfold aslice3 at hv
      split at hv
      · rename_i h' ver i0 len
        split at hv
        · rename_i o' ho'
          split at hv
          · rename_i hc
            split at hv
            · rename_i q0 m' hb1
              split at hv
              · rename_i lr hb2
                obtain ⟨l', r'⟩ := lr
                cases hv
                cases hx with
                | own _ _ _ _ ad len' cap hlt hh =>
                  obtain ⟨p1, p2⟩ := hh o' ho'
                  obtain ⟨b, q1, q2, q3, q4, q5, q6, q7⟩ := p2 hc.1
                  subst q3
                  obtain ⟨g1, g2, g3, g4⟩ := run ad _ cap _ _ _ l' r' he q5 hb1 hb2
                  exact ⟨_, g1, .junk _ _ _⟩
              · cases hv
            · cases hv
          · cases hv
        · cases hv
      · rename_i fl L
        split at hv
        · rename_i hall
          split at hv
          · rename_i q0 m' hb1
            split at hv
            · rename_i l' r' hb2
              have key : ∃ vv, (execOp a.eval o).run P w = .ok (.value vv) w ∧ RV w m H B (.ro fl ((L.take r').drop l')) vv ∧ ∃ ad, vv = .slice ad (r' - l') (m' - l') := by
                cases hx with
                | roNil _ ad cap hcap =>
                  obtain ⟨g1, g2, g3, g4⟩ := run ad 0 cap 0 _ _ l' r' he (Nat.zero_le _) hb1 hb2
                  have e1 : l' = 0 := by simp at g4; omega
                  have e2 : r' = 0 := by simp at g4; omega
                  have e3 : m' = 0 := by simp at g4; omega
                  subst e1; subst e2; subst e3
                  refine ⟨_, g1, ?_, _, rfl⟩
                  simp only [List.take_nil, List.drop_nil]
                  exact .roNil _ _ _ (fun e => by simp)
                | ro _ _ s b off cap vs hl' hbb hfr hlt' hs hcap hcc hvv =>
                  obtain ⟨g1, g2, g3, g4⟩ := run _ _ cap _ _ _ l' r' he hcap hb1 hb2
                  have es : s = j.size := by
                    cases L with
                    | nil => exact absurd rfl hl'
                    | cons y ys =>
                      have h1 := hs y (by simp)
                      simp at hall
                      have h2 := hall.1
                      omega
                  subst es
                  refine ⟨_, g1, ?_, _, rfl⟩
                  by_cases e0 : r' - l' = 0
                  · have hnil : (L.take r').drop l' = [] := by
                      apply List.eq_nil_of_length_eq_zero; simp; omega
                    rw [hnil, e0]
                    exact .roNil _ _ _ (fun e => by split at e <;> simp at e)
                  · have hcl : m' ≠ l' := by omega
                    rw [if_neg hcl]
                    simp only [Option.map_some, add_none]
                    have hlen : ((L.take r').drop l').length = r' - l' := by simp; omega
                    rw [← hlen]
                    have hget : ∀ i, ((L.take r').drop l')[i]? = if l' + i < r' then L[l' + i]? else none := by
                      intro i; rw [List.getElem?_drop, List.getElem?_take]
                    refine .ro _ _ j.size b _ _ (fun i q => vs (l' + i) q) (fun e => by rw [e] at hlen; simp at hlen; omega) hbb hfr hlt' (fun e he' => hs e (List.mem_of_mem_take (List.mem_of_mem_drop he'))) (by omega) (fun i e q y h1 h2 => ?_) (fun i e q y h1 h2 => ?_)
                    · rw [hget] at h1
                      split at h1
                      · have := hcc _ e q y h1 h2
                        have e4 : off + (l' + i) * j.size + q = off + l' * j.size + i * j.size + q := by rw [Nat.add_mul]; omega
                        rwa [e4] at this
                      · cases h1
                    · rw [hget] at h1
                      split at h1
                      · exact hvv _ e q y h1 h2
                      · cases h1
              obtain ⟨vv, k1, k2, ad, rfl⟩ := key
              split at hv
              · rename_i hrm
                cases hv
                subst hrm
                refine ⟨_, k1, .full _ _ _ ?_⟩
                have weak : ∀ {x : AV} {v : Value}, RV w m H B x v → ∀ l, x = .ro fl l → RV w m H B (.ro false l) v := by
                  intro x v hxv l hx
                  cases hxv with
                  | roNil _ a cap ha => cases hx; exact .roNil _ _ _ ha
                  | ro _ l' s b off cap vs hl hb hfr hlt hs hcap hc hv => cases hx; exact .ro false _ s b off cap vs hl hb (fun h => by cases h) hlt hs hcap hc hv
                  | _ => cases hx
                exact weak k2 _ rfl
              · cases hv
                exact ⟨_, k1, k2⟩
            · cases hv
          · cases hv
        · cases hv
      · cases hv
    · cases h
  · cases h
end
end Go.Awp
/- The truth of quiet operations in the model (part 9). Generic in the program. -/
namespace Go.Awp
set_option linter.unusedSectionVars false
variable [Fx]
section
variable {P : Program} {n : Nat} {w : World} {m : AMap} {H : AHeap} {B : Nat} {env : AEnv} {a : Act} {o : Oper} {r : QR}
theorem length_setMany : ∀ (ys : List AV) (xs : List AV) (off : Nat), (setMany xs off ys).length = xs.length
  | [], xs, off => rfl
  | y :: ys, xs, off => by simp [setMany, length_setMany ys]
theorem RL.setMany : ∀ (ys : List AV) (us : List Value) (xs : List AV) (vs : Array Value) (off k : Nat), RL w m H B xs vs → ys.length = us.length → (∀ y, y ∈ ys → y.one = true) → (∀ (i : Nat) (y : AV) (u : Value), ys[i]? = some y → us[i]? = some u → RV w m H B y u) →
    RL w m H B (setMany xs (off + k) ys) ((us.zipIdx k).foldl (fun cs (c, j) => cs.setIfInBounds (off + j) c) vs)
  | [], us, xs, vs, off, k, h, hl, _, _ => by
    cases us with
    | nil => exact h
    | cons => simp at hl
  | y :: ys, us, xs, vs, off, k, h, hl, h1, hr => by
    cases us with
    | nil => simp at hl
    | cons u us =>
      simp only [Awp.setMany, List.zipIdx_cons, List.foldl_cons]
      have h0 := hr 0 y u rfl rfl
      have := RL.setMany ys us (xs.set (off + k) y) (vs.setIfInBounds (off + k) u) off (k + 1) (h.set h0 (h1 y (by simp)) _) (by simpa using hl) (fun y' hy => h1 y' (by simp [hy])) (fun i y' u' e1 e2 => hr (i + 1) y' u' (by simpa using e1) (by simpa using e2))
      rwa [← Nat.add_assoc] at this
theorem RL.put_cells {xs : List AV} {vs : Array Value} (h : RL w m H B xs vs) {x : AV} {v : Value} (hv : RV w m H B x v) (ht : x.isTuple = false) (off : Nat) :
    RL w m H B (Awp.setMany xs off x.cells) (v.cells.zipIdx.foldl (fun cs (c, j) => cs.setIfInBounds (off + j) c) vs) := by
  obtain ⟨l1, l2, l3⟩ := hv.cells (RV.not_tuple ht)
  have := RL.setMany x.cells v.cells.toList xs vs off 0 h (by simpa using l1) l2 (fun i y u e1 e2 => l3 i y u e1 (by simpa using e2))
  rw [Nat.add_zero] at this
  rw [← Array.foldl_toList, Array.toList_zipIdx]
  exact this
theorem fill_sound (fr : FR n w m H B env a) (place : Nat → Option (Nat × Nat)) : ∀ (parts : List (Nat × Operand)) (l : List (Nat × Nat × Operand)) (xs ys : List AV) (vs : Array Value), RL w m H B xs vs →
    l.length = parts.length → (∀ (k : Nat) (p : Nat × Operand) (q : Nat × Nat × Operand), parts[k]? = some p → l[k]? = some q → q.2.2 = p.2 ∧ place p.1 = some (q.1, q.2.1)) → afill env xs l = some ys →
    ∃ us, Instr.fill place vs (parts.map fun p => (p.1, a.eval p.2)) = some us ∧ RL w m H B ys us
  | [], l, xs, ys, vs, h, hl, _, hf => by
    cases l with
    | nil => cases hf; exact ⟨vs, rfl, h⟩
    | cons => simp at hl
  | p :: parts, l, xs, ys, vs, h, hl, hp, hf => by
    cases l with
    | nil => simp at hl
    | cons q l =>
      obtain ⟨off, size, x⟩ := q
      obtain ⟨e1, e2⟩ := hp 0 p (off, size, x) rfl rfl
      simp only [afill] at hf
      split at hf
      · rename_i v hv
        split at hf
        · rename_i hc
          obtain ⟨c1, c2, c3⟩ := hc
          have hv' := ev_sound fr hv
          obtain ⟨l1, l2, l3⟩ := hv'.cells (RV.not_tuple c3)
          simp only at e1 e2
          subst e1
          obtain ⟨us, q1, q2⟩ := fill_sound fr place parts l _ ys _ (h.put_cells hv' c3 off) (by simpa using hl) (fun k p q a1 a2 => hp (k + 1) p q (by simpa using a1) (by simpa using a2)) hf
          refine ⟨us, ?_, q2⟩
          simp only [List.map_cons, Instr.fill, e2]
          rw [if_neg]
          · exact q1
          · have h1' := h.1
            simp only [Bool.or_eq_true, decide_eq_true_eq, ne_eq, not_or, Nat.not_lt]
            omega
        · cases hf
      · cases hf
theorem trParts_spec (fields : Array Field) : ∀ (parts : List (Nat × Operand)) (l : List (Nat × Nat × Operand)), trParts P fields parts = some l → l.length = parts.length ∧
    ∀ (k : Nat) (p : Nat × Operand) (q : Nat × Nat × Operand), parts[k]? = some p → l[k]? = some q → q.2.2 = p.2 ∧ ∃ f i, fields[p.1]? = some f ∧ P.info? f.type = some i ∧ q.1 = f.offset ∧ q.2.1 = i.size
  | [], l, h => by cases h; exact ⟨rfl, by simp⟩
  | (i, x) :: parts, l, h => by
    simp only [trParts] at h
    split at h
    · rename_i f l' hf hl
      split at h
      · rename_i j hj
        cases h
        obtain ⟨q1, q2⟩ := trParts_spec fields parts l' hl
        refine ⟨by simp [q1], fun k p q e1 e2 => ?_⟩
        cases k with
        | zero => cases e1; cases e2; exact ⟨rfl, f, j, hf, hj, rfl, rfl⟩
        | succ k => exact q2 k p q (by simpa using e1) (by simpa using e2)
      · cases h
    · cases h
end
end Go.Awp
/- The truth of quiet operations in the model (part 10). Generic in the program. -/
namespace Go.Awp
set_option linter.unusedSectionVars false
variable [Fx]
section
variable {P : Program} {n : Nat} {w : World} {m : AMap} {H : AHeap} {B : Nat} {env : AEnv} {a : Act} {o : Oper} {r : QR}
theorem q_build {t : TypeId} {i : TypeInfo} {fields : Array Field} {z : Value} {x : List AV} {parts : Array (Nat × Operand)} {l : List (Nat × Nat × Operand)} (hi : P.info? t = some i) (ht : P.underlying t = some (.struct fields)) (hz : i.zero = some z) (hl : trParts P fields parts.toList = some l)
    (hc : cst z = some (.agg x)) (hall : ∀ f, f ∈ fields → ∃ j, P.info? f.type = some j) (ho : o.op = .build t parts) (fr : FR n w m H B env a) (h : qstep (.build x l) env H = some r) : QOK P o a w m H B r := by
  simp only [qstep] at h
  split at h
  · rename_i cs hcs
    cases h
    have hx := cst_sound (w := w) (m := m) (H := H) (B := B) hc
    generalize hzz : z = zz at hx
    cases hx with
    | agg _ vs hl' h1 hh =>
      obtain ⟨p1, p2⟩ := trParts_spec fields parts.toList l hl
      -- the places
      have hpl : ∀ (fs : List Field), (∀ f, f ∈ fs → ∃ j, P.info? f.type = some j) → ∃ ps : List (Nat × Nat), (fs.mapM fun f => (do pure (f.offset, ← sizeOf f.type) : Sem (Nat × Nat))).run P w = .ok ps w ∧ ps.length = fs.length ∧
          ∀ (k : Nat) (f : Field) (j : TypeInfo), fs[k]? = some f → P.info? f.type = some j → ps[k]? = some (f.offset, j.size) := by
        intro fs
        induction fs with
        | nil => intro _; exact ⟨[], by simp, rfl, by simp⟩
        | cons f fs ih =>
          intro hf
          obtain ⟨ps, q1, q2, q3⟩ := ih fun g hg => hf g (by simp [hg])
          obtain ⟨j, hj⟩ := hf f (by simp)
          refine ⟨(f.offset, j.size) :: ps, ?_, by simp [q2], fun k g j' e1 e2 => ?_⟩
          · simp only [List.mapM_cons, Sem.run_bind, run_sizeOf' hj, Sem.run_pure, Result.andThen_ok, q1]
          · cases k with
            | zero => simp at e1; subst e1; rw [hj] at e2; cases e2; rfl
            | succ k => exact q3 k g j' (by simpa using e1) e2
      obtain ⟨ps, q1, q2, q3⟩ := hpl fields.toList (fun f hf => hall f (by simpa using hf))
      obtain ⟨us, f1, f2⟩ := fill_sound fr (fun k => ps[k]?) parts.toList l x cs vs ⟨hl', h1, hh⟩ p1 (fun k p q e1 e2 => by
        obtain ⟨g1, f, j, g2, g3, g4, g5⟩ := p2 k p q e1 e2
        exact ⟨g1, by rw [q3 p.1 f j (by simpa using g2) g3, g4, g5]⟩) hcs
      refine ⟨.agg us, ?_, .agg _ _ f2.1 f2.2.1 f2.2.2⟩
      have hm : (fields.mapM fun f => (do pure (f.offset, ← sizeOf f.type) : Sem (Nat × Nat))).run P w = .ok ps.toArray w := by
        rw [Array.mapM_eq_mapM_toList, Sem.run_map, q1, Result.andThen_ok]
      have hzc : z.cells = vs := by rw [hzz]; rfl
      have hf1 : Instr.fill (fun k => ps.toArray[k]?) z.cells (parts.map fun p => (p.1, a.eval p.2)).toList = some us := by
        rw [hzc]; simpa using f1
      simp only [execOp, ho, Instr.build, Sem.run_bind, zeroValue, typeInfo, run_program, Result.andThen_ok, hi, hz, Sem.run_pure, run_underlying ht, hm, hf1]
  · cases h
theorem q_buildA {t e : TypeId} {len : Nat} {i j : TypeInfo} {z : Value} {x : List AV} {parts : Array (Nat × Operand)} (hi : P.info? t = some i) (ht : P.underlying t = some (.array len e)) (hz : i.zero = some z) (hj : P.info? e = some j)
    (hc : cst z = some (.agg x)) (ho : o.op = .build t parts) (fr : FR n w m H B env a) (h : qstep (.build x (parts.toList.map fun p => (p.1 * j.size, j.size, p.2))) env H = some r) : QOK P o a w m H B r := by
  simp only [qstep] at h
  split at h
  · rename_i cs hcs
    cases h
    have hx := cst_sound (w := w) (m := m) (H := H) (B := B) hc
    generalize hzz : z = zz at hx
    cases hx with
    | agg _ vs hl' h1 hh =>
      obtain ⟨us, f1, f2⟩ := fill_sound fr (fun k => some (k * j.size, j.size)) parts.toList _ x cs vs ⟨hl', h1, hh⟩ (by simp) (fun k p q e1 e2 => by
        rw [List.getElem?_map, e1] at e2
        cases e2
        exact ⟨rfl, rfl⟩) hcs
      refine ⟨.agg us, ?_, .agg _ _ f2.1 f2.2.1 f2.2.2⟩
      have hzc : z.cells = vs := by rw [hzz]; rfl
      have hf1 : Instr.fill (fun k => some (k * j.size, j.size)) z.cells (parts.map fun p => (p.1, a.eval p.2)).toList = some us := by
        rw [hzc]; simpa using f1
      simp only [execOp, ho, Instr.build, Sem.run_bind, zeroValue, typeInfo, run_program, Result.andThen_ok, hi, hz, Sem.run_pure, run_underlying ht, run_sizeOf' hj, hf1]
  · cases h
theorem aeqO_append : ∀ (l1 l2 : List (Nat × Nat)) (xs ys : List AV) (r : Bool), aeqO (l1 ++ l2) xs ys = some r → ∃ r1 r2, aeqO l1 xs ys = some r1 ∧ aeqO l2 xs ys = some r2 ∧ r = (r1 && r2)
  | [], l2, xs, ys, r, h => ⟨true, r, rfl, h, rfl⟩
  | (k, off) :: l1, l2, xs, ys, r, h => by
    simp only [List.cons_append, aeqO] at h
    split at h
    · rename_i r' hr'
      obtain ⟨r1, r2, e1, e2, rfl⟩ := aeqO_append l1 l2 xs ys r' hr'
      split at h
      · split at h
        · rename_i a1 _ x k' y h1 h2 hk
          cases h
          exact ⟨_, r2, by simp only [aeqO, e1, h1, h2, hk, if_true]; rfl, e2, by rw [Bool.and_assoc]⟩
        · cases h
      · rename_i h1 h2
        cases h
        exact ⟨_, r2, by simp only [aeqO, e1, h1, h2]; rfl, e2, by rw [Bool.and_assoc]⟩
      · rename_i h1 h2
        cases h
        exact ⟨_, r2, by simp only [aeqO, e1, h1, h2]; rfl, e2, by rw [Bool.and_assoc]⟩
      · cases h
    · cases h
theorem aeqO_congr (off : Nat) : ∀ (l : List (Nat × Nat)) (xs ys xs' ys' : List AV) (r : Bool), (∀ p, p ∈ l → xs'[p.2]? = xs[off + p.2]? ∧ ys'[p.2]? = ys[off + p.2]?) → aeqO (l.map fun p => (p.1, off + p.2)) xs ys = some r → aeqO l xs' ys' = some r
  | [], xs, ys, xs', ys', r, _, h => h
  | (k, o) :: l, xs, ys, xs', ys', r, hp, h => by
    simp only [List.map_cons, aeqO] at h ⊢
    have h0 := hp (k, o) (by simp)
    simp only at h0
    rw [h0.1, h0.2]
    split at h
    · rename_i r' hr'
      rw [aeqO_congr off l xs ys xs' ys' r' (fun p hm => hp p (by simp [hm])) hr']
      exact h
    · cases h
theorem run_eqFields_cons (d : Nat) (f : Field) (fs : List Field) (us vs : Array Value) (hn : f.name ≠ "_") {u v : Value} (hu : (part f.type us f.offset).run P w = .ok u w) (hv : (part f.type vs f.offset).run P w = .ok v w) {r1 r2 : Bool} (h1 : (Op.equalIn d f.type u v).run P w = .ok r1 w) (h2 : (Op.eqFields d us vs fs).run P w = .ok r2 w) :
    (Op.eqFields d us vs (f :: fs)).run P w = .ok (r1 && r2) w := by
  simp only [Op.eqFields, if_pos hn, Sem.run_bind, hu, hv, h1, Result.andThen_ok]
  cases r1 with
  | true => simpa using h2
  | false => simp
theorem flat_sound : ∀ (d : Nat), (∀ (t : TypeId) (offs : List (Nat × Nat)), flatOffs P d t = some offs → ∀ (k : Nat) (x y : AV) (u v : Value) (r : Bool), RV w m H B x u → RV w m H B y v → (∀ e, P.underlying t = some e → (isAggD e = true → (∃ l, x = .agg l) ∧ ∃ l, y = .agg l) ∧ (isAggD e = false → x.cells = [x] ∧ y.cells = [y])) →
      aeqO offs x.cells y.cells = some r → (Op.equalIn (d + k) t u v).run P w = .ok r w) ∧
    (∀ (fs : List Field) (offs : List (Nat × Nat)), flatFields P d fs = some offs → ∀ (k : Nat) (xs ys : List AV) (us vs : Array Value) (r : Bool), RL w m H B xs us → RL w m H B ys vs →
      aeqO offs xs ys = some r → (Op.eqFields (d + k) us vs fs).run P w = .ok r w)
  | 0 => ⟨fun t offs h => by simp [flatOffs] at h, fun fs offs h => by simp [flatFields] at h⟩
  | d + 1 => by
    obtain ⟨ih1, ih2⟩ := flat_sound d
    have hd : ∀ k, d + 1 + k = d + (k + 1) := by intro k; omega
    refine ⟨fun t offs h k x y u v r hx hy hagg hr => ?_, fun fs offs h k xs ys us vs r hx hy hr => ?_⟩
    · rw [show d + 1 + k = (d + k) + 1 by omega]
      simp only [flatOffs] at h
      split at h
      · rename_i ki hu
        cases h
        obtain ⟨cx, cy⟩ := (hagg _ hu).2 rfl
        rw [cx, cy] at hr
        simp only [aeqO, List.getElem?_cons_zero] at hr
        split at hr
        · rename_i h1 h2
          cases h1; cases h2
          split at hr
          · rename_i hk
            subst hk
            cases hr
            cases hx; cases hy
            rw [run_equalIn_int w _ t _ _ _ _ hu, Bool.and_true]
          · cases hr
        · omega
        · omega
        · cases hr
      · rename_i hu
        cases h
        obtain ⟨cx, cy⟩ := (hagg _ hu).2 rfl
        rw [cx, cy] at hr
        simp only [aeqO, List.getElem?_cons_zero] at hr
        split at hr
        · omega
        · rename_i h1 h2
          cases h1; cases h2; cases hr
          cases hx; cases hy
          rw [run_equalIn_bool' w _ t _ _ hu, Bool.and_true]
        · omega
        · cases hr
      · rename_i hu
        cases h
        obtain ⟨cx, cy⟩ := (hagg _ hu).2 rfl
        rw [cx, cy] at hr
        simp only [aeqO, List.getElem?_cons_zero] at hr
        split at hr
        · omega
        · omega
        · rename_i h1 h2
          cases h1; cases h2; cases hr
          cases hx; cases hy
          rw [run_equalIn_string w _ t _ _ hu, Bool.and_true, beq_toListBytes]
        · cases hr
      · rename_i fs hu
        split at h
        · rename_i hst
          obtain ⟨⟨l1, rfl⟩, ⟨l2, rfl⟩⟩ := (hagg _ hu).1 rfl
          cases hx with
          | agg _ us hl h1 hh =>
            cases hy with
            | agg _ vs hl' h1' hh' =>
              have hf : P.fieldsOf t = fs := by unfold Program.fieldsOf; rw [hu]
              rw [run_equalIn_struct w (d + k) t us vs (by rw [hf]; exact hu) hst, hf]
              exact ih2 fs.toList offs h k l1 l2 us vs r ⟨hl, h1, hh⟩ ⟨hl', h1', hh'⟩ hr
        · cases h
      · cases h
    · cases fs with
      | nil =>
        simp only [flatFields] at h
        cases h; cases hr
        simp [Op.eqFields]
      | cons f fs =>
        simp only [flatFields] at h
        split at h
        · rename_i l i rest hl hi hrest
          split at h
          · rename_i hc
            obtain ⟨hc1, hc2⟩ := hc
            cases h
            obtain ⟨r1, r2, e1, e2, rfl⟩ := aeqO_append _ _ _ _ _ hr
            have hrest' := ih2 fs rest hrest (k + 1) xs ys us vs r2 hx hy e2
            rw [← hd] at hrest'
            have hlt : ∀ p, p ∈ l → p.2 < i.size := fun p hp => by
              have := List.all_eq_true.1 hc2 p hp
              simpa using this
            have hunder : ∃ e, P.underlying f.type = some e := by
              cases d with
              | zero => simp [flatOffs] at hl
              | succ d =>
                simp only [flatOffs] at hl
                split at hl <;> first | exact ⟨_, ‹_›⟩ | cases hl
            obtain ⟨e, he⟩ := hunder
            by_cases hg : isAggD e = true
            · have q : ∀ (zs : List AV) (ws : Array Value), RL w m H B zs ws → (part f.type ws f.offset).run P w = .ok (.agg (ws.extract f.offset (f.offset + i.size))) w ∧ RV w m H B (.agg ((zs.drop f.offset).take i.size)) (.agg (ws.extract f.offset (f.offset + i.size))) := by
                intro zs ws hz
                refine ⟨by simp [part, run_isAgg he, hg, run_sizeOf' hi], .agg _ _ (by simp [hz.1]; omega) (fun y hy => hz.2.1 y (List.mem_of_mem_drop (List.mem_of_mem_take hy))) (fun k' y u e1 e2 => ?_)⟩
                rw [List.getElem?_take] at e1
                split at e1
                · rw [List.getElem?_drop] at e1
                  refine hz.2.2 _ y u e1 ?_
                  rw [Array.getElem?_extract] at e2
                  split at e2
                  · exact e2
                  · cases e2
                · cases e1
              obtain ⟨a1, a2⟩ := q xs us hx
              obtain ⟨b1, b2⟩ := q ys vs hy
              refine run_eqFields_cons _ f fs us vs hc1 a1 b1 ?_ hrest'
              rw [hd]
              refine ih1 f.type l hl (k + 1) _ _ _ _ r1 a2 b2 (fun e' he' => ?_) ?_
              · rw [he] at he'; cases he'
                exact ⟨fun _ => ⟨⟨_, rfl⟩, ⟨_, rfl⟩⟩, fun h0 => by rw [hg] at h0; cases h0⟩
              · refine aeqO_congr f.offset l xs ys _ _ r1 (fun p hp => ?_) e1
                have := hlt p hp
                simp only [AV.cells]
                rw [List.getElem?_take_of_lt this, List.getElem?_take_of_lt this, List.getElem?_drop, List.getElem?_drop]
                exact ⟨rfl, rfl⟩
            · have hl1 : ∃ kk, l = [(kk, 0)] := by
                cases d with
                | zero => simp [flatOffs] at hl
                | succ d =>
                  simp only [flatOffs, he] at hl
                  cases e <;> simp [isAggD] at hg hl <;> exact ⟨_, hl.symm⟩
              obtain ⟨kk, rfl⟩ := hl1
              have q : ∀ (zs : List AV) (ws : Array Value) (z : AV), RL w m H B zs ws → zs[f.offset]? = some z → ∃ u, (part f.type ws f.offset).run P w = .ok u w ∧ RV w m H B z u ∧ z.one = true := by
                intro zs ws z hz hzz
                have hlt : f.offset < ws.size := by
                  rcases Nat.lt_or_ge f.offset ws.size with h' | h'
                  · exact h'
                  · rw [List.getElem?_eq_none (by rw [hz.1]; omega)] at hzz; cases hzz
                exact ⟨ws[f.offset], by simp [part, run_isAgg he, hg, hlt], hz.2.2 _ z _ hzz (Array.getElem?_eq_getElem hlt), hz.2.1 z (List.mem_of_getElem? hzz)⟩
              have hsome : ∃ x y, xs[f.offset]? = some x ∧ ys[f.offset]? = some y := by
                simp only [List.map_cons, List.map_nil, aeqO, Nat.add_zero] at e1
                split at e1
                · exact ⟨_, _, ‹_›, ‹_›⟩
                · exact ⟨_, _, ‹_›, ‹_›⟩
                · exact ⟨_, _, ‹_›, ‹_›⟩
                · cases e1
              obtain ⟨x, y, hx0, hy0⟩ := hsome
              obtain ⟨u, a1, a2, a3⟩ := q xs us x hx hx0
              obtain ⟨v, b1, b2, b3⟩ := q ys vs y hy hy0
              have cell1 : ∀ z : AV, z.one = true → z.cells = [z] := by
                intro z hz; cases z <;> first | rfl | cases hz
              refine run_eqFields_cons _ f fs us vs hc1 a1 b1 ?_ hrest'
              rw [hd]
              refine ih1 f.type _ hl (k + 1) x y u v r1 a2 b2 (fun e' he' => ?_) ?_
              · rw [he] at he'; cases he'
                exact ⟨fun h0 => absurd h0 hg, fun _ => ⟨cell1 x a3, cell1 y b3⟩⟩
              · refine aeqO_congr f.offset _ xs ys _ _ r1 (fun p hp => ?_) e1
                simp at hp; subst hp
                rw [cell1 x a3, cell1 y b3]
                simp [hx0, hy0]
          · cases h
        · cases h
theorem q_eqA {neg : Bool} {t u : TypeId} {fs : Array Field} {x y : Operand} {offs : List (Nat × Nat)} (ht : P.underlying t = some (.struct fs)) (hf : flatOffs P 40 t = some offs) (hgd : P.eqGuardType P.depth t = false) (ho : o.op = .binOp (if neg then .neq else .eql) t x y u) (fr : FR n w m H B env a)
    (h : qstep (.eqA neg offs x y) env H = some r) : QOK P o a w m H B r := by
  simp only [qstep] at h
  split at h
  · rename_i p q hp hq
    split at h
    · rename_i b hb
      cases h
      have hx := ev_sound fr hp
      have hy := ev_sound fr hq
      generalize he : a.eval x = u at hx
      generalize hf' : a.eval y = v at hy
      have key := (flat_sound (P := P) 40).1 t offs hf 9960 (.agg p) (.agg q) u v b hx hy (fun e he' => by
        rw [ht] at he'; cases he'
        exact ⟨fun _ => ⟨⟨_, rfl⟩, ⟨_, rfl⟩⟩, fun h0 => by cases h0⟩) hb
      cases hx with
      | agg _ us hl h1 hh =>
        cases hy with
        | agg _ vs hl' h1' hh' =>
          cases neg
          · exact ⟨.bool b, by simp [execOp, ho, he, hf', run_eqGuard_agg w _ t _ _ _ _ hgd, binOp, Op.equal, Op.maxDepth, key], .bool _⟩
          · exact ⟨.bool (!b), by simp [execOp, ho, he, hf', run_eqGuard_agg w _ t _ _ _ _ hgd, binOp, Op.equal, Op.maxDepth, key], .bool _⟩
    · cases h
  · cases h
end
end Go.Awp
/- The truth of quiet operations in the model (part 11). Generic in the program. -/
namespace Go.Awp
set_option linter.unusedSectionVars false
variable [Fx]
theorem flatten_get {α : Type} {s : Nat} : ∀ (es : List (List α)), (∀ e, e ∈ es → e.length = s) → ∀ (i : Nat) (e : List α) (j : Nat) (x : α), es[i]? = some e → e[j]? = some x → es.flatten[i * s + j]? = some x
  | [], _, i, e, j, x, h, _ => by simp at h
  | e0 :: es, hs, i, e, j, x, h1, h2 => by
    have h0 := hs e0 (by simp)
    cases i with
    | zero =>
      simp at h1; subst h1
      have : j < e0.length := by
        rcases Nat.lt_or_ge j e0.length with h' | h'
        · exact h'
        · rw [List.getElem?_eq_none h'] at h2; cases h2
      simp only [List.flatten_cons, Nat.zero_mul, Nat.zero_add]
      rw [List.getElem?_append_left this]; exact h2
    | succ i =>
      have := flatten_get es (fun e he => hs e (by simp [he])) i e j x (by simpa using h1) h2
      simp only [List.flatten_cons]
      rw [List.getElem?_append_right (by rw [Nat.add_mul]; omega)]
      rw [show (i + 1) * s + j - e0.length = i * s + j by rw [Nat.add_mul]; omega]
      exact this
theorem flatten_length {α : Type} {s : Nat} : ∀ (es : List (List α)), (∀ e, e ∈ es → e.length = s) → es.flatten.length = es.length * s
  | [], _ => by simp
  | e :: es, hs => by
    simp only [List.flatten_cons, List.length_append, List.length_cons]
    rw [flatten_length es (fun e he => hs e (by simp [he])), hs e (by simp), Nat.add_mul]; omega
theorem setMany_append_left : ∀ (c : List AV) (p q : List AV) (off : Nat), off + c.length ≤ p.length → setMany (p ++ q) off c = setMany p off c ++ q
  | [], p, q, off, _ => rfl
  | x :: c, p, q, off, h => by
    simp only [setMany]
    simp only [List.length_cons] at h
    rw [List.set_append_left _ _ (by omega), setMany_append_left c _ q (off + 1) (by simp; omega)]
theorem setMany_append_right : ∀ (c : List AV) (p q : List AV) (off : Nat), setMany (p ++ q) (p.length + off) c = p ++ setMany q off c
  | [], p, q, off => rfl
  | x :: c, p, q, off => by
    simp only [setMany]
    rw [List.set_append_right _ _ (by omega), Nat.add_sub_cancel_left, Nat.add_assoc, setMany_append_right c p _ (off + 1)]
theorem setMany_all : ∀ (c p r : List AV), c.length = p.length → setMany (r ++ p) r.length c = r ++ c
  | [], p, r, h => by
    have : p = [] := List.eq_nil_of_length_eq_zero (by simpa using h.symm)
    subst this; rfl
  | x :: c, p, r, h => by
    cases p with
    | nil => simp at h
    | cons y p =>
      simp only [setMany]
      rw [List.set_append_right _ _ (by omega), Nat.sub_self]
      simp only [List.set_cons_zero]
      have := setMany_all c p (r ++ [x]) (by simpa using h)
      simpa using this
theorem flatten_set {s : Nat} : ∀ (es : List (List AV)), (∀ e, e ∈ es → e.length = s) → ∀ (i : Nat) (c : List AV), c.length = s → i < es.length → (es.set i c).flatten = setMany es.flatten (i * s) c
  | [], _, i, c, _, h => by simp at h
  | e :: es, hs, i, c, hc, hi => by
    have h0 := hs e (by simp)
    cases i with
    | zero =>
      simp only [List.set_cons_zero, List.flatten_cons, Nat.zero_mul]
      rw [setMany_append_left c e es.flatten 0 (by omega)]
      have := setMany_all c e [] (by omega)
      simp at this
      rw [this]
    | succ i =>
      simp only [List.set_cons_succ, List.flatten_cons]
      rw [flatten_set es (fun e he => hs e (by simp [he])) i c hc (by simpa using hi)]
      rw [← setMany_append_right c e es.flatten (i * s)]
      congr 1
      rw [Nat.add_mul]; omega
theorem afillE_flat {env : AEnv} {s : Nat} : ∀ (parts : List (Nat × Operand)) (es es' : List (List AV)), (∀ e, e ∈ es → e.length = s) → afillE env s es parts = some es' →
    afill env es.flatten (parts.map fun p => (p.1 * s, s, p.2)) = some es'.flatten ∧ (∀ e, e ∈ es' → e.length = s) ∧ es'.length = es.length
  | [], es, es', hs, h => by cases h; exact ⟨rfl, hs, rfl⟩
  | (i, x) :: parts, es, es', hs, h => by
    simp only [afillE] at h
    split at h
    · rename_i v hv
      split at h
      · rename_i hc
        obtain ⟨c1, c2, c3⟩ := hc
        have hs' : ∀ e, e ∈ es.set i v.cells → e.length = s := by
          intro e he
          rcases List.mem_or_eq_of_mem_set he with he | rfl
          · exact hs e he
          · exact c1
        obtain ⟨q1, q2, q3⟩ := afillE_flat parts _ es' hs' h
        refine ⟨?_, q2, by simpa using q3⟩
        have hlen : i * s + s ≤ es.flatten.length := by
          rw [flatten_length es hs]
          have : (i + 1) * s ≤ es.length * s := Nat.mul_le_mul_right _ c2
          rw [Nat.add_mul] at this; omega
        simp only [List.map_cons, afill, hv, c1, c3, hlen, and_self, if_true]
        rw [← flatten_set es hs i v.cells c1 c2]
        exact q1
      · cases h
    · cases h
section
variable {P : Program} {n : Nat} {w : World} {m : AMap} {H : AHeap} {B : Nat} {env : AEnv} {a : Act} {o : Oper} {r : QR}
theorem RL_zeros {z : List AV} {zc : Array Value} {s : Nat} (h : RL w m H B z zc) (hz : z.length = s) (hs : 0 < s) (k : Nat) : RL w m H B (List.replicate k z).flatten ((Array.range (k * s)).map fun i => zc[i % zc.size]!) := by
  have hu : ∀ e, e ∈ List.replicate k z → e.length = s := by intro e he; rw [List.eq_of_mem_replicate he]; exact hz
  have hlen := flatten_length (List.replicate k z) hu
  simp only [List.length_replicate] at hlen
  have hsz : zc.size = s := by have := h.1; omega
  refine ⟨by simp [hlen], fun x hx => ?_, fun i x v e1 e2 => ?_⟩
  · obtain ⟨e, he, hx⟩ := List.mem_flatten.1 hx
    rw [List.eq_of_mem_replicate he] at hx
    exact h.2.1 x hx
  · have hi : i < k * s := by
      rcases Nat.lt_or_ge i (k * s) with h' | h'
      · exact h'
      · rw [List.getElem?_eq_none (by omega)] at e1; cases e1
    have hq : i / s < k := Nat.div_lt_of_lt_mul (by rwa [Nat.mul_comm] at hi)
    have hr : i % s < s := Nat.mod_lt _ hs
    have hdm : i / s * s + i % s = i := by rw [Nat.mul_comm]; exact Nat.div_add_mod i s
    have hg := flatten_get (List.replicate k z) hu (i / s) z (i % s) (z[i % s]'(by omega)) (by simp [hq]) (List.getElem?_eq_getElem _)
    rw [hdm, e1] at hg
    cases hg
    have : v = zc[i % s]'(by omega) := by
      simp [hi, hsz] at e2
      rw [← e2]
      rw [getElem!_pos zc (i % s) (by omega)]
    rw [this]
    exact h.2.2 (i % s) _ _ (List.getElem?_eq_getElem _) (Array.getElem?_eq_getElem _)
theorem arr_cells {es : List (List AV)} {s : Nat} {vs : Array Value} (hs : ∀ e, e ∈ es → e.length = s) (h : RL w m H B es.flatten vs) : ∀ (i : Nat) (el : List AV) (j : Nat) (x : AV), es[i]? = some el → el[j]? = some x → ∃ v, vs[i * s + j]? = some v ∧ RV w m H B x v ∧ x.one = true := by
  intro i el j x h1 h2
  have hg := flatten_get es hs i el j x h1 h2
  have hlt : i * s + j < vs.size := by
    rcases Nat.lt_or_ge (i * s + j) vs.size with h' | h'
    · exact h'
    · rw [List.getElem?_eq_none (by rw [h.1]; exact h')] at hg; cases hg
  exact ⟨vs[i * s + j], Array.getElem?_eq_getElem hlt, h.2.2 _ x _ hg (Array.getElem?_eq_getElem hlt), h.2.1 x (List.mem_of_getElem? hg)⟩
theorem zero_RL {z : Value} {x : AV} (hc : cst z = some x) (h1 : x.cells.all AV.one = true) : RL w m H B x.cells z.cells := by
  have hx := cst_sound (w := w) (m := m) (H := H) (B := B) hc
  have ht : ∀ l, x ≠ .tuple l := by
    intro l e; subst e; simp [AV.cells, AV.one] at h1
  exact hx.cells ht
theorem q_mklit {t e : TypeId} {i : TypeInfo} {z : Value} {x : AV} {len : Nat} {parts : Array (Nat × Operand)} (ht : P.underlying t = some (.slice e)) (hi : P.info? e = some i) (hz : i.zero = some z) (hc : cst z = some x) (h1 : x.cells.all AV.one = true) (hs : 0 < i.size) (hbig : len * i.size ≤ 16777216)
    (ho : o.op = .buildSlice t len parts) (fr : FR n w m H B env a) (h : qstep (.mklit e i.size len x.cells parts.toList) env H = some r) : QOK P o a w m H B r := by
  simp only [qstep] at h
  split at h
  · rename_i hl
    obtain ⟨hl, hn⟩ := hl
    split at h
    · rename_i es hes
      cases h
      rcases Nat.eq_zero_or_pos len with hz0 | hpos
      · subst hz0
        have hp : parts.toList = [] := by
          cases hp : parts.toList with
          | nil => rfl
          | cons q qs =>
            rw [hp] at hes
            obtain ⟨k, xo⟩ := q
            simp only [afillE] at hes
            split at hes
            · rw [if_neg (by simp)] at hes; cases hes
            · cases hes
        rw [hp] at hes
        have he : es = [] := by simpa [afillE] using hes.symm
        subst he
        have hpa : parts = #[] := by cases parts; simp_all
        subst hpa
        refine ⟨by simp, #[], 0, ?_, Nat.le_refl _, by unfold maxLen; omega, by simp, by simp⟩
        simp only [execOp, ho, Instr.buildSlice, Sem.run_bind, run_underlying ht, Result.andThen_ok, run_sizeOf' hi, Nat.zero_mul, show ¬ 0 > 2 ^ 24 by decide, if_false, if_true, Sem.run_pure, Instr.fill, Array.map_empty, show Array.range 0 = #[] by simp, newRow, run_newObj, World.alloc, List.length_nil]
      have hu : ∀ e, e ∈ List.replicate len x.cells → e.length = i.size := by intro e he; rw [List.eq_of_mem_replicate he]; exact hl
      obtain ⟨q1, q2, q3⟩ := afillE_flat parts.toList _ es hu hes
      have hz0 := RL_zeros (zero_RL (w := w) (m := m) (H := H) (B := B) hc h1) hl hs len
      obtain ⟨us, f1, f2⟩ := fill_sound fr (fun k => some (k * i.size, i.size)) parts.toList _ _ _ _ hz0 (by simp) (fun k p q e1 e2 => by
        rw [List.getElem?_map, e1] at e2
        cases e2
        exact ⟨rfl, rfl⟩) q1
      have hlen : es.length = len := by simpa using q3
      refine ⟨q2, us, len, ?_, by omega, by unfold maxLen; omega, by rw [← f2.1, flatten_length es q2, hlen], arr_cells q2 f2⟩
      have hf1 : Instr.fill (fun k => some (k * i.size, i.size)) ((Array.range (len * i.size)).map fun k => z.cells[k % z.cells.size]!) (parts.map fun p => (p.1, a.eval p.2)).toList = some us := by simpa using f1
      have hb : ¬ len * i.size > 2 ^ 24 := by omega
      have h0 : ¬ len * i.size = 0 := by
        intro h0
        rcases Nat.mul_eq_zero.1 h0 with h | h <;> omega
      rw [hlen]
      simp only [execOp, ho, Instr.buildSlice, Sem.run_bind, run_underlying ht, Result.andThen_ok, run_sizeOf' hi, Sem.run_ite, hb, if_false, Sem.run_pure, h0, zeroValue, typeInfo, run_program, hi, hz, hf1, newRow, run_newObj, World.alloc]
    · cases h
  · cases h
theorem q_mkslice {t e : TypeId} {i : TypeInfo} {z : Value} {x : AV} {l c : Operand} (ht : P.underlying t = some (.slice e)) (hi : P.info? e = some i) (hz : i.zero = some z) (hc : cst z = some x) (h1 : x.cells.all AV.one = true) (hs : 0 < i.size)
    (ho : o.op = .makeSlice t l c) (fr : FR n w m H B env a) (h : qstep (.mkslice e i.size i.bytes x.cells l c) env H = some r) : QOK P o a w m H B r := by
  simp only [qstep] at h
  split at h
  · rename_i kl lz kc cz hlv hcv
    split at h
    · rename_i hh
      obtain ⟨g1, g2, g3, g4, g5⟩ := hh
      cases h
      have hx := ev_sound fr hlv
      have hy := ev_sound fr hcv
      generalize he : a.eval l = u at hx
      generalize hf : a.eval c = v at hy
      cases hx; cases hy
      have hrl := RL_zeros (zero_RL (w := w) (m := m) (H := H) (B := B) hc h1) g1 hs cz.toNat
      have hu : ∀ (k : Nat) e, e ∈ List.replicate k x.cells → e.length = i.size := by intro k e he; rw [List.eq_of_mem_replicate he]; exact g1
      refine ⟨hu _, madeCells z.cells (cz.toNat * i.size), cz.toNat, ?_, by simp; omega, by unfold maxLen; omega, ?_, fun k el j y e1 e2 => ?_⟩
      · have := run_make (P := P) w t e i z ht hi hz kl kc lz cz g2 g3 g4 g5
        simp only [execOp, ho, he, hf, Sem.run_bind, this, Result.andThen_ok, Sem.run_pure, List.length_replicate]
      · rw [size_madeCells]
      · have hk : k < cz.toNat := by
          rcases Nat.lt_or_ge k lz.toNat with h' | h'
          · omega
          · rw [List.getElem?_eq_none (by simpa using h')] at e1; cases e1
        have e1' : (List.replicate cz.toNat x.cells)[k]? = some el := by
          rw [List.getElem?_replicate] at e1 ⊢
          split at e1
          · rw [if_pos hk]; exact e1
          · cases e1
        exact arr_cells (hu _) hrl k el j y e1' e2
    · cases h
  · cases h
end
end Go.Awp
/- The truth of quiet operations in the model: all of them. Generic in the program. -/
namespace Go.Awp
set_option linter.unusedSectionVars false
variable [Fx]
section
variable {P : Program} {n : Nat} {w : World} {m : AMap} {H : AHeap} {B : Nat} {env : AEnv} {a : Act} {o : Oper} {r : QR} {io : IOp}
theorem qstep_sound1 (htr : trOp1 P o = some io) (st : St w m H B) (fr : FR n w m H B env a) (h : qstep io env H = some r) : QOK P o a w m H B r := by
  unfold trOp1 at htr
  split at htr
  · cases htr; exact q_mv (.inl ‹_›) fr h
  · cases htr; exact q_mv (.inr ‹_›) fr h
  · cases htr; exact q_pick ‹_› fr h
  · split at htr
    · cases htr; exact q_load ‹_› ‹_› ‹_› st fr h
    · cases htr
  · split at htr
    · cases htr; exact q_box ‹_› fr h
    · cases htr
  · split at htr
    · split at htr
      · split at htr
        · split at htr
          · cases htr; exact q_zero ‹_› ‹_› ‹_› ‹_› ‹_› h
          · cases htr
        · cases htr
      · cases htr
    · cases htr
  · split at htr
    · split at htr
      · split at htr
        · split at htr
          · rename_i hall
            cases htr
            refine q_build ‹_› ‹_› ‹_› ‹_› ‹_› (fun f hf => ?_) ‹_› fr h
            have := List.all_eq_true.1 hall f (by simpa using hf)
            exact Option.isSome_iff_exists.1 this
          · cases htr
        · cases htr
      · cases htr
    · split at htr
      · split at htr
        · cases htr
          rename_i hob _ _ _ _ _ hi ht _ _ _ _ hz hj _ _ hc
          exact q_buildA hi ht hz hj hc hob fr h
        · cases htr
      · cases htr
    · cases htr
  · split at htr
    · split at htr
      · split at htr
        · cases htr; simp [qstep] at h
        · cases htr
      · cases htr
    · cases htr
  · split at htr
    · split at htr
      · split at htr
        · split at htr
          · split at htr
            · rename_i hc
              obtain ⟨h1, h2, h3⟩ := hc
              cases htr; exact q_mklit ‹_› ‹_› ‹_› ‹_› h1 h2 h3 ‹_› fr h
            · cases htr
          · cases htr
        · cases htr
      · cases htr
    · cases htr
  · split at htr
    · split at htr
      · split at htr
        · split at htr
          · split at htr
            · rename_i hc
              cases htr; exact q_mkslice ‹_› ‹_› ‹_› ‹_› hc.1 hc.2 ‹_› fr h
            · cases htr
          · cases htr
        · cases htr
      · cases htr
    · cases htr
  · split at htr
    · split at htr
      · split at htr
        · split at htr
          · cases htr
          · cases htr; exact q_faddr ‹_› ‹_› ‹_› ‹_› ‹_› fr h
        · cases htr
      · cases htr
    · cases htr
  · split at htr
    · split at htr
      · split at htr
        · cases htr; exact q_field ‹_› ‹_› ‹_› ‹_› ‹_› fr h
        · cases htr
      · cases htr
    · cases htr
  · split at htr
    · split at htr
      · cases htr; exact q_iaddr ‹_› ‹_› ‹_› fr h
      · cases htr
    · split at htr
      · cases htr; exact q_iaddrA ‹_› ‹_› ‹_› fr h
      · cases htr
    · cases htr
  · split at htr
    · split at htr
      · cases htr; exact q_indexA ‹_› ‹_› ‹_› ‹_› fr h
      · cases htr
    · cases htr; exact q_indexS ‹_› ‹_› fr h
    · cases htr
  · split at htr
    · split at htr
      · cases htr; exact q_slice ‹_› ‹_› ‹_› st fr h
      · cases htr
    · cases htr; exact q_sliceS ‹_› ‹_› fr h
    · split at htr
      · cases htr; exact q_sliceA ‹_› ‹_› ‹_› fr h
      · cases htr
    · cases htr
  · split at htr
    · split at htr
      · cases htr; exact q_slice0 ‹_› ‹_› ‹_› fr h
      · cases htr
    · cases htr
  · split at htr
    · split at htr
      · cases htr; exact q_slice3 ‹_› ‹_› ‹_› fr h
      · cases htr
    · cases htr
  · cases htr; exact q_extract ‹_› fr h
  · cases htr; exact q_un ‹_› fr h
  · split at htr
    · cases htr; exact q_bin ‹_› fr h
    · cases htr; exact q_bin ‹_› fr h
    · split at htr
      · cases htr; exact q_binB (neg := false) ‹_› ‹_› fr h
      · cases htr; exact q_binB (neg := true) ‹_› ‹_› fr h
      · cases htr
    · split at htr
      · cases htr; simp [qstep] at h
      · cases htr; simp [qstep] at h
      · cases htr
    · split at htr
      · split at htr
        · split at htr
          · cases htr; exact q_eqA (neg := false) ‹_› ‹_› ‹_› ‹_› fr h
          · cases htr; exact q_eqA (neg := true) ‹_› ‹_› ‹_› ‹_› fr h
          · cases htr
        · cases htr
      · cases htr
    · cases htr
  · split at htr
    · cases htr
      rename_i hob _ _ _ _ hs hd
      exact q_conv hs hd hob fr h
    · cases htr
  · split at htr
    · cases htr; exact q_iface ‹_› ‹_› fr h
    · cases htr
  · cases htr; exact q_mkfun ‹_› fr h
  · cases htr; exact q_nilchk ‹_› fr h
  · split at htr
    · cases htr; simp [qstep] at h
    · cases htr
  · rename_i b args ts hop
    split at htr
    · rename_i x t ha ht
      have ha' : args = #[x] := by cases args; simp_all
      have ht' : ts = #[t] := by cases ts; simp_all
      subst ha'; subst ht'
      split at htr
      · cases htr; exact q_len ‹_› ‹_› fr h
      · cases htr; exact q_lenS ‹_› ‹_› fr h
      · cases htr
    · cases htr; exact q_mm (mx := true) (by simpa using hop) fr h
    · cases htr; exact q_mm (mx := false) (by simpa using hop) fr h
    · split at htr
      · split at htr
        · split at htr
          · split at htr
            · split at htr
              · cases htr; simp [qstep] at h
              · cases htr
            · cases htr
          · cases htr
        · cases htr
      · cases htr
    · split at htr
      · split at htr
        · split at htr
          · cases htr; simp [qstep] at h
          · cases htr
        · cases htr
      · cases htr
    · split at htr
      · split at htr
        · split at htr
          · split at htr
            · split at htr
              · cases htr; simp [qstep] at h
              · cases htr
            · cases htr
          · cases htr
        · cases htr
      · cases htr
    · cases htr
  · cases htr; simp [qstep] at h
  · cases htr; simp [qstep] at h
  · cases htr; simp [qstep] at h
  · cases htr
end
end Go.Awp
/- The truth of quiet operations in the model: maps that are looked up, pairs that are compared, nil. Generic in the program. -/
namespace Go.Awp
set_option linter.unusedSectionVars false
set_option linter.unusedVariables false
set_option linter.unusedSimpArgs false
variable [Fx]
section
variable {P : Program} {n : Nat} {w : World} {m : AMap} {H : AHeap} {B : Nat} {env : AEnv} {a : Act} {o : Oper} {r : QR} {io : IOp}
theorem RV.simV {w m H B} {x : AV} {v : Value} (h : RV w m H B x v) (hs : x.simp1 = true) : v = simV x := by
  cases h <;> first | rfl | cases hs
theorem RV.ofSimp {w m H B} {x : AV} (hs : x.simp1 = true) : RV w m H B x (Awp.simV x) := by
  cases x <;> first | constructor | cases hs
/-- Equality of two pairs of numbers. -/
theorem run_equal_pair {t e : TypeId} {kk : IntKind} {i : TypeInfo} (ht : P.underlying t = some (.array 2 e)) (he : P.underlying e = some (.int kk)) (hi : P.info? e = some i) (hs : i.size = 1) (d : Nat) {xs ys : Array Value} {k l : IntKind} {a b c f : Int} (h1 : xs[0]? = some (.int k a)) (h2 : xs[1]? = some (.int l c)) (h3 : ys[0]? = some (.int k b)) (h4 : ys[1]? = some (.int l f)) (w : World) :
    (Op.equalIn (d + 2) t (.agg xs) (.agg ys)).run P w = .ok ((a == b) && (c == f)) w := by
  have hc : P.cellsOf e = 1 := by simp [Program.cellsOf, hi, hs]
  have hagg : ∀ w, (isAgg e).run P w = .ok false w := fun w => run_isAgg he
  rw [run_equalIn_array w (d + 1) _ _ ht hi]
  have hr : List.range 2 = [0, 1] := rfl
  rw [hr, hc]
  by_cases hab : a = b
  · subst hab
    by_cases hcf : c = f
    · subst hcf
      simp [Op.eqItems, part, hagg, h1, h2, h3, h4, run_equalIn_int w d e _ _ _ _ he]
    · simp [Op.eqItems, part, hagg, h1, h2, h3, h4, run_equalIn_int w d e _ _ _ _ he, hcf]
  · simp [Op.eqItems, part, hagg, h1, h2, h3, h4, run_equalIn_int w d e _ _ _ _ he, hab]
theorem eqGuardType_pair {t e : TypeId} {kk : IntKind} (ht : P.underlying t = some (.array 2 e)) (he : P.underlying e = some (.int kk)) : ∀ d, 2 ≤ d → P.eqGuardType d t = false
  | d + 2, _ => by simp [Program.eqGuardType, ht, he]
theorem depth_ge : 2 ≤ P.depth := by unfold Program.depth; simp [Made.depth]
theorem q_eqP {neg : Bool} {t u e : TypeId} {kk : IntKind} {i : TypeInfo} {x y : Operand} (ht : P.underlying t = some (.array 2 e)) (he : P.underlying e = some (.int kk)) (hi : P.info? e = some i) (hs : i.size = 1) (ho : o.op = .binOp (if neg then .neq else .eql) t x y u) (fr : FR n w m H B env a)
    (h : qstep (.eqA neg [(0, 0), (0, 1)] x y) env H = some r) : QOK P o a w m H B r := by
  simp only [qstep] at h
  split at h
  · rename_i p q hp hq
    split at h
    · rename_i b hb
      cases h
      have hx := ev_sound fr hp
      have hy := ev_sound fr hq
      simp only [aeqO] at hb
      generalize hev : a.eval x = u at hx
      generalize hev' : a.eval y = v at hy
      have key : ∃ us vs, u = .agg us ∧ v = .agg vs ∧ ∀ w, (Op.equalIn 10000 t (.agg us) (.agg vs)).run P w = .ok b w := by
        cases hx with
        | agg _ us hl h1 hh =>
          cases hy with
          | agg _ vs hl' h1' hh' =>
            refine ⟨us, vs, rfl, rfl, fun w1 => ?_⟩
            split at hb
            · rename_i hb1
              split at hb
              · rename_i k0 x0 k0' y0 e1 e2
                split at hb
                · rename_i hk
                  subst hk
                  cases hb
                  split at hb1
                  · rename_i k1 x1 k1' y1 e3 e4
                    split at hb1
                    · rename_i hk
                      subst hk
                      cases hb1
                      have get : ∀ (l : List AV) (ws : Array Value), l.length = ws.size → (∀ (i : Nat) (x : AV) (v : Value), l[i]? = some x → ws[i]? = some v → RV w m H B x v) → ∀ (i : Nat) k z, l[i]? = some (.int k z) → ws[i]? = some (.int k z) := by
                        intro l ws hlen hrv i k z hi
                        have hlt : i < ws.size := by
                          have := (List.getElem?_eq_some_iff.1 hi).1
                          omega
                        have := hrv i _ _ hi (Array.getElem?_eq_getElem hlt)
                        rw [Array.getElem?_eq_getElem hlt]
                        generalize ws[i] = q at this
                        cases this; rfl
                      have := run_equal_pair (P := P) ht he hi hs 9998 (get _ _ hl hh _ _ _ e1) (get _ _ hl hh _ _ _ e3) (get _ _ hl' hh' _ _ _ e2) (get _ _ hl' hh' _ _ _ e4) w1
                      rw [this, Bool.and_true]
                    · cases hb1
                  · omega
                  · omega
                  · cases hb1
                · cases hb
              · omega
              · omega
              · cases hb
            · cases hb
      obtain ⟨us, vs, rfl, rfl, key⟩ := key
      have hgd := eqGuardType_pair ht he P.depth depth_ge
      cases neg
      · exact ⟨.bool b, by simp [execOp, ho, hev, hev', run_eqGuard_agg w _ t _ _ _ _ hgd, binOp, Op.equal, Op.maxDepth, key], .bool _⟩
      · exact ⟨.bool (!b), by simp [execOp, ho, hev, hev', run_eqGuard_agg w _ t _ _ _ _ hgd, binOp, Op.equal, Op.maxDepth, key], .bool _⟩
    · cases h
  · cases h
theorem run_eqGuard_constNil (op : BinOp) (t : TypeId) (x : Operand) (v : Value) (hv : v = .nilIface ∨ ∃ u q, v = .iface u q) : (eqGuard op t x (.const .nilIface) v .nilIface).run P w = .ok () w := by
  rcases hv with rfl | ⟨u, q, rfl⟩ <;> cases op <;> first | rfl | (cases x <;> rfl)
theorem q_isnilI {neg : Bool} {t u : TypeId} {x : Operand} {ms : Array (String × TypeId)} (ht : P.underlying t = some (.interface ms)) (ho : o.op = .binOp (if neg then .neq else .eql) t x (.const .nilIface) u) (fr : FR n w m H B env a)
    (h : qstep (.isnilI neg x) env H = some r) : QOK P o a w m H B r := by
  have hconst : a.eval (.const .nilIface) = .nilIface := rfl
  have hm : P.underlying t = some (.interface (P.methodsAt t)) := by rw [ht]; simp [Program.methodsAt, ht]
  simp only [qstep] at h
  split at h
  · rename_i hp
    cases h
    have hx := ev_sound fr hp
    generalize hev : a.eval x = v at hx
    cases hx
    cases neg
    · exact ⟨.bool true, by simp only [execOp, ho, hev, hconst, Bool.false_eq_true, if_false, Sem.run_bind, run_eqGuard_constNil _ _ _ _ (.inl rfl), Result.andThen_ok, run_eql_nil_nil w t hm, Sem.run_pure], .bool _⟩
    · exact ⟨.bool false, by simp only [execOp, ho, hev, hconst, if_true, Sem.run_bind, run_eqGuard_constNil _ _ _ _ (.inl rfl), Result.andThen_ok, run_neq_nil_nil w t hm, Sem.run_pure], .bool _⟩
  · rename_i ty z hp
    cases h
    have hx := ev_sound fr hp
    generalize hev : a.eval x = v at hx
    cases hx
    cases neg
    · exact ⟨.bool false, by simp only [execOp, ho, hev, hconst, Bool.false_eq_true, if_false, Sem.run_bind, run_eqGuard_constNil _ _ _ _ (.inr ⟨_, _, rfl⟩), Result.andThen_ok, run_eql_held_nil w t _ _ hm, Sem.run_pure], .bool _⟩
    · exact ⟨.bool true, by simp only [execOp, ho, hev, hconst, if_true, Sem.run_bind, run_eqGuard_constNil _ _ _ _ (.inr ⟨_, _, rfl⟩), Result.andThen_ok, run_neq_held_nil w t _ _ hm, Sem.run_pure], .bool _⟩
  · cases h
/-- What keys are, in the model. -/
def KeyV (P : Program) (k : TypeId) (n : Nat) : Prop := (n = 1 ∧ ∃ q, P.underlying k = some (.int q)) ∨ (n = 2 ∧ ∃ e q i, P.underlying k = some (.array 2 e) ∧ P.underlying e = some (.int q) ∧ P.info? e = some i ∧ i.size = 1)
theorem keyT_spec {k : TypeId} {n : Nat} (h : keyT P k = some n) : KeyV P k n := by
  unfold keyT at h
  split at h
  · cases h; exact .inl ⟨rfl, _, ‹_›⟩
  · split at h
    · split at h
      · cases h; exact .inr ⟨rfl, _, _, _, ‹_›, ‹_›, ‹_›, ‹_›⟩
      · cases h
    · cases h
  · cases h
theorem keyCells_val {nk : Nat} {x : AV} {ks : List AV} {K : Value} (h : keyCells nk x = some ks) (hx : RV w m H B x K) : K = keyV ks ∧ ((nk = 1 ∧ ∃ k a, ks = [.int k a]) ∨ (nk = 2 ∧ ∃ k a l b, ks = [.int k a, .int l b])) := by
  unfold keyCells at h
  split at h
  · split at h
    · cases h; cases hx; exact ⟨rfl, .inl ⟨‹_›, _, _, rfl⟩⟩
    · cases h
  · rename_i k a l b
    split at h
    · cases h
      cases hx with
      | agg _ vs hl h1 hh =>
        refine ⟨?_, .inr ⟨‹_›, _, _, _, _, rfl⟩⟩
        have hsz : vs.size = 2 := by simpa using hl.symm
        have e0 := hh 0 (.int k a) vs[0] rfl (Array.getElem?_eq_getElem (by omega))
        have e1 := hh 1 (.int l b) vs[1] rfl (Array.getElem?_eq_getElem (by omega))
        have e0' : vs[0] = .int k a := by generalize vs[0] = q at e0; cases e0; rfl
        have e1' : vs[1] = .int l b := by generalize vs[1] = q at e1; cases e1; rfl
        have : vs = #[.int k a, .int l b] := by
          apply Array.ext
          · simp [hsz]
          · intro i h1 h2
            match i, h2 with
            | 0, _ => simpa using e0'
            | 1, _ => simpa using e1'
        rw [this]; rfl
    · cases h
  · cases h
/-- What a search in a map yields. -/
def fnd (L : List MapEntry) (i : Nat) : Option Nat → Option (Nat × Value)
  | some j => (L[j]?).map fun e => (i + j, e.val)
  | none => none
theorem findNow_int (q k0 : IntKind) (a : Int) : ∀ (rows : List (List AV)) (L : List MapEntry) (i : Nat) (ix : Option Nat), midx [.int k0 a] rows = some ix → L.length = rows.length → (∀ (j : Nat) row e, rows[j]? = some row → L[j]? = some e → e.key = keyV row.dropLast) →
    Instr.findNow (.int q) (.int k0 a) L i = some (fnd L i ix)
  | [], [], i, ix, h, _, _ => by cases h; rfl
  | [], e :: L, i, ix, _, hl, _ => by simp at hl
  | row :: r, [], i, ix, _, hl, _ => by simp at hl
  | row :: r, e :: L, i, ix, h, hl, hk => by
    have hk0 := hk 0 row e rfl rfl
    simp only [midx] at h
    split at h
    · rename_i hq
      cases h
      unfold keyEqv at hq
      split at hq
      · rename_i k1 a1 k2 a2 e1 e2
        cases e1
        split at hq
        · rename_i hkk
          subst hkk
          rw [e2] at hk0
          have hab : a = a2 := by simpa using hq
          simp [Instr.findNow, hk0, keyV, simV, Instr.sameNow, hab, fnd]
        · cases hq
      · rename_i e1 _; cases e1
      · cases hq
    · rename_i hq
      have rest : ∀ ix', midx [.int k0 a] r = some ix' → Instr.findNow (.int q) (.int k0 a) L (i + 1) = some (fnd L (i + 1) ix') := fun ix' hx => findNow_int q k0 a r L (i + 1) ix' hx (by simpa using hl) fun j row' e' h1 h2 => hk (j + 1) row' e' h1 h2
      have hne : Instr.findNow (.int q) (.int k0 a) (e :: L) i = Instr.findNow (.int q) (.int k0 a) L (i + 1) := by
        unfold keyEqv at hq
        split at hq
        · rename_i k1 a1 k2 a2 e1 e2
          cases e1
          split at hq
          · rename_i hkk
            subst hkk
            rw [e2] at hk0
            have hab : (a == a2) = false := by simpa using hq
            simp only [Instr.findNow, hk0, keyV, simV, Instr.sameNow, if_true, hab]
          · cases hq
        · rename_i e1 _; cases e1
        · cases hq
      rw [hne]
      split at h
      · rename_i j hj
        cases h
        rw [rest _ hj]
        simp [fnd]; congr 1; funext e; congr 1; omega
      · rename_i hj
        cases h
        rw [rest _ hj]; rfl
      · cases h
    · cases h
theorem findAsk_pair {t e : TypeId} {kk : IntKind} {inf : TypeInfo} (ht : P.underlying t = some (.array 2 e)) (he : P.underlying e = some (.int kk)) (hi : P.info? e = some inf) (hs : inf.size = 1) (k l : IntKind) (a c : Int) (w : World) : ∀ (rows : List (List AV)) (L : List MapEntry) (i : Nat) (ix : Option Nat), midx [.int k a, .int l c] rows = some ix → L.length = rows.length → (∀ (j : Nat) row e, rows[j]? = some row → L[j]? = some e → e.key = keyV row.dropLast) →
    (Instr.findAsking t (.agg #[.int k a, .int l c]) L i).run P w = .ok (fnd L i ix) w
  | [], [], i, ix, h, _, _ => by cases h; rfl
  | [], e :: L, i, ix, _, hl, _ => by simp at hl
  | row :: r, [], i, ix, _, hl, _ => by simp at hl
  | row :: r, e0 :: L, i, ix, h, hl, hk => by
    have hk0 := hk 0 row e0 rfl rfl
    simp only [midx] at h
    have eqv : ∀ q, keyEqv [.int k a, .int l c] row.dropLast = some q → (Op.equal t (.agg #[.int k a, .int l c]) e0.key).run P w = .ok q w := by
      intro q hq
      unfold keyEqv at hq
      split at hq
      · rename_i e1 _; cases e1
      · rename_i k1 a1 l1 c1 k2 b2 l2 d2 e1 e2
        cases e1
        split at hq
        · rename_i hkk
          obtain ⟨h1, h2⟩ := hkk
          subst h1 h2
          cases hq
          rw [e2] at hk0
          rw [hk0]
          exact run_equal_pair (P := P) ht he hi hs 9998 (xs := #[.int k a, .int l c]) (ys := #[.int k b2, .int l d2]) rfl rfl rfl rfl w
        · cases hq
      · cases hq
    split at h
    · rename_i hq
      cases h
      simp [Instr.findAsking, eqv _ hq, fnd]
    · rename_i hq
      have rest : ∀ ix', midx [.int k a, .int l c] r = some ix' → (Instr.findAsking t (.agg #[.int k a, .int l c]) L (i + 1)).run P w = .ok (fnd L (i + 1) ix') w := fun ix' hx => findAsk_pair ht he hi hs k l a c w r L (i + 1) ix' hx (by simpa using hl) fun j row' e' h1 h2 => hk (j + 1) row' e' h1 h2
      have hne : (Instr.findAsking t (.agg #[.int k a, .int l c]) (e0 :: L) i).run P w = (Instr.findAsking t (.agg #[.int k a, .int l c]) L (i + 1)).run P w := by
        simp [Instr.findAsking, eqv _ hq]
      rw [hne]
      split at h
      · rename_i j hj
        cases h
        rw [rest _ hj]
        simp [fnd]; congr 1; funext e; congr 1; omega
      · rename_i hj
        cases h
        rw [rest _ hj]; rfl
      · cases h
    · cases h
/-- A search in a map by the rows that tell it. -/
theorem findKey_rows {kt : TypeId} {nk : Nat} (hkt : keyT P kt = some nk) {x : AV} {ks : List AV} {K : Value} (hc : keyCells nk x = some ks) (hx : RV w m H B x K) {rows : List (List AV)} {ix : Option Nat} (h : midx ks rows = some ix) {L : List MapEntry} (hl : L.length = rows.length) (hk : ∀ (j : Nat) row e, rows[j]? = some row → L[j]? = some e → e.key = keyV row.dropLast) (w' : World) :
    (Instr.findKey kt K L).run P w' = .ok (fnd L 0 ix) w' := by
  obtain ⟨rfl, hcase⟩ := keyCells_val hc hx
  rcases keyT_spec hkt with ⟨rfl, q, hq⟩ | ⟨rfl, e, q, i, ht, he, hi, hs⟩
  · rcases hcase with ⟨_, k, a, rfl⟩ | ⟨h1, _⟩
    · have := findNow_int q k a rows L 0 ix h hl hk
      simp only [Instr.findKey, Sem.run_bind, run_underlying hq, Result.andThen_ok, keyV, simV, this, Sem.run_pure]
    · cases h1
  · rcases hcase with ⟨h1, _⟩ | ⟨_, k, a, l, c, rfl⟩
    · cases h1
    · have := findAsk_pair ht he hi hs k l a c w' rows L 0 ix h hl hk
      simp only [Instr.findKey, Sem.run_bind, run_underlying ht, Result.andThen_ok, keyV, List.map_cons, List.map_nil, simV]
      cases L with
      | nil =>
        simp only [Instr.findNow, Sem.run_pure]
        have hr : rows = [] := List.eq_nil_of_length_eq_zero (by simpa using hl.symm)
        subst hr
        cases h; rfl
      | cons e0 L =>
        have : Instr.findNow (.array 2 e) (.agg #[.int k a, .int l c]) (e0 :: L) 0 = none := rfl
        rw [this]
        simpa using findAsk_pair ht he hi hs k l a c w' rows (e0 :: L) 0 ix h hl hk
theorem checkKey_int (d : Nat) {kt : TypeId} {q : IntKind} (hq : P.underlying kt = some (.int q)) (b : Bool) (k : IntKind) (a : Int) (w' : World) : (Instr.checkKey b (d + 1) kt (.int k a)).run P w' = .ok () w' := by
  simp [Instr.checkKey, run_underlying hq]
theorem checkKey_pair (d : Nat) {t e : TypeId} {kk : IntKind} {inf : TypeInfo} (ht : P.underlying t = some (.array 2 e)) (he : P.underlying e = some (.int kk)) (hi : P.info? e = some inf) (hs : inf.size = 1) (b : Bool) (k l : IntKind) (a c : Int) (w' : World) : (Instr.checkKey b (d + 2) t (.agg #[.int k a, .int l c])).run P w' = .ok () w' := by
  have hagg : ∀ w, (isAgg e).run P w = .ok false w := fun w => run_isAgg he
  have hsz : ∀ w, (sizeOf e).run P w = .ok 1 w := fun w => by rw [← hs]; exact run_sizeOf' hi
  have h0 : ∀ k a w, (Instr.checkKey b (d + 1) e (.int k a)).run P w = .ok () w := fun k a w => checkKey_int d he b k a w
  rw [show d + 2 = (d + 1) + 1 from rfl]
  generalize hD : d + 1 = D at h0
  simp only [Instr.checkKey, Sem.run_bind, run_underlying ht, Result.andThen_ok]
  simp [Std.Legacy.Range.forIn_eq_forIn_range', Std.Legacy.Range.size, List.range', part, hagg, hsz, h0]
theorem checkKey_ok {kt : TypeId} {nk : Nat} (hkt : keyT P kt = some nk) {x : AV} {ks : List AV} {K : Value} (hc : keyCells nk x = some ks) (hx : RV w m H B x K) (b : Bool) (w' : World) : (Instr.checkKey b 10000 kt K).run P w' = .ok () w' := by
  obtain ⟨rfl, hcase⟩ := keyCells_val hc hx
  rcases keyT_spec hkt with ⟨rfl, q, hq⟩ | ⟨rfl, e, q, i, ht, he, hi, hs⟩
  · rcases hcase with ⟨_, k, a, rfl⟩ | ⟨h1, _⟩
    · exact checkKey_int 9999 hq b k a w'
    · cases h1
  · rcases hcase with ⟨h1, _⟩ | ⟨_, k, a, l, c, rfl⟩
    · cases h1
    · exact checkKey_pair 9998 ht he hi hs b k l a c w'
theorem mapEs_list (rows : List (List AV)) : (mapEs rows).toList = rows.mapIdx mapEnt := by simp [mapEs]
theorem mapEs_length (rows : List (List AV)) : (mapEs rows).toList.length = rows.length := by simp [mapEs]
theorem mapEs_get {rows : List (List AV)} {j : Nat} {row : List AV} (h : rows[j]? = some row) : (mapEs rows).toList[j]? = some (mapEnt j row) := by
  rw [mapEs_list, List.getElem?_mapIdx, h]; rfl
theorem mapEs_keys {rows : List (List AV)} : ∀ (j : Nat) row e, rows[j]? = some row → (mapEs rows).toList[j]? = some e → e.key = keyV row.dropLast := by
  intro j row e h1 h2
  rw [mapEs_get h1] at h2
  cases h2; rfl
theorem q_lookup {t kt e : TypeId} {nk : Nat} {i : TypeInfo} {z : Value} {y : AV} {ok : Bool} {x k : Operand} (ht : P.underlying t = some (.map kt e)) (hk : keyT P kt = some nk) (hi : P.info? e = some i) (hz : i.zero = some z) (hy : cst1 z = some y) (hs : y.simp1 = true) (ho : o.op = .lookup t x k ok)
    (st : St w m H B) (fr : FR n w m H B env a) (h : qstep (.lookup ok y nk x k) env H = some r) : QOK P o a w m H B r := by
  simp only [qstep] at h
  split at h
  · rename_i xa ka hxa hka
    split at h
    · rename_i ks hks
      have hx := ev_sound fr hxa
      have hkv := ev_sound fr hka
      generalize hev : a.eval x = xv at hx
      generalize hev' : a.eval k = K at hkv
      have hzy := (cst1_sound (w := w) (m := m) (H := H) (B := B) hy).1
      have hrows : ∀ u, alookup H xa ks = some u → ∃ b rows, xv = .map (some b) ∧ w.heap[b]? = some (.map (mapEs rows) rows.length) ∧ mfind ks rows = some u := by
        intro u hu
        unfold alookup at hu
        split at hu
        · rename_i h'
          split at hu
          · rename_i o' ho'
            cases hx with
            | map _ b hh hv =>
              obtain ⟨g1, g2, g3, o1, g4, g5⟩ := st.domP h' b (hv o' ho')
              rw [ho'] at g4; cases g4
              exact ⟨b, _, rfl, g5, hu⟩
          · cases hu
        · rename_i rows
          cases hx with
          | mapR _ b hb hlt hc => exact ⟨b, rows, rfl, hc, hu⟩
        · cases hu
      have hzero : ∀ w', (zeroValue e).run P w' = .ok z w' := fun w' => by simp [zeroValue, typeInfo, hi, hz]
      have hlook : ∀ b rows ix, w.heap[b]? = some (.map (mapEs rows) rows.length) → midx ks rows = some ix → (Instr.lookup t (.map (some b)) K ok).run P w = .ok (match fnd (mapEs rows).toList 0 ix with | some (_, v) => if ok then .tuple #[v, .bool true] else v | none => if ok then .tuple #[z, .bool false] else z) w := by
        intro b rows ix hb hix
        have hf := findKey_rows hk hks hkv hix (mapEs_length rows) mapEs_keys w
        have hck := fun bb => checkKey_ok hk hks hkv bb w
        cases hfn : fnd (mapEs rows).toList 0 ix with
        | none => cases ok <;> simp [Instr.lookup, run_underlying ht, MapKept.run_getObj_map hb, hck, hf, hfn, hzero, Result.andThen]
        | some p =>
          obtain ⟨p1, p2⟩ := p
          cases ok <;> simp [Instr.lookup, run_underlying ht, MapKept.run_getObj_map hb, hck, hf, hfn, hzero, Result.andThen]
      have tup : ∀ (p : AV) (v : Value) (b : Bool), RV w m H B p v → RV w m H B (.tuple [p, .bool b]) (.tuple #[v, .bool b]) := by
        intro p v b hp
        refine .tuple _ _ rfl fun i x v' h1 h2 => ?_
        match i with
        | 0 => simp at h1 h2; subst h1; subst h2; exact hp
        | 1 => simp at h1 h2; subst h1; subst h2; exact .bool _
        | i + 2 => simp at h1
      split at h
      · rename_i v hv
        cases h
        obtain ⟨b, rows, rfl, hb, hm⟩ := hrows _ hv
        unfold mfind at hm
        split at hm
        · rename_i j hj
          split at hm
          · rename_i row hrow
            split at hm
            · rename_i v' hv'
              split at hm
              · rename_i hsv
                cases hm
                have hl := hlook b rows _ hb hj
                have hval : (mapEnt j row).val = simV v := by
                  simp only [mapEnt, List.getLastD_eq_getLast?, hv', Option.getD_some]
                simp only [fnd, mapEs_get hrow, Option.map_some, hval] at hl
                cases ok
                · exact ⟨simV v, by (simp [execOp, ho, hev, hev']; simpa using congrArg (fun r => r.andThen fun a w' => Result.ok (Next.value a) w') hl), RV.ofSimp hsv⟩
                · exact ⟨.tuple #[simV v, .bool true], by (simp [execOp, ho, hev, hev']; simpa using congrArg (fun r => r.andThen fun a w' => Result.ok (Next.value a) w') hl), tup _ _ _ (RV.ofSimp hsv)⟩
              · cases hm
            · cases hm
          · cases hm
        · cases hm
        · cases hm
      · rename_i hv
        cases h
        obtain ⟨b, rows, rfl, hb, hm⟩ := hrows _ hv
        unfold mfind at hm
        split at hm
        · rename_i j hj
          split at hm
          · split at hm
            · split at hm
              · cases hm
              · cases hm
            · cases hm
          · cases hm
        · rename_i hj
          have hl := hlook b rows _ hb hj
          simp only [fnd] at hl
          cases ok
          · exact ⟨z, by (simp [execOp, ho, hev, hev']; simpa using congrArg (fun r => r.andThen fun a w' => Result.ok (Next.value a) w') hl), hzy⟩
          · exact ⟨.tuple #[z, .bool false], by (simp [execOp, ho, hev, hev']; simpa using congrArg (fun r => r.andThen fun a w' => Result.ok (Next.value a) w') hl), tup _ _ _ hzy⟩
        · cases hm
      · cases h
    · cases h
  · cases h
theorem qstep_sound (htr : trOp P o = some io) (st : St w m H B) (fr : FR n w m H B env a) (h : qstep io env H = some r) : QOK P o a w m H B r := by
  unfold trOp at htr
  split at htr
  · rename_i h1; cases htr; exact qstep_sound1 h1 st fr h
  · unfold trOp2 at htr
    split at htr
    · rename_i hop
      repeat' (split at htr)
      all_goals (first | (cases htr; done) | (cases htr; simp [qstep] at h))
    · rename_i hop
      split at htr
      · rename_i hu
        split at htr
        · cases htr; exact q_isnilI (neg := false) hu hop fr h
        · cases htr; exact q_isnilI (neg := true) hu hop fr h
        · cases htr
      · rename_i hu
        split at htr
        · rename_i he hi
          split at htr
          · rename_i hs
            split at htr
            · cases htr; exact q_eqP (neg := false) hu he hi hs hop fr h
            · cases htr; exact q_eqP (neg := true) hu he hi hs hop fr h
            · cases htr
          · cases htr
        · cases htr
      · cases htr
    · repeat' (split at htr)
      all_goals (first | (cases htr; done) | (cases htr; simp [qstep] at h))
    · repeat' (split at htr)
      all_goals (first | (cases htr; done) | (cases htr; simp [qstep] at h))
    · rename_i hop
      split at htr
      · rename_i hu
        split at htr
        · rename_i hk hi
          split at htr
          · rename_i hz
            split at htr
            · rename_i hy
              split at htr
              · rename_i hs
                cases htr
                exact q_lookup hu hk hi hz hy hs hop st fr h
              · cases htr
            · cases htr
          · cases htr
        · cases htr
      · cases htr
    · cases htr
end
end Go.Awp
/- How what is known of the activation's own objects is carried on. Generic in the program. -/
namespace Go.Awp
set_option linter.unusedSectionVars false
variable [Fx]
theorem St.mlt {w m H B} (st : St w m H B) {h b : Nat} (e : m h = some b) : h < H.length := by
  obtain ⟨_, _, o, _, e1, _⟩ := st.dom h b e
  exact AHeap.obj_lt e1
theorem St.mltP {w m H B} (st : St w m H B) {h b : Nat} (e : m (.p h) = some b) : h < H.length := by
  obtain ⟨_, _, _, o, e1, _⟩ := st.domP h b e
  exact AHeap.obj_lt e1
theorem St.noP {w m H B} (st : St w m H B) {h b : Nat} (e : m h = some b) : m (.p h) = none := by
  cases hp : m (.p h) with
  | none => rfl
  | some b' =>
    have := (st.domP h b' hp).2.2.1
    rw [e] at this; cases this
theorem St.fresh {w m H B} (st : St w m H B) : m H.length = none ∧ m (.p H.length) = none := by
  constructor
  · cases hm : m H.length with
    | none => rfl
    | some b => exact absurd (st.mlt hm) (Nat.lt_irrefl _)
  · cases hm : m (.p H.length) with
    | none => rfl
    | some b => exact absurd (st.mltP hm) (Nat.lt_irrefl _)
theorem St.push {w m H B} (st : St w m H B) (X : AHeap) : St w m (H ++ X) B ∧ Adv w m H w m (H ++ X) := by
  have ad : Adv w m H w m (H ++ X) := by
    refine ⟨rfl, rfl, rfl, Nat.le_refl _, fun _ _ _ => rfl, fun _ _ h => .inl h, by simp, fun h o' hh e => ?_⟩
    rw [AHeap.obj_push_lt hh] at e
    exact ⟨o', e, rfl, rfl, Nat.le_refl _, fun _ _ h => ⟨h, rfl⟩, fun _ h => h⟩
  refine ⟨⟨st.base, fun h b e => ?_, fun h b e => ?_, st.inj, st.fxa ad⟩, ad⟩
  case refine_2 =>
    obtain ⟨h1, h2, h3, o, e1, e2⟩ := st.domP h b e
    exact ⟨h1, h2, h3, o, by rw [AHeap.obj_push_lt (st.mltP e)]; exact e1, e2⟩
  obtain ⟨h1, h2, o, cs, e1, e2, e3, e4⟩ := st.dom h b e
  refine ⟨h1, h2, o, cs, by rw [AHeap.obj_push_lt (st.mlt e)]; exact e1, e2, e3, fun i el j x a1 a2 => ?_⟩
  obtain ⟨v, q1, q2, q3⟩ := e4 i el j x a1 a2
  exact ⟨v, q1, q2.mono ad, q3⟩
def AMap.without (m : AMap) (h : Nat) : AMap := fun k => if k = .o h then none else m k
def AMap.upd (m : AMap) (h b : Nat) : AMap := fun k => if k = .o h then some b else m k
theorem AMap.without_p {m : AMap} {h k : Nat} : AMap.without m h (.p k) = m (.p k) := by simp [AMap.without]
theorem AMap.upd_p {m : AMap} {h b k : Nat} : AMap.upd m h b (.p k) = m (.p k) := by simp [AMap.upd]
theorem St.drop {w m H B} (st : St w m H B) {h : Nat} {o : AObj} (ho : AHeap.obj H h = some o) (o' : Option AObj) (hc : ∀ o1, o' = some o1 → o1.s = o.s ∧ o1.e = o.e ∧ o.elems.length < o1.elems.length) (hp : m (.p h) = none) :
    St w (AMap.without m h) (H.set h o') B ∧ Adv w m H w (AMap.without m h) (H.set h o') := by
  have hlt := AHeap.obj_lt ho
  have ad : Adv w m H w (AMap.without m h) (H.set h o') := by
    refine ⟨rfl, rfl, rfl, Nat.le_refl _, fun _ _ _ => rfl, fun k b e => ?_, by simp, fun k o1 hk e => ?_⟩
    · unfold AMap.without at e
      split at e
      · cases e
      · exact .inl e
    · by_cases hkh : k = h
      · subst hkh
        rw [AHeap.obj_set_eq hlt] at e
        obtain ⟨c1, c2, c3⟩ := hc o1 e
        exact ⟨o, ho, c1, c2, by omega, fun e => by omega, fun b e => by rw [AMap.without_p]; exact e⟩
      · rw [AHeap.obj_set_ne (Ne.symm hkh)] at e
        exact ⟨o1, e, rfl, rfl, Nat.le_refl _, fun _ b e => ⟨by simp [AMap.without, hkh, e], rfl⟩, fun b e => by rw [AMap.without_p]; exact e⟩
  refine ⟨⟨st.base, fun k b e => ?_, fun k b e => ?_, fun k k' b e e' => ?_, st.fxa ad⟩, ad⟩
  case refine_2 =>
    rw [AMap.without_p] at e
    obtain ⟨h1, h2, h3, o1, e1, e2⟩ := st.domP k b e
    have hkh : k ≠ h := by intro e'; subst e'; rw [hp] at e; cases e
    exact ⟨h1, h2, by simp [AMap.without, hkh, h3], o1, by rw [AHeap.obj_set_ne (Ne.symm hkh)]; exact e1, e2⟩
  · unfold AMap.without at e
    split at e
    · cases e
    · rename_i hkh
      have hkh : k ≠ h := fun e => hkh (by rw [e])
      obtain ⟨h1, h2, o1, cs, e1, e2, e3, e4⟩ := st.dom k b e
      refine ⟨h1, h2, o1, cs, by rw [AHeap.obj_set_ne (Ne.symm hkh)]; exact e1, e2, e3, fun i el j x a1 a2 => ?_⟩
      obtain ⟨v, q1, q2, q3⟩ := e4 i el j x a1 a2
      exact ⟨v, q1, q2.mono ad, q3⟩
  · unfold AMap.without at e e'
    split at e
    · cases e
    · split at e'
      · cases e'
      · exact st.inj k k' b e e'
theorem St.new {w m H B} (st : St w m H B) {h : Nat} {o : AObj} (ho : AHeap.obj H h = some o) (hmp : m h = none ∧ m (.p h) = none) {w' : World} (os : w'.os = w.os) (tape : w'.tape = w.tape) (output : w'.output = w.output) {vs : Array Value} (heap : w'.heap = w.heap.push (.cells vs o.e))
    (hu : ∀ e, e ∈ o.elems → e.length = o.s) (hc : ∀ (i : Nat) (e : List AV) (j : Nat) (x : AV), o.elems[i]? = some e → e[j]? = some x → ∃ v, vs[i * o.s + j]? = some v ∧ RV w m H B x v ∧ x.one = true) :
    St w' (AMap.upd m h w.heap.size) H B ∧ Adv w m H w' (AMap.upd m h w.heap.size) H := by
  obtain ⟨hm, hp⟩ := hmp
  have old : ∀ b, b < w.heap.size → w'.heap[b]? = w.heap[b]? := by
    intro b hb; rw [heap, Array.getElem?_push, if_neg (by omega)]
  have sz : w'.heap.size = w.heap.size + 1 := by rw [heap]; simp
  have ad : Adv w m H w' (AMap.upd m h w.heap.size) H := by
    refine ⟨os, tape, output, by omega, fun b hb _ => old b hb, fun k b e => ?_, Nat.le_refl _, fun k o1 hk e => ⟨o1, e, rfl, rfl, Nat.le_refl _, fun _ b hb => ?_, fun b hb => by rw [AMap.upd_p]; exact hb⟩⟩
    · unfold AMap.upd at e
      split at e
      · cases e; exact .inr (Nat.le_refl _)
      · exact .inl e
    · have hkh : k ≠ h := by intro e; subst e; rw [hm] at hb; cases hb
      refine ⟨by simp [AMap.upd, hkh, hb], ?_⟩
      unfold World.shape?
      rw [old b (st.dom k b hb).2.1]
  refine ⟨⟨by have := st.base; omega, fun k b e => ?_, fun k b e => ?_, fun k k' b e e' => ?_, st.fxa ad⟩, ad⟩
  case refine_2 =>
    rw [AMap.upd_p] at e
    obtain ⟨h1, h2, h3, o1, e1, e2⟩ := st.domP k b e
    have hkh : k ≠ h := by intro e'; subst e'; rw [hp] at e; cases e
    exact ⟨h1, by omega, by simp [AMap.upd, hkh, h3], o1, e1, by rw [old b h2]; exact e2⟩
  · unfold AMap.upd at e
    split at e
    · rename_i hkh
      cases e; cases hkh
      refine ⟨st.base, by omega, o, vs, ho, by rw [heap]; simp, hu, fun i el j x a1 a2 => ?_⟩
      obtain ⟨v, q1, q2, q3⟩ := hc i el j x a1 a2
      exact ⟨v, q1, q2.mono ad, q3⟩
    · obtain ⟨h1, h2, o1, cs, e1, e2, e3, e4⟩ := st.dom k b e
      refine ⟨h1, by omega, o1, cs, e1, by rw [old b h2]; exact e2, e3, fun i el j x a1 a2 => ?_⟩
      obtain ⟨v, q1, q2, q3⟩ := e4 i el j x a1 a2
      exact ⟨v, q1, q2.mono ad, q3⟩
  · unfold AMap.upd at e e'
    split at e <;> split at e'
    · rename_i a b; rw [a, b]
    · rename_i a b
      cases e
      have := (st.mb k' _ e').2; omega
    · rename_i a b
      cases e'
      have := (st.mb k _ e).2; omega
    · exact st.inj k k' b e e'
theorem St.upd {w m H B} (st : St w m H B) {h b : Nat} {o o' : AObj} (ho : AHeap.obj H h = some o) (hm : m h = some b) (hs : o'.s = o.s) (he : o'.e = o.e) (hl : o.elems.length ≤ o'.elems.length) {w' : World} (os : w'.os = w.os) (tape : w'.tape = w.tape) (output : w'.output = w.output)
    (size : w'.heap.size = w.heap.size) (other : ∀ k, k ≠ b → w'.heap[k]? = w.heap[k]?) {cs cs' : Array Value} (hcs : w.heap[b]? = some (.cells cs o.e (0, 0))) (hcs' : w'.heap[b]? = some (.cells cs' o.e (0, 0))) (hsz : cs'.size = cs.size)
    (hu : ∀ e, e ∈ o'.elems → e.length = o'.s) (hc : ∀ (i : Nat) (e : List AV) (j : Nat) (x : AV), o'.elems[i]? = some e → e[j]? = some x → ∃ v, cs'[i * o'.s + j]? = some v ∧ RV w m H B x v ∧ x.one = true) :
    St w' m (H.set h (some o')) B ∧ Adv w m H w' m (H.set h (some o')) := by
  have hlt := AHeap.obj_lt ho
  have ad : Adv w m H w' m (H.set h (some o')) := by
    refine ⟨os, tape, output, by omega, fun k hk hn => other k (fun e => hn h (by rw [e]; exact hm)), fun _ _ h => .inl h, by simp, fun k o1 hk e => ?_⟩
    have shp : ∀ b', m k = some b' → w'.shape? b' = w.shape? b' := by
      intro b' hb'
      by_cases e' : b' = b
      · subst e'
        simp [World.shape?, hcs, hcs', hsz]
      · simp only [World.shape?, other b' e']
    by_cases hkh : k = h
    · subst hkh
      rw [AHeap.obj_set_eq hlt] at e
      cases e
      exact ⟨o, ho, hs, he, hl, fun _ b' hb' => ⟨hb', shp b' hb'⟩, fun _ h => h⟩
    · rw [AHeap.obj_set_ne (Ne.symm hkh)] at e
      exact ⟨o1, e, rfl, rfl, Nat.le_refl _, fun _ b' hb' => ⟨hb', shp b' hb'⟩, fun _ h => h⟩
  refine ⟨⟨by rw [size]; exact st.base, fun k b' e => ?_, fun k b' e => ?_, st.inj, st.fxa ad⟩, ad⟩
  case refine_2 =>
    obtain ⟨h1, h2, h3, o1, e1, e2⟩ := st.domP k b' e
    have hkh : k ≠ h := by intro e'; subst e'; rw [hm] at h3; cases h3
    have hbb : b' ≠ b := by intro e'; subst e'; cases st.inj _ _ _ e hm
    exact ⟨h1, by omega, h3, o1, by rw [AHeap.obj_set_ne (Ne.symm hkh)]; exact e1, by rw [other b' hbb]; exact e2⟩
  by_cases hkh : k = h
  · subst hkh
    rw [hm] at e; cases e
    obtain ⟨h1, h2, _⟩ := st.dom k b hm
    refine ⟨h1, by omega, o', cs', AHeap.obj_set_eq hlt, by rw [he]; exact hcs', hu, fun i el j x a1 a2 => ?_⟩
    obtain ⟨v, q1, q2, q3⟩ := hc i el j x a1 a2
    exact ⟨v, q1, q2.mono ad, q3⟩
  · obtain ⟨h1, h2, o1, cs1, e1, e2, e3, e4⟩ := st.dom k b' e
    have hbb : b' ≠ b := by intro e'; subst e'; exact hkh (by cases st.inj k h b' e hm; rfl)
    refine ⟨h1, by omega, o1, cs1, by rw [AHeap.obj_set_ne (Ne.symm hkh)]; exact e1, by rw [other b' hbb]; exact e2, e3, fun i el j x a1 a2 => ?_⟩
    obtain ⟨v, q1, q2, q3⟩ := e4 i el j x a1 a2
    exact ⟨v, q1, q2.mono ad, q3⟩
/-- A new map. -/
def AMap.updP (m : AMap) (h b : Nat) : AMap := fun k => if k = .p h then some b else m k
theorem St.newP {w m H B} (st : St w m H B) {e s : Nat} {w' : World} (os : w'.os = w.os) (tape : w'.tape = w.tape) (output : w'.output = w.output) (heap : w'.heap = w.heap.push (.map #[] 0)) :
    St w' (AMap.updP m H.length w.heap.size) (H ++ [some ⟨e, s, []⟩]) B ∧ Adv w m H w' (AMap.updP m H.length w.heap.size) (H ++ [some ⟨e, s, []⟩]) := by
  obtain ⟨p1, p2⟩ := st.push [some ⟨e, s, []⟩]
  have hn1 : m H.length = none := by
    cases hm : m H.length with
    | none => rfl
    | some b => exact absurd (st.mlt hm) (Nat.lt_irrefl _)
  have hn2 : m (.p H.length) = none := by
    cases hm : m (.p H.length) with
    | none => rfl
    | some b => exact absurd (st.mltP hm) (Nat.lt_irrefl _)
  have old : ∀ b, b < w.heap.size → w'.heap[b]? = w.heap[b]? := fun b hb => by
    rw [heap, Array.getElem?_push, if_neg (by omega)]
  have sz : w'.heap.size = w.heap.size + 1 := by rw [heap]; simp
  have ad : Adv w m (H ++ [some ⟨e, s, []⟩]) w' (AMap.updP m H.length w.heap.size) (H ++ [some ⟨e, s, []⟩]) := by
    refine ⟨os, tape, output, by omega, fun b hb _ => old b hb, fun k b e => ?_, Nat.le_refl _, fun k o1 hk e => ⟨o1, e, rfl, rfl, Nat.le_refl _, fun _ b hb => ⟨by simp [AMap.updP, hb], ?_⟩, fun b hb => ?_⟩⟩
    · unfold AMap.updP at e
      split at e
      · cases e; exact .inr (Nat.le_refl _)
      · exact .inl e
    · unfold World.shape?
      rw [old b (st.mb k b hb).2]
    · unfold AMap.updP
      split
      · rename_i he
        rw [he, hn2] at hb; cases hb
      · exact hb
  refine ⟨⟨by have := st.base; omega, fun k b e => ?_, fun k b e => ?_, fun k k' b e e' => ?_, p1.fxa ad⟩, p2.trans ad⟩
  · have e : m k = some b := by simpa [AMap.updP] using e
    obtain ⟨h1, h2, o1, cs, e1, e2, e3, e4⟩ := p1.dom k b e
    refine ⟨h1, by omega, o1, cs, e1, by rw [old b h2]; exact e2, e3, fun i el j x a1 a2 => ?_⟩
    obtain ⟨v, q1, q2, q3⟩ := e4 i el j x a1 a2
    exact ⟨v, q1, q2.mono ad, q3⟩
  · unfold AMap.updP at e
    split at e
    · rename_i hk
      cases e; cases hk
      refine ⟨st.base, by omega, by simp [AMap.updP, hn1], _, AHeap.obj_push_eq, ?_⟩
      rw [heap]; simp [mapEs]
    · obtain ⟨h1, h2, h3, o1, e1, e2⟩ := p1.domP k b e
      exact ⟨h1, by omega, by simp [AMap.updP, h3], o1, e1, by rw [old b h2]; exact e2⟩
  · unfold AMap.updP at e e'
    split at e <;> split at e'
    · rename_i a b; rw [a, b]
    · cases e
      have := (st.mb k' _ e').2; omega
    · cases e'
      have := (st.mb k _ e).2; omega
    · exact st.inj k k' b e e'
theorem St.setP {w m H B} (st : St w m H B) {h b : Nat} {o : AObj} (ho : AHeap.obj H h = some o) (hm : m (.p h) = some b) {rows : List (List AV)} (hl : o.elems.length ≤ rows.length) {w' : World} (os : w'.os = w.os) (tape : w'.tape = w.tape) (output : w'.output = w.output)
    (size : w'.heap.size = w.heap.size) (other : ∀ k, k ≠ b → w'.heap[k]? = w.heap[k]?) (hb : w'.heap[b]? = some (.map (mapEs rows) rows.length)) :
    St w' m (H.set h (some { o with elems := rows })) B ∧ Adv w m H w' m (H.set h (some { o with elems := rows })) := by
  have hlt := AHeap.obj_lt ho
  obtain ⟨g1, g2, g3, o0, g4, g5⟩ := st.domP h b hm
  have ad : Adv w m H w' m (H.set h (some { o with elems := rows })) := by
    refine ⟨os, tape, output, by omega, fun k hk hn => other k (fun e => hn (.p h) (by rw [e]; exact hm)), fun _ _ h => .inl h, by simp, fun k o1 hk e => ?_⟩
    have shp : ∀ b', m k = some b' → w'.shape? b' = w.shape? b' := by
      intro b' hb'
      have hbb : b' ≠ b := by intro e'; subst e'; cases st.inj _ _ _ hb' hm
      simp only [World.shape?, other b' hbb]
    by_cases hkh : k = h
    · subst hkh
      rw [AHeap.obj_set_eq hlt] at e
      cases e
      exact ⟨o, ho, rfl, rfl, hl, fun _ b' hb' => ⟨hb', shp b' hb'⟩, fun _ h => h⟩
    · rw [AHeap.obj_set_ne (Ne.symm hkh)] at e
      exact ⟨o1, e, rfl, rfl, Nat.le_refl _, fun _ b' hb' => ⟨hb', shp b' hb'⟩, fun _ h => h⟩
  refine ⟨⟨by rw [size]; exact st.base, fun k b' e => ?_, fun k b' e => ?_, st.inj, st.fxa ad⟩, ad⟩
  · have hkh : k ≠ h := by intro e'; subst e'; rw [g3] at e; cases e
    obtain ⟨h1, h2, o1, cs1, e1, e2, e3, e4⟩ := st.dom k b' e
    have hbb : b' ≠ b := by intro e'; subst e'; cases st.inj _ _ _ e hm
    refine ⟨h1, by omega, o1, cs1, by rw [AHeap.obj_set_ne (Ne.symm hkh)]; exact e1, by rw [other b' hbb]; exact e2, e3, fun i el j x a1 a2 => ?_⟩
    obtain ⟨v, q1, q2, q3⟩ := e4 i el j x a1 a2
    exact ⟨v, q1, q2.mono ad, q3⟩
  · by_cases hkh : k = h
    · subst hkh
      rw [hm] at e; cases e
      exact ⟨g1, by omega, g3, _, AHeap.obj_set_eq hlt, hb⟩
    · obtain ⟨h1, h2, h3, o1, e1, e2⟩ := st.domP k b' e
      have hbb : b' ≠ b := by intro e'; subst e'; cases st.inj _ _ _ e hm; exact hkh rfl
      exact ⟨h1, by omega, h3, o1, by rw [AHeap.obj_set_ne (Ne.symm hkh)]; exact e1, by rw [other b' hbb]; exact e2⟩
end Go.Awp
