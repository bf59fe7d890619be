/- Lists of operations: their truth in the model. Generic in the program. -/
import Derived.Test.YtepnijjgdhldeaaLr
namespace Go.Awp
open Go.RowKit (Below)
section
variable {P : Program} {o : Oper}

theorem trOp_call {f : FuncId} {args : List Operand} (h : trOp P o = some (.call f args)) : ∃ (as : Array Operand) (ts : Array TypeId), o.op = .call { callee := .value (.func f), args := as, argTypes := ts } ∧ as.toList = args := by
  unfold trOp at h
  repeat' (split at h)
  all_goals (first | (cases h; done) | skip)
  cases h
  exact ⟨_, _, ‹_›, rfl⟩

theorem trOp_callv {f : Operand} {args : List Operand} (h : trOp P o = some (.callv f args)) : ∃ (as : Array Operand) (ts : Array TypeId), o.op = .call { callee := .value f, args := as, argTypes := ts } ∧ as.toList = args := by
  unfold trOp at h
  repeat' (split at h)
  all_goals (first | (cases h; done) | skip)
  cases h
  exact ⟨_, _, ‹_›, rfl⟩

theorem run_callFunc_ok {f : FuncId} (hc : callable P f = true) (vs : Array Value) (w : World) : (callFunc f vs).run P w = .ok (.enter f vs) w := by
  unfold callable at hc
  split at hc
  · rename_i fn hfn
    simp at hc
    obtain ⟨h1, h2⟩ := hc
    have hb : fn.body.isNone = false := by cases hb : fn.body <;> simp_all
    simp only [callFunc, Sem.run_bind, run_program, Result.andThen_ok, hfn, hb]
    simp [h1]
  · cases hc

theorem trOp_mknil (h : trOp P o = some .mknil) : ∃ t e i, o.op = .buildSlice t 0 #[] ∧ P.underlying t = some (.slice e) ∧ P.info? e = some i := by
  unfold trOp at h
  repeat' (split at h)
  all_goals (first | (cases h; done) | skip)
  rename_i hp
  have hargs : ∀ {as : Array (Nat × Operand)}, as.toList = [] → as = #[] := by intro as h; cases as; simp_all
  refine ⟨_, _, _, ?_, ‹_›, ‹_›⟩
  rw [← hargs hp]; assumption

theorem run_equal_nil {t e : TypeId} (ht : P.underlying t = some (.slice e)) (d : Nat) (ad : Option Addr) (len cap : Nat) (w : World) : (Op.equalIn (d + 1) t (.slice ad len cap) (.slice none 0 0)).run P w = .ok ad.isNone w := by
  cases ad <;> simp only [Op.equalIn, Sem.run_bind, run_underlying ht, Result.andThen_ok, Sem.run_pure, Option.isNone_none, Option.isNone_some]

theorem trOp_isnil {neg : Bool} {x : Operand} (h : trOp P o = some (.isnil neg x)) : ∃ t e u, o.op = .binOp (if neg then .neq else .eql) t x (.const (.slice none 0 0)) u ∧ P.underlying t = some (.slice e) := by
  unfold trOp at h
  repeat' (split at h)
  all_goals (first | (cases h; done) | skip)
  all_goals (cases h; exact ⟨_, _, _, ‹_›, ‹_›⟩)

theorem alen_val {w m H B} {x : AV} {v : Value} (hx : RV w m H B x v) {k : IntKind} {n : Int} (h : alen H x = some (.int k n)) : ∃ (ad : Option Addr) (len cap : Nat), v = .slice ad len cap ∧ n = len ∧ (0 < n → ad ≠ none) := by
  cases hx with
  | own h' ver i len ad n' cap hh hv =>
    simp only [alen] at h
    split at h
    · rename_i o ho
      split at h
      · rename_i hver
        cases h
        obtain ⟨b, q1, q2, q3, q4, q5, _⟩ := (hv o ho).2 hver
        exact ⟨ad, n', cap, rfl, by rw [q3], fun h0 => by rw [q2 (.inl (by omega))]; simp⟩
      · cases h
    · cases h
  | roNil => cases h; exact ⟨_, _, _, rfl, rfl, fun h0 => by simp at h0⟩
  | ro => cases h; exact ⟨_, _, _, rfl, rfl, fun _ => by simp⟩
  | nilSlice => cases h; exact ⟨_, _, _, rfl, rfl, fun h0 => by omega⟩
  | _ => simp [alen] at h

theorem trOp_invoke {x : Operand} {name : String} {args : List Operand} (h : trOp P o = some (.invoke x name args)) : ∃ (as : Array Operand) (ts : Array TypeId), o.op = .call { callee := .invoke x name, args := as, argTypes := ts } ∧ as.toList = args := by
  unfold trOp at h
  repeat' (split at h)
  all_goals (first | (cases h; done) | skip)
  cases h
  exact ⟨_, _, ‹_›, rfl⟩

theorem amethod_run {t : TypeId} {name : String} {f : FuncId} (h : amethod P t name = some f) (k : Nat) (v : Value) (w : World) : (method (k + 1) t v name).run P w = .ok (f, v) w := by
  unfold amethod at h
  split at h
  · rename_i i hi
    split at h
    · rename_i m hm
      split at h
      · rename_i hp
        have hpl : m.path.toList = [] := by simpa using hp
        have hti : (typeInfo t).run P w = .ok i w := by simp [typeInfo, hi]
        split at h
        · rename_i f' e hf hu
          cases h
          simp only [method, Sem.run_bind, hti, Result.andThen_ok, hm, hpl, follow, Sem.run_pure, hf, receiverAt, run_underlying hu, Place.get]
        · cases h
        · rename_i f' d hne hf hu
          cases h
          simp only [method, Sem.run_bind, hti, Result.andThen_ok, hm, hpl, follow, Sem.run_pure, hf, receiverAt, run_underlying hu, Place.get]
        · cases h
      · cases h
    · cases h
  · cases h

variable {n : Nat} {w0 : World} {m0 : AMap} {H0 : AHeap} {B : Nat} {env : AEnv} {H : AHeap} {a : Act} {w : World} {io : IOp} {K : AV → AHeap → Prop} {Q : Exit → Act → World → Prop} {next : Act → World → Prop}

theorem upon_calls {f : FuncId} {vs : Array Value} {R : Ending → World → Prop} (h : Calls P f vs w R) (hr : ∀ e w', R e w' → ∃ v, e = .returned v ∧ next (a.put o.dst v) w') (hrun : (execOp a.eval o).run P w = .ok (.enter f vs) w) : o.wp P a w next Q := by
  unfold Oper.wp
  rw [hrun, Oper.upon_enter]
  refine h.mono fun e w' hR => ?_
  obtain ⟨v, rfl, hn⟩ := hr e w' hR
  exact hn

theorem acall_sound (htr : trOp P o = some io) {m : AMap} (fr : FR n w m H B env a) (st : St w m H B) (h : acall P io env H K)
    (hnext : ∀ x H' v w' m', K x H' → St w' m' H' B → Adv w m H w' m' H' → RV w' m' H' B x v → next (a.put o.dst v) w') : o.wp P a w next Q := by
  have step : (match sstep io env H with | some (some x, H') => K x H' | some (none, H') => K (.tuple []) H' | none => False) → o.wp P a w next Q := by
    intro h
    split at h
    · rename_i x H' hs
      obtain ⟨w', m', p1, p2, v, p3, p4⟩ := sstep_sound htr st fr hs
      unfold Oper.wp
      rw [p3, Oper.upon_value]
      exact hnext x H' v w' m' h p1 p2 p4
    · rename_i H' hs
      obtain ⟨w', m', p1, p2, p3⟩ := sstep_sound htr st fr hs
      unfold Oper.wp
      rw [p3, Oper.upon_skip]
      exact hnext _ H' undef w' m' h p1 p2 (.tuple [] #[] rfl (by simp))
    · exact h.elim
  cases io with
  | call f args =>
    simp only [acall] at h
    split at h
    · rename_i vs hvs
      obtain ⟨as, ts, ho, rfl⟩ := trOp_call htr
      obtain ⟨p1, p2⟩ := evs_sound fr _ _ hvs
      refine upon_calls (h.2 w m B (as.map a.eval) st ⟨by simpa using p1, fun i x v a b => p2 i x v a (by simpa using b)⟩) (fun e w' ⟨v, x, m', H', he, hk, s1, s2, s3⟩ => ⟨v, he, hnext x H' v w' m' hk s1 s2 s3⟩) ?_
      simp [execOp, ho, resolve, Act.eval, Deferred.ofValue, invoke, run_callFunc_ok h.1]
    · exact h.elim
  | callv x args =>
    simp only [acall] at h
    split at h
    · rename_i f first caps vs hx hvs
      obtain ⟨as, ts, ho, rfl⟩ := trOp_callv htr
      obtain ⟨p1, p2⟩ := evs_sound fr _ _ hvs
      have hxv := ev_sound fr hx
      generalize he : a.eval x = u at hxv
      cases hxv with
      | func _ _ _ f' c' hf hc h1 h2 =>
        refine upon_calls (h.2 w m B (f' ++ as.map a.eval ++ c') st ⟨by simp [hf, hc, p1], fun i x v e1 e2 => ?_⟩) (fun e w' ⟨v, x, m', H', he, hk, s1, s2, s3⟩ => ⟨v, he, hnext x H' v w' m' hk s1 s2 s3⟩) ?_
        · have e2' : (f'.toList ++ as.toList.map a.eval ++ c'.toList)[i]? = some v := by
            have : (f' ++ as.map a.eval ++ c').toList[i]? = some v := by rw [Array.getElem?_toList]; exact e2
            rwa [Array.toList_append, Array.toList_append, Array.toList_map] at this
          have hpl : vs.length = (as.toList.map a.eval).length := by simpa using p1
          have hfl : first.length = f'.toList.length := by simpa using hf
          rcases Nat.lt_or_ge i first.length with hi | hi
          · rw [List.append_assoc, List.getElem?_append_left hi] at e1
            rw [List.append_assoc, List.getElem?_append_left (by omega)] at e2'
            exact h1 i x v e1 (by simpa using e2')
          · rw [List.append_assoc, List.getElem?_append_right hi] at e1
            rw [List.append_assoc, List.getElem?_append_right (by omega)] at e2'
            rw [← hfl] at e2'
            rcases Nat.lt_or_ge (i - first.length) vs.length with hj | hj
            · rw [List.getElem?_append_left hj] at e1
              rw [List.getElem?_append_left (by omega)] at e2'
              exact p2 _ x v e1 e2'
            · rw [List.getElem?_append_right hj] at e1
              rw [List.getElem?_append_right (by omega), ← hpl] at e2'
              exact h2 _ x v e1 (by simpa using e2')
        · simp [execOp, ho, resolve, he, Deferred.ofValue, invoke, run_callFunc_ok h.1]
    · exact h.elim
  | mknil =>
    simp only [acall] at h
    obtain ⟨t, e, i, ho, ht, hi⟩ := trOp_mknil htr
    have hrun : (execOp a.eval o).run P w = .ok (.value (.slice (some ⟨w.heap.size, 0, none⟩) 0 0)) (w.alloc (.cells #[] e)) := by
      simp only [execOp, ho, Instr.buildSlice, Sem.run_bind, run_underlying ht, Result.andThen_ok, run_sizeOf' hi, Nat.zero_mul, show ¬ 0 > 2 ^ 24 by decide, if_false, if_true, Sem.run_pure, Instr.fill, Array.map_empty, show Array.range 0 = #[] by simp, newRow, run_newObj, World.alloc]
    have hb : Below w.heap.size w (w.alloc (.cells #[] e)) := ⟨rfl, rfl, rfl, (by show w.heap.size ≤ (w.heap.push _).size; rw [Array.size_push]; omega), fun k hk => by
      show (w.heap.push _)[k]? = _
      rw [Array.getElem?_push, if_neg (by omega)]⟩
    obtain ⟨p, q⟩ := below_adv st hb
    unfold Oper.wp
    rw [hrun, Oper.upon_value]
    exact hnext _ H _ _ m h p q (.nilSlice _)
  | isnil neg x =>
    simp only [acall] at h
    split at h
    · rename_i v hv
      split at h
      · rename_i k n hn
        obtain ⟨t, e, u, ho, ht⟩ := trOp_isnil htr
        obtain ⟨ad, len, cap, he, hlen, hne⟩ := alen_val (ev_sound fr hv) hn
        have hc : a.eval (.const (.slice none 0 0)) = .slice none 0 0 := rfl
        have hrun : (execOp a.eval o).run P w = .ok (.value (.bool (if neg then !ad.isNone else ad.isNone))) w := by
          have heq : (Op.equal t (.slice ad len cap) (.slice none 0 0)).run P w = .ok ad.isNone w := by
            unfold Op.equal Op.maxDepth
            exact run_equal_nil ht 9999 ad len cap w
          have hg : ∀ op, (eqGuard op t x (.const (.slice none 0 0)) (.slice ad len cap) (.slice none 0 0)).run P w = .ok () w := by
            intro op
            unfold eqGuard
            split <;> rfl
          cases neg with
          | false =>
            have ho' : o.op = .binOp .eql t x (.const (.slice none 0 0)) u := ho
            have hb : binOp .eql t (.slice ad len cap) (.slice none 0 0) = (do pure (.bool (← Op.equal t (.slice ad len cap) (.slice none 0 0)))) := by unfold binOp; rfl
            simp only [execOp, ho', hc, he, Sem.run_bind, hg, Result.andThen_ok, hb, heq, Sem.run_pure]
            rfl
          | true =>
            have ho' : o.op = .binOp .neq t x (.const (.slice none 0 0)) u := ho
            have hb : binOp .neq t (.slice ad len cap) (.slice none 0 0) = (do pure (.bool (!(← Op.equal t (.slice ad len cap) (.slice none 0 0))))) := by unfold binOp; rfl
            simp only [execOp, ho', hc, he, Sem.run_bind, hg, Result.andThen_ok, hb, heq, Sem.run_pure]
            rfl
        unfold Oper.wp
        rw [hrun, Oper.upon_value]
        by_cases h0 : 0 < n
        · rw [if_pos h0] at h
          have := hne h0
          have e1 : (if neg then !ad.isNone else ad.isNone) = neg := by cases ad <;> cases neg <;> simp_all
          rw [e1]
          exact hnext _ H _ w m h st (Adv.refl _ _ _) (.bool _)
        · rw [if_neg h0] at h
          exact hnext _ H _ w m (h _) st (Adv.refl _ _ _) (.bool _)
      · exact h.elim
    · exact h.elim
  | invoke x name args =>
    simp only [acall] at h
    split at h
    · rename_i t v vs hx hvs
      split at h
      · rename_i f hm
        obtain ⟨as, ts, ho, rfl⟩ := trOp_invoke htr
        obtain ⟨p1, p2⟩ := evs_sound fr _ _ hvs
        have hxv := ev_sound fr hx
        generalize he : a.eval x = u at hxv
        cases hxv with
        | iface _ _ v' hv' =>
          refine upon_calls (h.2 w m B (#[v'] ++ as.map a.eval) st ⟨by simp [p1, Nat.add_comm], fun i x v e1 e2 => ?_⟩) (fun e w' ⟨v, x, m', H', he, hk, s1, s2, s3⟩ => ⟨v, he, hnext x H' v w' m' hk s1 s2 s3⟩) ?_
          · cases i with
            | zero =>
              have e3 : (#[v'] ++ Array.map a.eval as)[0]? = some v' := by rw [Array.getElem?_append_left (show 0 < 1 from Nat.zero_lt_one)]; rfl
              rw [e3] at e2
              cases e1; cases e2; exact hv'
            | succ i =>
              simp only [List.getElem?_cons_succ] at e1
              rw [Array.getElem?_append_right (by simp)] at e2
              exact p2 i x v e1 (by simpa using e2)
          · have hd : P.types.size + Made.depth = (P.types.size + Made.depth - 1) + 1 := by simp [Made.depth]
            simp only [execOp, ho, resolve, Sem.run_bind, Sem.run_pure, Result.andThen_ok, he, invoke]
            have hz : (#[Value.iface t v'] ++ Array.map a.eval as)[0]? = some (Value.iface t v') := by rw [Array.getElem?_append_left (show 0 < 1 from Nat.zero_lt_one)]; rfl
            have hxs : (#[Value.iface t v'] ++ Array.map a.eval as).extract 1 (#[Value.iface t v'] ++ Array.map a.eval as).size = Array.map a.eval as := by simp
            rw [hz]
            simp only [hxs, callMethod, Sem.run_bind, run_program, Result.andThen_ok]
            rw [hd, amethod_run hm]
            simp only [Result.andThen_ok]
            exact run_callFunc_ok h.1 _ _
      · exact h.elim
    · exact h.elim
  | _ => exact step h

theorem yielded_eq {ops : List Oper} {j g : Nat} (hj : (ops[j]?).bind (·.dst) = some g) (tmps : Array Value) : yielded ops.toArray tmps j = match tmps[g]? with | some (.bool b) => some b | _ => none := by
  unfold yielded
  rw [List.getElem?_toArray, hj]
  simp only [Option.bind_some]
  cases tmps[g]? with
  | none => rfl
  | some v => cases v <;> rfl

theorem FR.over {n w m H B} {env : AEnv} {a : Act} (h : FR n w m H B env a) {g : Nat} {x : AV} (hx : AEnv.get env g = some x) : FR n w m H B ((g, x) :: env) a := by
  refine ⟨h.defers, h.size, fun t y e => ?_⟩
  simp only [AEnv.get] at e
  split at e
  · rename_i hgt; subst hgt; cases e; exact h.slots g x hx
  · exact h.slots t y e

theorem FR.envput {n w m H B} {env : AEnv} {a : Act} (h : FR n w m H B env a) {d : Option Nat} (hd : (match d with | some d => decide (d < n) | none => true) = true) {x : AV} {v : Value} (hv : RV w m H B x v) : FR n w m H B (Awp.envput d x env) (a.put d v) := by
  cases d with
  | none => exact h
  | some d => exact h.put (by simpa using hd) hv

theorem awpOps_sound {u : Option (List Nat)} {ops : List Oper} : ∀ (l : List Oper) (ss : List IStmt), trStmts P n u ops l = some ss → ∀ {K : AEnv → AHeap → Prop} (env : AEnv) (H : AHeap) (a : Act) (w : World), Rel n w0 m0 H0 B env H a w → awpOps P ss K env H →
    (∀ env' H' a' w', K env' H' → Rel n w0 m0 H0 B env' H' a' w' → Q .normal a' w') → wpList P ops.toArray Q l a w
  | [], ss, htr, K, env, H, a, w, rel, h, hq => by
    cases htr
    exact hq env H a w h rel
  | o :: l, ss, htr, K, env, H, a, w, rel, h, hq => by
    simp only [trStmts] at htr
    split at htr
    · rename_i s r hs hr
      cases htr
      unfold trStmt at hs
      split at hs
      · rename_i io hio hd
        obtain ⟨m, fr, st, ad⟩ := rel
        simp only [awpOps] at h
        split at hs
        · rename_i hg
          cases hs
          simp only at h
          refine wpList_plain hg fun N hN => ?_
          refine acall_sound hio fr st h fun x H' v w' m' hk s1 s2 s3 => hN _ _ ?_
          exact awpOps_sound l r hr _ _ _ _ ⟨m', (fr.mono s2).envput hd s3, s1, ad.trans s2⟩ hk hq
        · rename_i j want hg
          split at hs
          · rename_i g hj
            cases hs
            simp only at h
            have hw : ∀ (u : Value), a.tmps[g]? = some u → Region.wanted o (yielded ops.toArray a.tmps) = ((match u with | .bool b => some b | _ => none) == some want) := by
              intro u hu
              simp only [Region.wanted, hg, yielded_eq hj, hu]
              cases u <;> rfl
            split at h
            · rename_i c hc
              obtain ⟨h1, h2⟩ := h
              obtain ⟨u, hu, ru⟩ := fr.slots g _ hc
              cases ru
              by_cases hcw : c = want
              · subst hcw
                refine wpList_step fun N hN => ?_
                rw [hw _ hu]
                simp only [beq_self_eq_true, if_true]
                refine acall_sound hio (fr.over hc) st (h1 rfl) fun x H' v w' m' hk s1 s2 s3 => hN _ _ ?_
                exact awpOps_sound l r hr _ _ _ _ ⟨m', ((fr.over hc).mono s2).envput hd s3, s1, ad.trans s2⟩ hk hq
              · have hcw' : c = !want := by cases c <;> cases want <;> simp_all
                subst hcw'
                refine wpList_step fun N hN => ?_
                rw [hw _ hu, if_neg (by cases want <;> simp)]
                refine hN _ _ ?_
                exact awpOps_sound l r hr _ _ _ _ ⟨m, (fr.over hc).envput hd (.tuple [] #[] rfl (by simp)), st, ad⟩ (h2 rfl) hq
            · rename_i hc
              obtain ⟨u, hu, ru⟩ := fr.slots g _ hc
              cases ru
              refine wpList_step fun N hN => ?_
              rw [hw _ hu, if_neg (by simp)]
              refine hN _ _ ?_
              exact awpOps_sound l r hr _ _ _ _ ⟨m, fr.envput hd (.tuple [] #[] rfl (by simp)), st, ad⟩ h hq
            · exact h.elim
          · cases hs
      · cases hs
    · cases htr
end
end Go.Awp
