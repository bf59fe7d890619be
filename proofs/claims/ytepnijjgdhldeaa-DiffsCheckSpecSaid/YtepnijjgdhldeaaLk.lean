/- The truth of quiet operations in the model (part 10). Generic in the program. -/
import Derived.Test.YtepnijjgdhldeaaLj
namespace Go.Awp
section
variable {P : Program} {n : Nat} {w : World} {m : AMap} {H : AHeap} {B : Nat} {env : AEnv} {a : Act} {o : Oper} {r : QR}

theorem q_build {t : TypeId} {i : TypeInfo} {fields : Array Field} {z : Value} {x : List AV} {parts : Array (Nat × Operand)} {l : List (Nat × Nat × Operand)} (hi : P.info? t = some i) (ht : P.underlying t = some (.struct fields)) (hz : i.zero = some z) (hl : trParts P fields parts.toList = some l)
    (hc : cst z = some (.agg x)) (hall : ∀ f, f ∈ fields → ∃ j, P.info? f.type = some j) (ho : o.op = .build t parts) (fr : FR n w m H B env a) (h : qstep (.build x l) env H = some r) : QOK P o a w m H B r := by
  simp only [qstep] at h
  split at h
  · rename_i cs hcs
    cases h
    have hx := cst_sound (w := w) (m := m) (H := H) (B := B) hc
    generalize hzz : z = zz at hx
    cases hx with
    | agg _ vs hl' h1 hh =>
      obtain ⟨p1, p2⟩ := trParts_spec fields parts.toList l hl
      -- the places
      have hpl : ∀ (fs : List Field), (∀ f, f ∈ fs → ∃ j, P.info? f.type = some j) → ∃ ps : List (Nat × Nat), (fs.mapM fun f => (do pure (f.offset, ← sizeOf f.type) : Sem (Nat × Nat))).run P w = .ok ps w ∧ ps.length = fs.length ∧
          ∀ (k : Nat) (f : Field) (j : TypeInfo), fs[k]? = some f → P.info? f.type = some j → ps[k]? = some (f.offset, j.size) := by
        intro fs
        induction fs with
        | nil => intro _; exact ⟨[], by simp, rfl, by simp⟩
        | cons f fs ih =>
          intro hf
          obtain ⟨ps, q1, q2, q3⟩ := ih fun g hg => hf g (by simp [hg])
          obtain ⟨j, hj⟩ := hf f (by simp)
          refine ⟨(f.offset, j.size) :: ps, ?_, by simp [q2], fun k g j' e1 e2 => ?_⟩
          · simp only [List.mapM_cons, Sem.run_bind, run_sizeOf' hj, Sem.run_pure, Result.andThen_ok, q1]
          · cases k with
            | zero => simp at e1; subst e1; rw [hj] at e2; cases e2; rfl
            | succ k => exact q3 k g j' (by simpa using e1) e2
      obtain ⟨ps, q1, q2, q3⟩ := hpl fields.toList (fun f hf => hall f (by simpa using hf))
      obtain ⟨us, f1, f2⟩ := fill_sound fr (fun k => ps[k]?) parts.toList l x cs vs ⟨hl', h1, hh⟩ p1 (fun k p q e1 e2 => by
        obtain ⟨g1, f, j, g2, g3, g4, g5⟩ := p2 k p q e1 e2
        exact ⟨g1, by rw [q3 p.1 f j (by simpa using g2) g3, g4, g5]⟩) hcs
      refine ⟨.agg us, ?_, .agg _ _ f2.1 f2.2.1 f2.2.2⟩
      have hm : (fields.mapM fun f => (do pure (f.offset, ← sizeOf f.type) : Sem (Nat × Nat))).run P w = .ok ps.toArray w := by
        rw [Array.mapM_eq_mapM_toList, Sem.run_map, q1, Result.andThen_ok]
      have hzc : z.cells = vs := by rw [hzz]; rfl
      have hf1 : Instr.fill (fun k => ps.toArray[k]?) z.cells (parts.map fun p => (p.1, a.eval p.2)).toList = some us := by
        rw [hzc]; simpa using f1
      simp only [execOp, ho, Instr.build, Sem.run_bind, zeroValue, typeInfo, run_program, Result.andThen_ok, hi, hz, Sem.run_pure, run_underlying ht, hm, hf1]
  · cases h

theorem q_buildA {t e : TypeId} {len : Nat} {i j : TypeInfo} {z : Value} {x : List AV} {parts : Array (Nat × Operand)} (hi : P.info? t = some i) (ht : P.underlying t = some (.array len e)) (hz : i.zero = some z) (hj : P.info? e = some j)
    (hc : cst z = some (.agg x)) (ho : o.op = .build t parts) (fr : FR n w m H B env a) (h : qstep (.build x (parts.toList.map fun p => (p.1 * j.size, j.size, p.2))) env H = some r) : QOK P o a w m H B r := by
  simp only [qstep] at h
  split at h
  · rename_i cs hcs
    cases h
    have hx := cst_sound (w := w) (m := m) (H := H) (B := B) hc
    generalize hzz : z = zz at hx
    cases hx with
    | agg _ vs hl' h1 hh =>
      obtain ⟨us, f1, f2⟩ := fill_sound fr (fun k => some (k * j.size, j.size)) parts.toList _ x cs vs ⟨hl', h1, hh⟩ (by simp) (fun k p q e1 e2 => by
        rw [List.getElem?_map, e1] at e2
        cases e2
        exact ⟨rfl, rfl⟩) hcs
      refine ⟨.agg us, ?_, .agg _ _ f2.1 f2.2.1 f2.2.2⟩
      have hzc : z.cells = vs := by rw [hzz]; rfl
      have hf1 : Instr.fill (fun k => some (k * j.size, j.size)) z.cells (parts.map fun p => (p.1, a.eval p.2)).toList = some us := by
        rw [hzc]; simpa using f1
      simp only [execOp, ho, Instr.build, Sem.run_bind, zeroValue, typeInfo, run_program, Result.andThen_ok, hi, hz, Sem.run_pure, run_underlying ht, run_sizeOf' hj, hf1]
  · cases h

theorem aeqO_append : ∀ (l1 l2 : List (Nat × Nat)) (xs ys : List AV) (r : Bool), aeqO (l1 ++ l2) xs ys = some r → ∃ r1 r2, aeqO l1 xs ys = some r1 ∧ aeqO l2 xs ys = some r2 ∧ r = (r1 && r2)
  | [], l2, xs, ys, r, h => ⟨true, r, rfl, h, rfl⟩
  | (k, off) :: l1, l2, xs, ys, r, h => by
    simp only [List.cons_append, aeqO] at h
    split at h
    · rename_i r' hr'
      obtain ⟨r1, r2, e1, e2, rfl⟩ := aeqO_append l1 l2 xs ys r' hr'
      split at h
      · split at h
        · rename_i a1 _ x k' y h1 h2 hk
          cases h
          exact ⟨_, r2, by simp only [aeqO, e1, h1, h2, hk, if_true]; rfl, e2, by rw [Bool.and_assoc]⟩
        · cases h
      · rename_i h1 h2
        cases h
        exact ⟨_, r2, by simp only [aeqO, e1, h1, h2]; rfl, e2, by rw [Bool.and_assoc]⟩
      · rename_i h1 h2
        cases h
        exact ⟨_, r2, by simp only [aeqO, e1, h1, h2]; rfl, e2, by rw [Bool.and_assoc]⟩
      · cases h
    · cases h

theorem aeqO_congr (off : Nat) : ∀ (l : List (Nat × Nat)) (xs ys xs' ys' : List AV) (r : Bool), (∀ p, p ∈ l → xs'[p.2]? = xs[off + p.2]? ∧ ys'[p.2]? = ys[off + p.2]?) → aeqO (l.map fun p => (p.1, off + p.2)) xs ys = some r → aeqO l xs' ys' = some r
  | [], xs, ys, xs', ys', r, _, h => h
  | (k, o) :: l, xs, ys, xs', ys', r, hp, h => by
    simp only [List.map_cons, aeqO] at h ⊢
    have h0 := hp (k, o) (by simp)
    simp only at h0
    rw [h0.1, h0.2]
    split at h
    · rename_i r' hr'
      rw [aeqO_congr off l xs ys xs' ys' r' (fun p hm => hp p (by simp [hm])) hr']
      exact h
    · cases h

theorem run_eqFields_cons (d : Nat) (f : Field) (fs : List Field) (us vs : Array Value) (hn : f.name ≠ "_") {u v : Value} (hu : (part f.type us f.offset).run P w = .ok u w) (hv : (part f.type vs f.offset).run P w = .ok v w) {r1 r2 : Bool} (h1 : (Op.equalIn d f.type u v).run P w = .ok r1 w) (h2 : (Op.eqFields d us vs fs).run P w = .ok r2 w) :
    (Op.eqFields d us vs (f :: fs)).run P w = .ok (r1 && r2) w := by
  simp only [Op.eqFields, if_pos hn, Sem.run_bind, hu, hv, h1, Result.andThen_ok]
  cases r1 with
  | true => simpa using h2
  | false => simp

theorem flat_sound : ∀ (d : Nat), (∀ (t : TypeId) (offs : List (Nat × Nat)), flatOffs P d t = some offs → ∀ (k : Nat) (x y : AV) (u v : Value) (r : Bool), RV w m H B x u → RV w m H B y v → (∀ e, P.underlying t = some e → (isAggD e = true → (∃ l, x = .agg l) ∧ ∃ l, y = .agg l) ∧ (isAggD e = false → x.cells = [x] ∧ y.cells = [y])) →
      aeqO offs x.cells y.cells = some r → (Op.equalIn (d + k) t u v).run P w = .ok r w) ∧
    (∀ (fs : List Field) (offs : List (Nat × Nat)), flatFields P d fs = some offs → ∀ (k : Nat) (xs ys : List AV) (us vs : Array Value) (r : Bool), RL w m H B xs us → RL w m H B ys vs →
      aeqO offs xs ys = some r → (Op.eqFields (d + k) us vs fs).run P w = .ok r w)
  | 0 => ⟨fun t offs h => by simp [flatOffs] at h, fun fs offs h => by simp [flatFields] at h⟩
  | d + 1 => by
    obtain ⟨ih1, ih2⟩ := flat_sound d
    have hd : ∀ k, d + 1 + k = d + (k + 1) := by intro k; omega
    refine ⟨fun t offs h k x y u v r hx hy hagg hr => ?_, fun fs offs h k xs ys us vs r hx hy hr => ?_⟩
    · rw [show d + 1 + k = (d + k) + 1 by omega]
      simp only [flatOffs] at h
      split at h
      · rename_i ki hu
        cases h
        obtain ⟨cx, cy⟩ := (hagg _ hu).2 rfl
        rw [cx, cy] at hr
        simp only [aeqO, List.getElem?_cons_zero] at hr
        split at hr
        · rename_i h1 h2
          cases h1; cases h2
          split at hr
          · rename_i hk
            subst hk
            cases hr
            cases hx; cases hy
            rw [run_equalIn_int w _ t _ _ _ _ hu, Bool.and_true]
          · cases hr
        · omega
        · omega
        · cases hr
      · rename_i hu
        cases h
        obtain ⟨cx, cy⟩ := (hagg _ hu).2 rfl
        rw [cx, cy] at hr
        simp only [aeqO, List.getElem?_cons_zero] at hr
        split at hr
        · omega
        · rename_i h1 h2
          cases h1; cases h2; cases hr
          cases hx; cases hy
          rw [run_equalIn_bool' w _ t _ _ hu, Bool.and_true]
        · omega
        · cases hr
      · rename_i hu
        cases h
        obtain ⟨cx, cy⟩ := (hagg _ hu).2 rfl
        rw [cx, cy] at hr
        simp only [aeqO, List.getElem?_cons_zero] at hr
        split at hr
        · omega
        · omega
        · rename_i h1 h2
          cases h1; cases h2; cases hr
          cases hx; cases hy
          rw [run_equalIn_string w _ t _ _ hu, Bool.and_true, beq_toListBytes]
        · cases hr
      · rename_i fs hu
        split at h
        · rename_i hst
          obtain ⟨⟨l1, rfl⟩, ⟨l2, rfl⟩⟩ := (hagg _ hu).1 rfl
          cases hx with
          | agg _ us hl h1 hh =>
            cases hy with
            | agg _ vs hl' h1' hh' =>
              have hf : P.fieldsOf t = fs := by unfold Program.fieldsOf; rw [hu]
              rw [run_equalIn_struct w (d + k) t us vs (by rw [hf]; exact hu) hst, hf]
              exact ih2 fs.toList offs h k l1 l2 us vs r ⟨hl, h1, hh⟩ ⟨hl', h1', hh'⟩ hr
        · cases h
      · cases h
    · cases fs with
      | nil =>
        simp only [flatFields] at h
        cases h; cases hr
        simp [Op.eqFields]
      | cons f fs =>
        simp only [flatFields] at h
        split at h
        · rename_i l i rest hl hi hrest
          split at h
          · rename_i hc
            obtain ⟨hc1, hc2⟩ := hc
            cases h
            obtain ⟨r1, r2, e1, e2, rfl⟩ := aeqO_append _ _ _ _ _ hr
            have hrest' := ih2 fs rest hrest (k + 1) xs ys us vs r2 hx hy e2
            rw [← hd] at hrest'
            have hlt : ∀ p, p ∈ l → p.2 < i.size := fun p hp => by
              have := List.all_eq_true.1 hc2 p hp
              simpa using this
            have hunder : ∃ e, P.underlying f.type = some e := by
              cases d with
              | zero => simp [flatOffs] at hl
              | succ d =>
                simp only [flatOffs] at hl
                split at hl <;> first | exact ⟨_, ‹_›⟩ | cases hl
            obtain ⟨e, he⟩ := hunder
            by_cases hg : isAggD e = true
            · have q : ∀ (zs : List AV) (ws : Array Value), RL w m H B zs ws → (part f.type ws f.offset).run P w = .ok (.agg (ws.extract f.offset (f.offset + i.size))) w ∧ RV w m H B (.agg ((zs.drop f.offset).take i.size)) (.agg (ws.extract f.offset (f.offset + i.size))) := by
                intro zs ws hz
                refine ⟨by simp [part, run_isAgg he, hg, run_sizeOf' hi], .agg _ _ (by simp [hz.1]; omega) (fun y hy => hz.2.1 y (List.mem_of_mem_drop (List.mem_of_mem_take hy))) (fun k' y u e1 e2 => ?_)⟩
                rw [List.getElem?_take] at e1
                split at e1
                · rw [List.getElem?_drop] at e1
                  refine hz.2.2 _ y u e1 ?_
                  rw [Array.getElem?_extract] at e2
                  split at e2
                  · exact e2
                  · cases e2
                · cases e1
              obtain ⟨a1, a2⟩ := q xs us hx
              obtain ⟨b1, b2⟩ := q ys vs hy
              refine run_eqFields_cons _ f fs us vs hc1 a1 b1 ?_ hrest'
              rw [hd]
              refine ih1 f.type l hl (k + 1) _ _ _ _ r1 a2 b2 (fun e' he' => ?_) ?_
              · rw [he] at he'; cases he'
                exact ⟨fun _ => ⟨⟨_, rfl⟩, ⟨_, rfl⟩⟩, fun h0 => by rw [hg] at h0; cases h0⟩
              · refine aeqO_congr f.offset l xs ys _ _ r1 (fun p hp => ?_) e1
                have := hlt p hp
                simp only [AV.cells]
                rw [List.getElem?_take_of_lt this, List.getElem?_take_of_lt this, List.getElem?_drop, List.getElem?_drop]
                exact ⟨rfl, rfl⟩
            · have hl1 : ∃ kk, l = [(kk, 0)] := by
                cases d with
                | zero => simp [flatOffs] at hl
                | succ d =>
                  simp only [flatOffs, he] at hl
                  cases e <;> simp [isAggD] at hg hl <;> exact ⟨_, hl.symm⟩
              obtain ⟨kk, rfl⟩ := hl1
              have q : ∀ (zs : List AV) (ws : Array Value) (z : AV), RL w m H B zs ws → zs[f.offset]? = some z → ∃ u, (part f.type ws f.offset).run P w = .ok u w ∧ RV w m H B z u ∧ z.one = true := by
                intro zs ws z hz hzz
                have hlt : f.offset < ws.size := by
                  rcases Nat.lt_or_ge f.offset ws.size with h' | h'
                  · exact h'
                  · rw [List.getElem?_eq_none (by rw [hz.1]; omega)] at hzz; cases hzz
                exact ⟨ws[f.offset], by simp [part, run_isAgg he, hg, hlt], hz.2.2 _ z _ hzz (Array.getElem?_eq_getElem hlt), hz.2.1 z (List.mem_of_getElem? hzz)⟩
              have hsome : ∃ x y, xs[f.offset]? = some x ∧ ys[f.offset]? = some y := by
                simp only [List.map_cons, List.map_nil, aeqO, Nat.add_zero] at e1
                split at e1
                · exact ⟨_, _, ‹_›, ‹_›⟩
                · exact ⟨_, _, ‹_›, ‹_›⟩
                · exact ⟨_, _, ‹_›, ‹_›⟩
                · cases e1
              obtain ⟨x, y, hx0, hy0⟩ := hsome
              obtain ⟨u, a1, a2, a3⟩ := q xs us x hx hx0
              obtain ⟨v, b1, b2, b3⟩ := q ys vs y hy hy0
              have cell1 : ∀ z : AV, z.one = true → z.cells = [z] := by
                intro z hz; cases z <;> first | rfl | cases hz
              refine run_eqFields_cons _ f fs us vs hc1 a1 b1 ?_ hrest'
              rw [hd]
              refine ih1 f.type _ hl (k + 1) x y u v r1 a2 b2 (fun e' he' => ?_) ?_
              · rw [he] at he'; cases he'
                exact ⟨fun h0 => absurd h0 hg, fun _ => ⟨cell1 x a3, cell1 y b3⟩⟩
              · refine aeqO_congr f.offset _ xs ys _ _ r1 (fun p hp => ?_) e1
                simp at hp; subst hp
                rw [cell1 x a3, cell1 y b3]
                simp [hx0, hy0]
          · cases h
        · cases h

theorem q_eqA {neg : Bool} {t u : TypeId} {fs : Array Field} {x y : Operand} {offs : List (Nat × Nat)} (ht : P.underlying t = some (.struct fs)) (hf : flatOffs P 40 t = some offs) (hgd : P.eqGuardType P.depth t = false) (ho : o.op = .binOp (if neg then .neq else .eql) t x y u) (fr : FR n w m H B env a)
    (h : qstep (.eqA neg offs x y) env H = some r) : QOK P o a w m H B r := by
  simp only [qstep] at h
  split at h
  · rename_i p q hp hq
    split at h
    · rename_i b hb
      cases h
      have hx := ev_sound fr hp
      have hy := ev_sound fr hq
      generalize he : a.eval x = u at hx
      generalize hf' : a.eval y = v at hy
      have key := (flat_sound (P := P) 40).1 t offs hf 9960 (.agg p) (.agg q) u v b hx hy (fun e he' => by
        rw [ht] at he'; cases he'
        exact ⟨fun _ => ⟨⟨_, rfl⟩, ⟨_, rfl⟩⟩, fun h0 => by cases h0⟩) hb
      cases hx with
      | agg _ us hl h1 hh =>
        cases hy with
        | agg _ vs hl' h1' hh' =>
          cases neg
          · exact ⟨.bool b, by simp [execOp, ho, he, hf', run_eqGuard_agg w _ t _ _ _ _ hgd, binOp, Op.equal, Op.maxDepth, key], .bool _⟩
          · exact ⟨.bool (!b), by simp [execOp, ho, he, hf', run_eqGuard_agg w _ t _ _ _ _ hgd, binOp, Op.equal, Op.maxDepth, key], .bool _⟩
    · cases h
  · cases h
end
end Go.Awp
