/- The truth of quiet operations in the model (part 10). Generic in the program. -/
import Derived.Test.YtmcndbldbemebaaDoorA1
set_option linter.unusedVariables false
set_option linter.unusedSimpArgs false
set_option linter.unusedSectionVars false
namespace Go.Awp
set_option linter.unusedSectionVars false
variable [Fx]
section
variable {P : Program} {n : Nat} {w : World} {m : AMap} {H : AHeap} {B : Nat} {env : AEnv} {a : Act} {o : Oper} {r : QR}
theorem q_build {t : TypeId} {i : TypeInfo} {fields : Array Field} {z : Value} {x : List AV} {parts : Array (Nat × Operand)} {l : List (Nat × Nat × Operand)} (hi : P.info? t = some i) (ht : P.underlying t = some (.struct fields)) (hz : i.zero = some z) (hl : trParts P fields parts.toList = some l)
    (hc : cst z = some (.agg x)) (hall : ∀ f, f ∈ fields → ∃ j, P.info? f.type = some j) (ho : o.op = .build t parts) (fr : FR n w m H B env a) (h : qstep (.build x l) env H = some r) : QOK P o a w m H B r := by
  simp only [qstep] at h
  split at h
  · rename_i cs hcs
    cases h
    have hx := cst_sound (w := w) (m := m) (H := H) (B := B) hc
    generalize hzz : z = zz at hx
    cases hx with
    | agg _ vs hl' h1 hh =>
      obtain ⟨p1, p2⟩ := trParts_spec fields parts.toList l hl
      -- the places
      have hpl : ∀ (fs : List Field), (∀ f, f ∈ fs → ∃ j, P.info? f.type = some j) → ∃ ps : List (Nat × Nat), (fs.mapM fun f => (do pure (f.offset, ← sizeOf f.type) : Sem (Nat × Nat))).run P w = .ok ps w ∧ ps.length = fs.length ∧
          ∀ (k : Nat) (f : Field) (j : TypeInfo), fs[k]? = some f → P.info? f.type = some j → ps[k]? = some (f.offset, j.size) := by
        intro fs
        induction fs with
        | nil => intro _; exact ⟨[], by simp, rfl, by simp⟩
        | cons f fs ih =>
          intro hf
          obtain ⟨ps, q1, q2, q3⟩ := ih fun g hg => hf g (by simp [hg])
          obtain ⟨j, hj⟩ := hf f (by simp)
          refine ⟨(f.offset, j.size) :: ps, ?_, by simp [q2], fun k g j' e1 e2 => ?_⟩
          · simp only [List.mapM_cons, Sem.run_bind, run_sizeOf' hj, Sem.run_pure, Result.andThen_ok, q1]
          · cases k with
            | zero => simp at e1; subst e1; rw [hj] at e2; cases e2; rfl
            | succ k => exact q3 k g j' (by simpa using e1) e2
      obtain ⟨ps, q1, q2, q3⟩ := hpl fields.toList (fun f hf => hall f (by simpa using hf))
      obtain ⟨us, f1, f2⟩ := fill_sound fr (fun k => ps[k]?) parts.toList l x cs vs ⟨hl', h1, hh⟩ p1 (fun k p q e1 e2 => by
        obtain ⟨g1, f, j, g2, g3, g4, g5⟩ := p2 k p q e1 e2
        exact ⟨g1, by rw [q3 p.1 f j (by simpa using g2) g3, g4, g5]⟩) hcs
      refine ⟨.agg us, ?_, .agg _ _ f2.1 f2.2.1 f2.2.2⟩
      have hm : (fields.mapM fun f => (do pure (f.offset, ← sizeOf f.type) : Sem (Nat × Nat))).run P w = .ok ps.toArray w := by
        rw [Array.mapM_eq_mapM_toList, Sem.run_map, q1, Result.andThen_ok]
      have hzc : z.cells = vs := by rw [hzz]; rfl
      have hf1 : Instr.fill (fun k => ps.toArray[k]?) z.cells (parts.map fun p => (p.1, a.eval p.2)).toList = some us := by
        rw [hzc]; simpa using f1
      simp only [execOp, ho, Instr.build, Sem.run_bind, zeroValue, typeInfo, run_program, Result.andThen_ok, hi, hz, Sem.run_pure, run_underlying ht, hm, hf1]
  · cases h
theorem q_buildA {t e : TypeId} {len : Nat} {i j : TypeInfo} {z : Value} {x : List AV} {parts : Array (Nat × Operand)} (hi : P.info? t = some i) (ht : P.underlying t = some (.array len e)) (hz : i.zero = some z) (hj : P.info? e = some j)
    (hc : cst z = some (.agg x)) (ho : o.op = .build t parts) (fr : FR n w m H B env a) (h : qstep (.build x (parts.toList.map fun p => (p.1 * j.size, j.size, p.2))) env H = some r) : QOK P o a w m H B r := by
  simp only [qstep] at h
  split at h
  · rename_i cs hcs
    cases h
    have hx := cst_sound (w := w) (m := m) (H := H) (B := B) hc
    generalize hzz : z = zz at hx
    cases hx with
    | agg _ vs hl' h1 hh =>
      obtain ⟨us, f1, f2⟩ := fill_sound fr (fun k => some (k * j.size, j.size)) parts.toList _ x cs vs ⟨hl', h1, hh⟩ (by simp) (fun k p q e1 e2 => by
        rw [List.getElem?_map, e1] at e2
        cases e2
        exact ⟨rfl, rfl⟩) hcs
      refine ⟨.agg us, ?_, .agg _ _ f2.1 f2.2.1 f2.2.2⟩
      have hzc : z.cells = vs := by rw [hzz]; rfl
      have hf1 : Instr.fill (fun k => some (k * j.size, j.size)) z.cells (parts.map fun p => (p.1, a.eval p.2)).toList = some us := by
        rw [hzc]; simpa using f1
      simp only [execOp, ho, Instr.build, Sem.run_bind, zeroValue, typeInfo, run_program, Result.andThen_ok, hi, hz, Sem.run_pure, run_underlying ht, run_sizeOf' hj, hf1]
  · cases h
theorem aeqO_append : ∀ (l1 l2 : List (Nat × Nat)) (xs ys : List AV) (r : Bool), aeqO (l1 ++ l2) xs ys = some r → ∃ r1 r2, aeqO l1 xs ys = some r1 ∧ aeqO l2 xs ys = some r2 ∧ r = (r1 && r2)
  | [], l2, xs, ys, r, h => ⟨true, r, rfl, h, rfl⟩
  | (k, off) :: l1, l2, xs, ys, r, h => by
    simp only [List.cons_append, aeqO] at h
    split at h
    · rename_i r' hr'
      obtain ⟨r1, r2, e1, e2, rfl⟩ := aeqO_append l1 l2 xs ys r' hr'
      split at h
      · split at h
        · rename_i a1 _ x k' y h1 h2 hk
          cases h
          exact ⟨_, r2, by simp only [aeqO, e1, h1, h2, hk, if_true]; rfl, e2, by rw [Bool.and_assoc]⟩
        · cases h
      · rename_i h1 h2
        cases h
        exact ⟨_, r2, by simp only [aeqO, e1, h1, h2]; rfl, e2, by rw [Bool.and_assoc]⟩
      · rename_i h1 h2
        cases h
        exact ⟨_, r2, by simp only [aeqO, e1, h1, h2]; rfl, e2, by rw [Bool.and_assoc]⟩
      · cases h
    · cases h
theorem aeqO_congr (off : Nat) : ∀ (l : List (Nat × Nat)) (xs ys xs' ys' : List AV) (r : Bool), (∀ p, p ∈ l → xs'[p.2]? = xs[off + p.2]? ∧ ys'[p.2]? = ys[off + p.2]?) → aeqO (l.map fun p => (p.1, off + p.2)) xs ys = some r → aeqO l xs' ys' = some r
  | [], xs, ys, xs', ys', r, _, h => h
  | (k, o) :: l, xs, ys, xs', ys', r, hp, h => by
    simp only [List.map_cons, aeqO] at h ⊢
    have h0 := hp (k, o) (by simp)
    simp only at h0
    rw [h0.1, h0.2]
    split at h
    · rename_i r' hr'
      rw [aeqO_congr off l xs ys xs' ys' r' (fun p hm => hp p (by simp [hm])) hr']
      exact h
    · cases h
theorem run_eqFields_cons (d : Nat) (f : Field) (fs : List Field) (us vs : Array Value) (hn : f.name ≠ "_") {u v : Value} (hu : (part f.type us f.offset).run P w = .ok u w) (hv : (part f.type vs f.offset).run P w = .ok v w) {r1 r2 : Bool} (h1 : (Op.equalIn d f.type u v).run P w = .ok r1 w) (h2 : (Op.eqFields d us vs fs).run P w = .ok r2 w) :
    (Op.eqFields d us vs (f :: fs)).run P w = .ok (r1 && r2) w := by
  simp only [Op.eqFields, if_pos hn, Sem.run_bind, hu, hv, h1, Result.andThen_ok]
  cases r1 with
  | true => simpa using h2
  | false => simp
theorem flat_sound : ∀ (d : Nat), (∀ (t : TypeId) (offs : List (Nat × Nat)), flatOffs P d t = some offs → ∀ (k : Nat) (x y : AV) (u v : Value) (r : Bool), RV w m H B x u → RV w m H B y v → (∀ e, P.underlying t = some e → (isAggD e = true → (∃ l, x = .agg l) ∧ ∃ l, y = .agg l) ∧ (isAggD e = false → x.cells = [x] ∧ y.cells = [y])) →
      aeqO offs x.cells y.cells = some r → (Op.equalIn (d + k) t u v).run P w = .ok r w) ∧
    (∀ (fs : List Field) (offs : List (Nat × Nat)), flatFields P d fs = some offs → ∀ (k : Nat) (xs ys : List AV) (us vs : Array Value) (r : Bool), RL w m H B xs us → RL w m H B ys vs →
      aeqO offs xs ys = some r → (Op.eqFields (d + k) us vs fs).run P w = .ok r w)
  | 0 => ⟨fun t offs h => by simp [flatOffs] at h, fun fs offs h => by simp [flatFields] at h⟩
  | d + 1 => by
    obtain ⟨ih1, ih2⟩ := flat_sound d
    have hd : ∀ k, d + 1 + k = d + (k + 1) := by intro k; omega
    refine ⟨fun t offs h k x y u v r hx hy hagg hr => ?_, fun fs offs h k xs ys us vs r hx hy hr => ?_⟩
    · rw [show d + 1 + k = (d + k) + 1 by omega]
      simp only [flatOffs] at h
      split at h
      · rename_i ki hu
        cases h
        obtain ⟨cx, cy⟩ := (hagg _ hu).2 rfl
        rw [cx, cy] at hr
        simp only [aeqO, List.getElem?_cons_zero] at hr
        split at hr
        · rename_i h1 h2
          cases h1; cases h2
          split at hr
          · rename_i hk
            subst hk
            cases hr
            cases hx; cases hy
            rw [run_equalIn_int w _ t _ _ _ _ hu, Bool.and_true]
          · cases hr
        · omega
        · omega
        · cases hr
      · rename_i hu
        cases h
        obtain ⟨cx, cy⟩ := (hagg _ hu).2 rfl
        rw [cx, cy] at hr
        simp only [aeqO, List.getElem?_cons_zero] at hr
        split at hr
        · omega
        · rename_i h1 h2
          cases h1; cases h2; cases hr
          cases hx; cases hy
          rw [run_equalIn_bool' w _ t _ _ hu, Bool.and_true]
        · omega
        · cases hr
      · rename_i hu
        cases h
        obtain ⟨cx, cy⟩ := (hagg _ hu).2 rfl
        rw [cx, cy] at hr
        simp only [aeqO, List.getElem?_cons_zero] at hr
        split at hr
        · omega
        · omega
        · rename_i h1 h2
          cases h1; cases h2; cases hr
          cases hx; cases hy
          rw [run_equalIn_string w _ t _ _ hu, Bool.and_true, beq_toListBytes]
        · cases hr
      · rename_i fs hu
        split at h
        · rename_i hst
          obtain ⟨⟨l1, rfl⟩, ⟨l2, rfl⟩⟩ := (hagg _ hu).1 rfl
          cases hx with
          | agg _ us hl h1 hh =>
            cases hy with
            | agg _ vs hl' h1' hh' =>
              have hf : P.fieldsOf t = fs := by unfold Program.fieldsOf; rw [hu]
              rw [run_equalIn_struct w (d + k) t us vs (by rw [hf]; exact hu) hst, hf]
              exact ih2 fs.toList offs h k l1 l2 us vs r ⟨hl, h1, hh⟩ ⟨hl', h1', hh'⟩ hr
        · cases h
      · cases h
    · cases fs with
      | nil =>
        simp only [flatFields] at h
        cases h; cases hr
        simp [Op.eqFields]
      | cons f fs =>
        simp only [flatFields] at h
        split at h
        · rename_i l i rest hl hi hrest
          split at h
          · rename_i hc
            obtain ⟨hc1, hc2⟩ := hc
            cases h
            obtain ⟨r1, r2, e1, e2, rfl⟩ := aeqO_append _ _ _ _ _ hr
            have hrest' := ih2 fs rest hrest (k + 1) xs ys us vs r2 hx hy e2
            rw [← hd] at hrest'
            have hlt : ∀ p, p ∈ l → p.2 < i.size := fun p hp => by
              have := List.all_eq_true.1 hc2 p hp
              simpa using this
            have hunder : ∃ e, P.underlying f.type = some e := by
              cases d with
              | zero => simp [flatOffs] at hl
              | succ d =>
                simp only [flatOffs] at hl
                split at hl <;> first | exact ⟨_, ‹_›⟩ | cases hl
            obtain ⟨e, he⟩ := hunder
            by_cases hg : isAggD e = true
            · have q : ∀ (zs : List AV) (ws : Array Value), RL w m H B zs ws → (part f.type ws f.offset).run P w = .ok (.agg (ws.extract f.offset (f.offset + i.size))) w ∧ RV w m H B (.agg ((zs.drop f.offset).take i.size)) (.agg (ws.extract f.offset (f.offset + i.size))) := by
                intro zs ws hz
                refine ⟨by simp [part, run_isAgg he, hg, run_sizeOf' hi], .agg _ _ (by simp [hz.1]; omega) (fun y hy => hz.2.1 y (List.mem_of_mem_drop (List.mem_of_mem_take hy))) (fun k' y u e1 e2 => ?_)⟩
                rw [List.getElem?_take] at e1
                split at e1
                · rw [List.getElem?_drop] at e1
                  refine hz.2.2 _ y u e1 ?_
                  rw [Array.getElem?_extract] at e2
                  split at e2
                  · exact e2
                  · cases e2
                · cases e1
              obtain ⟨a1, a2⟩ := q xs us hx
              obtain ⟨b1, b2⟩ := q ys vs hy
              refine run_eqFields_cons _ f fs us vs hc1 a1 b1 ?_ hrest'
              rw [hd]
              refine ih1 f.type l hl (k + 1) _ _ _ _ r1 a2 b2 (fun e' he' => ?_) ?_
              · rw [he] at he'; cases he'
                exact ⟨fun _ => ⟨⟨_, rfl⟩, ⟨_, rfl⟩⟩, fun h0 => by rw [hg] at h0; cases h0⟩
              · refine aeqO_congr f.offset l xs ys _ _ r1 (fun p hp => ?_) e1
                have := hlt p hp
                simp only [AV.cells]
                rw [List.getElem?_take_of_lt this, List.getElem?_take_of_lt this, List.getElem?_drop, List.getElem?_drop]
                exact ⟨rfl, rfl⟩
            · have hl1 : ∃ kk, l = [(kk, 0)] := by
                cases d with
                | zero => simp [flatOffs] at hl
                | succ d =>
                  simp only [flatOffs, he] at hl
                  cases e <;> simp [isAggD] at hg hl <;> exact ⟨_, hl.symm⟩
              obtain ⟨kk, rfl⟩ := hl1
              have q : ∀ (zs : List AV) (ws : Array Value) (z : AV), RL w m H B zs ws → zs[f.offset]? = some z → ∃ u, (part f.type ws f.offset).run P w = .ok u w ∧ RV w m H B z u ∧ z.one = true := by
                intro zs ws z hz hzz
                have hlt : f.offset < ws.size := by
                  rcases Nat.lt_or_ge f.offset ws.size with h' | h'
                  · exact h'
                  · rw [List.getElem?_eq_none (by rw [hz.1]; omega)] at hzz; cases hzz
                exact ⟨ws[f.offset], by simp [part, run_isAgg he, hg, hlt], hz.2.2 _ z _ hzz (Array.getElem?_eq_getElem hlt), hz.2.1 z (List.mem_of_getElem? hzz)⟩
              have hsome : ∃ x y, xs[f.offset]? = some x ∧ ys[f.offset]? = some y := by
                simp only [List.map_cons, List.map_nil, aeqO, Nat.add_zero] at e1
                split at e1
                · exact ⟨_, _, ‹_›, ‹_›⟩
                · exact ⟨_, _, ‹_›, ‹_›⟩
                · exact ⟨_, _, ‹_›, ‹_›⟩
                · cases e1
              obtain ⟨x, y, hx0, hy0⟩ := hsome
              obtain ⟨u, a1, a2, a3⟩ := q xs us x hx hx0
              obtain ⟨v, b1, b2, b3⟩ := q ys vs y hy hy0
              have cell1 : ∀ z : AV, z.one = true → z.cells = [z] := by
                intro z hz; cases z <;> first | rfl | cases hz
              refine run_eqFields_cons _ f fs us vs hc1 a1 b1 ?_ hrest'
              rw [hd]
              refine ih1 f.type _ hl (k + 1) x y u v r1 a2 b2 (fun e' he' => ?_) ?_
              · rw [he] at he'; cases he'
                exact ⟨fun h0 => absurd h0 hg, fun _ => ⟨cell1 x a3, cell1 y b3⟩⟩
              · refine aeqO_congr f.offset _ xs ys _ _ r1 (fun p hp => ?_) e1
                simp at hp; subst hp
                rw [cell1 x a3, cell1 y b3]
                simp [hx0, hy0]
          · cases h
        · cases h
theorem q_eqA {neg : Bool} {t u : TypeId} {fs : Array Field} {x y : Operand} {offs : List (Nat × Nat)} (ht : P.underlying t = some (.struct fs)) (hf : flatOffs P 40 t = some offs) (hgd : P.eqGuardType P.depth t = false) (ho : o.op = .binOp (if neg then .neq else .eql) t x y u) (fr : FR n w m H B env a)
    (h : qstep (.eqA neg offs x y) env H = some r) : QOK P o a w m H B r := by
  simp only [qstep] at h
  split at h
  · rename_i p q hp hq
    split at h
    · rename_i b hb
      cases h
      have hx := ev_sound fr hp
      have hy := ev_sound fr hq
      generalize he : a.eval x = u at hx
      generalize hf' : a.eval y = v at hy
      have key := (flat_sound (P := P) 40).1 t offs hf 9960 (.agg p) (.agg q) u v b hx hy (fun e he' => by
        rw [ht] at he'; cases he'
        exact ⟨fun _ => ⟨⟨_, rfl⟩, ⟨_, rfl⟩⟩, fun h0 => by cases h0⟩) hb
      cases hx with
      | agg _ us hl h1 hh =>
        cases hy with
        | agg _ vs hl' h1' hh' =>
          cases neg
          · exact ⟨.bool b, by simp [execOp, ho, he, hf', run_eqGuard_agg w _ t _ _ _ _ hgd, binOp, Op.equal, Op.maxDepth, key], .bool _⟩
          · exact ⟨.bool (!b), by simp [execOp, ho, he, hf', run_eqGuard_agg w _ t _ _ _ _ hgd, binOp, Op.equal, Op.maxDepth, key], .bool _⟩
    · cases h
  · cases h
end
end Go.Awp
/- The truth of quiet operations in the model (part 11). Generic in the program. -/
namespace Go.Awp
set_option linter.unusedSectionVars false
variable [Fx]
theorem flatten_get {α : Type} {s : Nat} : ∀ (es : List (List α)), (∀ e, e ∈ es → e.length = s) → ∀ (i : Nat) (e : List α) (j : Nat) (x : α), es[i]? = some e → e[j]? = some x → es.flatten[i * s + j]? = some x
  | [], _, i, e, j, x, h, _ => by simp at h
  | e0 :: es, hs, i, e, j, x, h1, h2 => by
    have h0 := hs e0 (by simp)
    cases i with
    | zero =>
      simp at h1; subst h1
      have : j < e0.length := by
        rcases Nat.lt_or_ge j e0.length with h' | h'
        · exact h'
        · rw [List.getElem?_eq_none h'] at h2; cases h2
      simp only [List.flatten_cons, Nat.zero_mul, Nat.zero_add]
      rw [List.getElem?_append_left this]; exact h2
    | succ i =>
      have := flatten_get es (fun e he => hs e (by simp [he])) i e j x (by simpa using h1) h2
      simp only [List.flatten_cons]
      rw [List.getElem?_append_right (by rw [Nat.add_mul]; omega)]
      rw [show (i + 1) * s + j - e0.length = i * s + j by rw [Nat.add_mul]; omega]
      exact this
theorem flatten_length {α : Type} {s : Nat} : ∀ (es : List (List α)), (∀ e, e ∈ es → e.length = s) → es.flatten.length = es.length * s
  | [], _ => by simp
  | e :: es, hs => by
    simp only [List.flatten_cons, List.length_append, List.length_cons]
    rw [flatten_length es (fun e he => hs e (by simp [he])), hs e (by simp), Nat.add_mul]; omega
theorem setMany_append_left : ∀ (c : List AV) (p q : List AV) (off : Nat), off + c.length ≤ p.length → setMany (p ++ q) off c = setMany p off c ++ q
  | [], p, q, off, _ => rfl
  | x :: c, p, q, off, h => by
    simp only [setMany]
    simp only [List.length_cons] at h
    rw [List.set_append_left _ _ (by omega), setMany_append_left c _ q (off + 1) (by simp; omega)]
theorem setMany_append_right : ∀ (c : List AV) (p q : List AV) (off : Nat), setMany (p ++ q) (p.length + off) c = p ++ setMany q off c
  | [], p, q, off => rfl
  | x :: c, p, q, off => by
    simp only [setMany]
    rw [List.set_append_right _ _ (by omega), Nat.add_sub_cancel_left, Nat.add_assoc, setMany_append_right c p _ (off + 1)]
theorem setMany_all : ∀ (c p r : List AV), c.length = p.length → setMany (r ++ p) r.length c = r ++ c
  | [], p, r, h => by
    have : p = [] := List.eq_nil_of_length_eq_zero (by simpa using h.symm)
    subst this; rfl
  | x :: c, p, r, h => by
    cases p with
    | nil => simp at h
    | cons y p =>
      simp only [setMany]
      rw [List.set_append_right _ _ (by omega), Nat.sub_self]
      simp only [List.set_cons_zero]
      have := setMany_all c p (r ++ [x]) (by simpa using h)
      simpa using this
theorem flatten_set {s : Nat} : ∀ (es : List (List AV)), (∀ e, e ∈ es → e.length = s) → ∀ (i : Nat) (c : List AV), c.length = s → i < es.length → (es.set i c).flatten = setMany es.flatten (i * s) c
  | [], _, i, c, _, h => by simp at h
  | e :: es, hs, i, c, hc, hi => by
    have h0 := hs e (by simp)
    cases i with
    | zero =>
      simp only [List.set_cons_zero, List.flatten_cons, Nat.zero_mul]
      rw [setMany_append_left c e es.flatten 0 (by omega)]
      have := setMany_all c e [] (by omega)
      simp at this
      rw [this]
    | succ i =>
      simp only [List.set_cons_succ, List.flatten_cons]
      rw [flatten_set es (fun e he => hs e (by simp [he])) i c hc (by simpa using hi)]
      rw [← setMany_append_right c e es.flatten (i * s)]
      congr 1
      rw [Nat.add_mul]; omega
theorem afillE_flat {env : AEnv} {s : Nat} : ∀ (parts : List (Nat × Operand)) (es es' : List (List AV)), (∀ e, e ∈ es → e.length = s) → afillE env s es parts = some es' →
    afill env es.flatten (parts.map fun p => (p.1 * s, s, p.2)) = some es'.flatten ∧ (∀ e, e ∈ es' → e.length = s) ∧ es'.length = es.length
  | [], es, es', hs, h => by cases h; exact ⟨rfl, hs, rfl⟩
  | (i, x) :: parts, es, es', hs, h => by
    simp only [afillE] at h
    split at h
    · rename_i v hv
      split at h
      · rename_i hc
        obtain ⟨c1, c2, c3⟩ := hc
        have hs' : ∀ e, e ∈ es.set i v.cells → e.length = s := by
          intro e he
          rcases List.mem_or_eq_of_mem_set he with he | rfl
          · exact hs e he
          · exact c1
        obtain ⟨q1, q2, q3⟩ := afillE_flat parts _ es' hs' h
        refine ⟨?_, q2, by simpa using q3⟩
        have hlen : i * s + s ≤ es.flatten.length := by
          rw [flatten_length es hs]
          have : (i + 1) * s ≤ es.length * s := Nat.mul_le_mul_right _ c2
          rw [Nat.add_mul] at this; omega
        simp only [List.map_cons, afill, hv, c1, c3, hlen, and_self, if_true]
        rw [← flatten_set es hs i v.cells c1 c2]
        exact q1
      · cases h
    · cases h
section
variable {P : Program} {n : Nat} {w : World} {m : AMap} {H : AHeap} {B : Nat} {env : AEnv} {a : Act} {o : Oper} {r : QR}
theorem RL_zeros {z : List AV} {zc : Array Value} {s : Nat} (h : RL w m H B z zc) (hz : z.length = s) (hs : 0 < s) (k : Nat) : RL w m H B (List.replicate k z).flatten ((Array.range (k * s)).map fun i => zc[i % zc.size]!) := by
  have hu : ∀ e, e ∈ List.replicate k z → e.length = s := by intro e he; rw [List.eq_of_mem_replicate he]; exact hz
  have hlen := flatten_length (List.replicate k z) hu
  simp only [List.length_replicate] at hlen
  have hsz : zc.size = s := by have := h.1; omega
  refine ⟨by simp [hlen], fun x hx => ?_, fun i x v e1 e2 => ?_⟩
  · obtain ⟨e, he, hx⟩ := List.mem_flatten.1 hx
    rw [List.eq_of_mem_replicate he] at hx
    exact h.2.1 x hx
  · have hi : i < k * s := by
      rcases Nat.lt_or_ge i (k * s) with h' | h'
      · exact h'
      · rw [List.getElem?_eq_none (by omega)] at e1; cases e1
    have hq : i / s < k := Nat.div_lt_of_lt_mul (by rwa [Nat.mul_comm] at hi)
    have hr : i % s < s := Nat.mod_lt _ hs
    have hdm : i / s * s + i % s = i := by rw [Nat.mul_comm]; exact Nat.div_add_mod i s
    have hg := flatten_get (List.replicate k z) hu (i / s) z (i % s) (z[i % s]'(by omega)) (by simp [hq]) (List.getElem?_eq_getElem _)
    rw [hdm, e1] at hg
    cases hg
    have : v = zc[i % s]'(by omega) := by
      simp [hi, hsz] at e2
      rw [← e2]
      rw [getElem!_pos zc (i % s) (by omega)]
    rw [this]
    exact h.2.2 (i % s) _ _ (List.getElem?_eq_getElem _) (Array.getElem?_eq_getElem _)
theorem arr_cells {es : List (List AV)} {s : Nat} {vs : Array Value} (hs : ∀ e, e ∈ es → e.length = s) (h : RL w m H B es.flatten vs) : ∀ (i : Nat) (el : List AV) (j : Nat) (x : AV), es[i]? = some el → el[j]? = some x → ∃ v, vs[i * s + j]? = some v ∧ RV w m H B x v ∧ x.one = true := by
  intro i el j x h1 h2
  have hg := flatten_get es hs i el j x h1 h2
  have hlt : i * s + j < vs.size := by
    rcases Nat.lt_or_ge (i * s + j) vs.size with h' | h'
    · exact h'
    · rw [List.getElem?_eq_none (by rw [h.1]; exact h')] at hg; cases hg
  exact ⟨vs[i * s + j], Array.getElem?_eq_getElem hlt, h.2.2 _ x _ hg (Array.getElem?_eq_getElem hlt), h.2.1 x (List.mem_of_getElem? hg)⟩
theorem zero_RL {z : Value} {x : AV} (hc : cst z = some x) (h1 : x.cells.all AV.one = true) : RL w m H B x.cells z.cells := by
  have hx := cst_sound (w := w) (m := m) (H := H) (B := B) hc
  have ht : ∀ l, x ≠ .tuple l := by
    intro l e; subst e; simp [AV.cells, AV.one] at h1
  exact hx.cells ht
theorem q_mklit {t e : TypeId} {i : TypeInfo} {z : Value} {x : AV} {len : Nat} {parts : Array (Nat × Operand)} (ht : P.underlying t = some (.slice e)) (hi : P.info? e = some i) (hz : i.zero = some z) (hc : cst z = some x) (h1 : x.cells.all AV.one = true) (hs : 0 < i.size) (hbig : len * i.size ≤ 16777216)
    (ho : o.op = .buildSlice t len parts) (fr : FR n w m H B env a) (h : qstep (.mklit e i.size len x.cells parts.toList) env H = some r) : QOK P o a w m H B r := by
  simp only [qstep] at h
  split at h
  · rename_i hl
    obtain ⟨hl, hn⟩ := hl
    split at h
    · rename_i es hes
      cases h
      rcases Nat.eq_zero_or_pos len with hz0 | hpos
      · subst hz0
        have hp : parts.toList = [] := by
          cases hp : parts.toList with
          | nil => rfl
          | cons q qs =>
            rw [hp] at hes
            obtain ⟨k, xo⟩ := q
            simp only [afillE] at hes
            split at hes
            · rw [if_neg (by simp)] at hes; cases hes
            · cases hes
        rw [hp] at hes
        have he : es = [] := by simpa [afillE] using hes.symm
        subst he
        have hpa : parts = #[] := by cases parts; simp_all
        subst hpa
        refine ⟨by simp, #[], 0, ?_, Nat.le_refl _, by unfold maxLen; omega, by simp, by simp⟩
        simp only [execOp, ho, Instr.buildSlice, Sem.run_bind, run_underlying ht, Result.andThen_ok, run_sizeOf' hi, Nat.zero_mul, show ¬ 0 > 2 ^ 24 by decide, if_false, if_true, Sem.run_pure, Instr.fill, Array.map_empty, show Array.range 0 = #[] by simp, newRow, run_newObj, World.alloc, List.length_nil]
      have hu : ∀ e, e ∈ List.replicate len x.cells → e.length = i.size := by intro e he; rw [List.eq_of_mem_replicate he]; exact hl
      obtain ⟨q1, q2, q3⟩ := afillE_flat parts.toList _ es hu hes
      have hz0 := RL_zeros (zero_RL (w := w) (m := m) (H := H) (B := B) hc h1) hl hs len
      obtain ⟨us, f1, f2⟩ := fill_sound fr (fun k => some (k * i.size, i.size)) parts.toList _ _ _ _ hz0 (by simp) (fun k p q e1 e2 => by
        rw [List.getElem?_map, e1] at e2
        cases e2
        exact ⟨rfl, rfl⟩) q1
      have hlen : es.length = len := by simpa using q3
      refine ⟨q2, us, len, ?_, by omega, by unfold maxLen; omega, by rw [← f2.1, flatten_length es q2, hlen], arr_cells q2 f2⟩
      have hf1 : Instr.fill (fun k => some (k * i.size, i.size)) ((Array.range (len * i.size)).map fun k => z.cells[k % z.cells.size]!) (parts.map fun p => (p.1, a.eval p.2)).toList = some us := by simpa using f1
      have hb : ¬ len * i.size > 2 ^ 24 := by omega
      have h0 : ¬ len * i.size = 0 := by
        intro h0
        rcases Nat.mul_eq_zero.1 h0 with h | h <;> omega
      rw [hlen]
      simp only [execOp, ho, Instr.buildSlice, Sem.run_bind, run_underlying ht, Result.andThen_ok, run_sizeOf' hi, Sem.run_ite, hb, if_false, Sem.run_pure, h0, zeroValue, typeInfo, run_program, hi, hz, hf1, newRow, run_newObj, World.alloc]
    · cases h
  · cases h
theorem q_mkslice {t e : TypeId} {i : TypeInfo} {z : Value} {x : AV} {l c : Operand} (ht : P.underlying t = some (.slice e)) (hi : P.info? e = some i) (hz : i.zero = some z) (hc : cst z = some x) (h1 : x.cells.all AV.one = true) (hs : 0 < i.size)
    (ho : o.op = .makeSlice t l c) (fr : FR n w m H B env a) (h : qstep (.mkslice e i.size i.bytes x.cells l c) env H = some r) : QOK P o a w m H B r := by
  simp only [qstep] at h
  split at h
  · rename_i kl lz kc cz hlv hcv
    split at h
    · rename_i hh
      obtain ⟨g1, g2, g3, g4, g5⟩ := hh
      cases h
      have hx := ev_sound fr hlv
      have hy := ev_sound fr hcv
      generalize he : a.eval l = u at hx
      generalize hf : a.eval c = v at hy
      cases hx; cases hy
      have hrl := RL_zeros (zero_RL (w := w) (m := m) (H := H) (B := B) hc h1) g1 hs cz.toNat
      have hu : ∀ (k : Nat) e, e ∈ List.replicate k x.cells → e.length = i.size := by intro k e he; rw [List.eq_of_mem_replicate he]; exact g1
      refine ⟨hu _, madeCells z.cells (cz.toNat * i.size), cz.toNat, ?_, by simp; omega, by unfold maxLen; omega, ?_, fun k el j y e1 e2 => ?_⟩
      · have := run_make (P := P) w t e i z ht hi hz kl kc lz cz g2 g3 g4 g5
        simp only [execOp, ho, he, hf, Sem.run_bind, this, Result.andThen_ok, Sem.run_pure, List.length_replicate]
      · rw [size_madeCells]
      · have hk : k < cz.toNat := by
          rcases Nat.lt_or_ge k lz.toNat with h' | h'
          · omega
          · rw [List.getElem?_eq_none (by simpa using h')] at e1; cases e1
        have e1' : (List.replicate cz.toNat x.cells)[k]? = some el := by
          rw [List.getElem?_replicate] at e1 ⊢
          split at e1
          · rw [if_pos hk]; exact e1
          · cases e1
        exact arr_cells (hu _) hrl k el j y e1' e2
    · cases h
  · cases h
end
end Go.Awp
/- The truth of quiet operations in the model: all of them. Generic in the program. -/
namespace Go.Awp
set_option linter.unusedSectionVars false
variable [Fx]
section
variable {P : Program} {n : Nat} {w : World} {m : AMap} {H : AHeap} {B : Nat} {env : AEnv} {a : Act} {o : Oper} {r : QR} {io : IOp}
theorem qstep_sound (htr : trOp P o = some io) (st : St w m H B) (fr : FR n w m H B env a) (h : qstep io env H = some r) : QOK P o a w m H B r := by
  unfold trOp at htr
  split at htr
  · cases htr; exact q_mv (.inl ‹_›) fr h
  · cases htr; exact q_mv (.inr ‹_›) fr h
  · cases htr; exact q_pick ‹_› fr h
  · split at htr
    · cases htr; exact q_load ‹_› ‹_› ‹_› st fr h
    · cases htr
  · split at htr
    · cases htr; exact q_box ‹_› fr h
    · cases htr
  · split at htr
    · split at htr
      · split at htr
        · split at htr
          · cases htr; exact q_zero ‹_› ‹_› ‹_› ‹_› ‹_› h
          · cases htr
        · cases htr
      · cases htr
    · cases htr
  · split at htr
    · split at htr
      · split at htr
        · split at htr
          · rename_i hall
            cases htr
            refine q_build ‹_› ‹_› ‹_› ‹_› ‹_› (fun f hf => ?_) ‹_› fr h
            have := List.all_eq_true.1 hall f (by simpa using hf)
            exact Option.isSome_iff_exists.1 this
          · cases htr
        · cases htr
      · cases htr
    · split at htr
      · split at htr
        · cases htr
          rename_i hob _ _ _ _ _ hi ht _ _ _ _ hz hj _ _ hc
          exact q_buildA hi ht hz hj hc hob fr h
        · cases htr
      · cases htr
    · cases htr
  · split at htr
    · split at htr
      · split at htr
        · cases htr; simp [qstep] at h
        · cases htr
      · cases htr
    · cases htr
  · split at htr
    · split at htr
      · split at htr
        · split at htr
          · split at htr
            · rename_i hc
              obtain ⟨h1, h2, h3⟩ := hc
              cases htr; exact q_mklit ‹_› ‹_› ‹_› ‹_› h1 h2 h3 ‹_› fr h
            · cases htr
          · cases htr
        · cases htr
      · cases htr
    · cases htr
  · split at htr
    · split at htr
      · split at htr
        · split at htr
          · split at htr
            · rename_i hc
              cases htr; exact q_mkslice ‹_› ‹_› ‹_› ‹_› hc.1 hc.2 ‹_› fr h
            · cases htr
          · cases htr
        · cases htr
      · cases htr
    · cases htr
  · split at htr
    · split at htr
      · split at htr
        · split at htr
          · cases htr
          · cases htr; exact q_faddr ‹_› ‹_› ‹_› ‹_› ‹_› fr h
        · cases htr
      · cases htr
    · cases htr
  · split at htr
    · split at htr
      · split at htr
        · cases htr; exact q_field ‹_› ‹_› ‹_› ‹_› ‹_› fr h
        · cases htr
      · cases htr
    · cases htr
  · split at htr
    · split at htr
      · cases htr; exact q_iaddr ‹_› ‹_› ‹_› fr h
      · cases htr
    · split at htr
      · cases htr; exact q_iaddrA ‹_› ‹_› ‹_› fr h
      · cases htr
    · cases htr
  · split at htr
    · split at htr
      · cases htr; exact q_indexA ‹_› ‹_› ‹_› ‹_› fr h
      · cases htr
    · cases htr; exact q_indexS ‹_› ‹_› fr h
    · cases htr
  · split at htr
    · split at htr
      · cases htr; exact q_slice ‹_› ‹_› ‹_› st fr h
      · cases htr
    · cases htr; exact q_sliceS ‹_› ‹_› fr h
    · split at htr
      · cases htr; exact q_sliceA ‹_› ‹_› ‹_› fr h
      · cases htr
    · cases htr
  · split at htr
    · split at htr
      · cases htr; exact q_slice0 ‹_› ‹_› ‹_› fr h
      · cases htr
    · cases htr
  · split at htr
    · split at htr
      · cases htr; exact q_slice3 ‹_› ‹_› ‹_› fr h
      · cases htr
    · cases htr
  · cases htr; exact q_extract ‹_› fr h
  · cases htr; exact q_un ‹_› fr h
  · split at htr
    · cases htr; exact q_bin ‹_› fr h
    · cases htr; exact q_bin ‹_› fr h
    · split at htr
      · cases htr; exact q_binB (neg := false) ‹_› ‹_› fr h
      · cases htr; exact q_binB (neg := true) ‹_› ‹_› fr h
      · cases htr
    · split at htr
      · cases htr; simp [qstep] at h
      · cases htr; simp [qstep] at h
      · cases htr
    · split at htr
      · split at htr
        · split at htr
          · cases htr; exact q_eqA (neg := false) ‹_› ‹_› ‹_› ‹_› fr h
          · cases htr; exact q_eqA (neg := true) ‹_› ‹_› ‹_› ‹_› fr h
          · cases htr
        · cases htr
      · cases htr
    · cases htr
  · split at htr
    · cases htr
      rename_i hob _ _ _ _ hs hd
      exact q_conv hs hd hob fr h
    · cases htr
  · split at htr
    · cases htr; exact q_iface ‹_› ‹_› fr h
    · cases htr
  · cases htr; exact q_mkfun ‹_› fr h
  · cases htr; exact q_nilchk ‹_› fr h
  · split at htr
    · cases htr; simp [qstep] at h
    · cases htr
  · rename_i b args ts hop
    split at htr
    · rename_i x t ha ht
      have ha' : args = #[x] := by cases args; simp_all
      have ht' : ts = #[t] := by cases ts; simp_all
      subst ha'; subst ht'
      split at htr
      · cases htr; exact q_len ‹_› ‹_› fr h
      · cases htr; exact q_lenS ‹_› ‹_› fr h
      · cases htr
    · cases htr; exact q_mm (mx := true) (by simpa using hop) fr h
    · cases htr; exact q_mm (mx := false) (by simpa using hop) fr h
    · split at htr
      · split at htr
        · split at htr
          · split at htr
            · split at htr
              · cases htr; simp [qstep] at h
              · cases htr
            · cases htr
          · cases htr
        · cases htr
      · cases htr
    · split at htr
      · split at htr
        · split at htr
          · cases htr; simp [qstep] at h
          · cases htr
        · cases htr
      · cases htr
    · split at htr
      · split at htr
        · split at htr
          · split at htr
            · split at htr
              · cases htr; simp [qstep] at h
              · cases htr
            · cases htr
          · cases htr
        · cases htr
      · cases htr
    · cases htr
  · cases htr; simp [qstep] at h
  · cases htr; simp [qstep] at h
  · cases htr; simp [qstep] at h
  · cases htr
end
end Go.Awp
/- How what is known of the activation's own objects is carried on. Generic in the program. -/
namespace Go.Awp
set_option linter.unusedSectionVars false
variable [Fx]
theorem St.mlt {w m H B} (st : St w m H B) {h b : Nat} (e : m h = some b) : h < H.length := by
  obtain ⟨_, _, o, _, e1, _⟩ := st.dom h b e
  exact AHeap.obj_lt e1
theorem St.push {w m H B} (st : St w m H B) (X : AHeap) : St w m (H ++ X) B ∧ Adv w m H w m (H ++ X) := by
  have ad : Adv w m H w m (H ++ X) := by
    refine ⟨rfl, rfl, rfl, Nat.le_refl _, fun _ _ _ => rfl, fun _ _ h => .inl h, by simp, fun h o' hh e => ?_⟩
    rw [AHeap.obj_push_lt hh] at e
    exact ⟨o', e, rfl, rfl, Nat.le_refl _, fun _ _ h => ⟨h, rfl⟩⟩
  refine ⟨⟨st.base, fun h b e => ?_, st.inj, st.fxa ad⟩, ad⟩
  obtain ⟨h1, h2, o, cs, e1, e2, e3, e4⟩ := st.dom h b e
  refine ⟨h1, h2, o, cs, by rw [AHeap.obj_push_lt (st.mlt e)]; exact e1, e2, e3, fun i el j x a1 a2 => ?_⟩
  obtain ⟨v, q1, q2, q3⟩ := e4 i el j x a1 a2
  exact ⟨v, q1, q2.mono ad, q3⟩
def AMap.without (m : AMap) (h : Nat) : AMap := fun k => if k = h then none else m k
def AMap.upd (m : AMap) (h b : Nat) : AMap := fun k => if k = h then some b else m k
theorem St.drop {w m H B} (st : St w m H B) {h : Nat} {o : AObj} (ho : AHeap.obj H h = some o) (o' : Option AObj) (hc : ∀ o1, o' = some o1 → o1.s = o.s ∧ o1.e = o.e ∧ o.elems.length < o1.elems.length) :
    St w (AMap.without m h) (H.set h o') B ∧ Adv w m H w (AMap.without m h) (H.set h o') := by
  have hlt := AHeap.obj_lt ho
  have ad : Adv w m H w (AMap.without m h) (H.set h o') := by
    refine ⟨rfl, rfl, rfl, Nat.le_refl _, fun _ _ _ => rfl, fun k b e => ?_, by simp, fun k o1 hk e => ?_⟩
    · unfold AMap.without at e
      split at e
      · cases e
      · exact .inl e
    · by_cases hkh : k = h
      · subst hkh
        rw [AHeap.obj_set_eq hlt] at e
        obtain ⟨c1, c2, c3⟩ := hc o1 e
        exact ⟨o, ho, c1, c2, by omega, fun e => by omega⟩
      · rw [AHeap.obj_set_ne (Ne.symm hkh)] at e
        exact ⟨o1, e, rfl, rfl, Nat.le_refl _, fun _ b e => ⟨by simp [AMap.without, hkh, e], rfl⟩⟩
  refine ⟨⟨st.base, fun k b e => ?_, fun k k' b e e' => ?_, st.fxa ad⟩, ad⟩
  · unfold AMap.without at e
    split at e
    · cases e
    · rename_i hkh
      obtain ⟨h1, h2, o1, cs, e1, e2, e3, e4⟩ := st.dom k b e
      refine ⟨h1, h2, o1, cs, by rw [AHeap.obj_set_ne (Ne.symm hkh)]; exact e1, e2, e3, fun i el j x a1 a2 => ?_⟩
      obtain ⟨v, q1, q2, q3⟩ := e4 i el j x a1 a2
      exact ⟨v, q1, q2.mono ad, q3⟩
  · unfold AMap.without at e e'
    split at e
    · cases e
    · split at e'
      · cases e'
      · exact st.inj k k' b e e'
theorem St.new {w m H B} (st : St w m H B) {h : Nat} {o : AObj} (ho : AHeap.obj H h = some o) (hm : m h = none) {w' : World} (os : w'.os = w.os) (tape : w'.tape = w.tape) (output : w'.output = w.output) {vs : Array Value} (heap : w'.heap = w.heap.push (.cells vs o.e))
    (hu : ∀ e, e ∈ o.elems → e.length = o.s) (hc : ∀ (i : Nat) (e : List AV) (j : Nat) (x : AV), o.elems[i]? = some e → e[j]? = some x → ∃ v, vs[i * o.s + j]? = some v ∧ RV w m H B x v ∧ x.one = true) :
    St w' (AMap.upd m h w.heap.size) H B ∧ Adv w m H w' (AMap.upd m h w.heap.size) H := by
  have old : ∀ b, b < w.heap.size → w'.heap[b]? = w.heap[b]? := by
    intro b hb; rw [heap, Array.getElem?_push, if_neg (by omega)]
  have sz : w'.heap.size = w.heap.size + 1 := by rw [heap]; simp
  have ad : Adv w m H w' (AMap.upd m h w.heap.size) H := by
    refine ⟨os, tape, output, by omega, fun b hb _ => old b hb, fun k b e => ?_, Nat.le_refl _, fun k o1 hk e => ⟨o1, e, rfl, rfl, Nat.le_refl _, fun _ b hb => ?_⟩⟩
    · unfold AMap.upd at e
      split at e
      · cases e; exact .inr (Nat.le_refl _)
      · exact .inl e
    · have hkh : k ≠ h := by intro e; subst e; rw [hm] at hb; cases hb
      refine ⟨by simp [AMap.upd, hkh, hb], ?_⟩
      unfold World.shape?
      rw [old b (st.dom k b hb).2.1]
  refine ⟨⟨by have := st.base; omega, fun k b e => ?_, fun k k' b e e' => ?_, st.fxa ad⟩, ad⟩
  · unfold AMap.upd at e
    split at e
    · rename_i hkh
      cases e; subst hkh
      refine ⟨st.base, by omega, o, vs, ho, by rw [heap]; simp, hu, fun i el j x a1 a2 => ?_⟩
      obtain ⟨v, q1, q2, q3⟩ := hc i el j x a1 a2
      exact ⟨v, q1, q2.mono ad, q3⟩
    · obtain ⟨h1, h2, o1, cs, e1, e2, e3, e4⟩ := st.dom k b e
      refine ⟨h1, by omega, o1, cs, e1, by rw [old b h2]; exact e2, e3, fun i el j x a1 a2 => ?_⟩
      obtain ⟨v, q1, q2, q3⟩ := e4 i el j x a1 a2
      exact ⟨v, q1, q2.mono ad, q3⟩
  · unfold AMap.upd at e e'
    split at e <;> split at e'
    · rename_i a b; rw [a, b]
    · rename_i a b
      cases e
      have := (st.dom k' _ e').2.1; omega
    · rename_i a b
      cases e'
      have := (st.dom k _ e).2.1; omega
    · exact st.inj k k' b e e'
theorem St.upd {w m H B} (st : St w m H B) {h b : Nat} {o o' : AObj} (ho : AHeap.obj H h = some o) (hm : m h = some b) (hs : o'.s = o.s) (he : o'.e = o.e) (hl : o.elems.length ≤ o'.elems.length) {w' : World} (os : w'.os = w.os) (tape : w'.tape = w.tape) (output : w'.output = w.output)
    (size : w'.heap.size = w.heap.size) (other : ∀ k, k ≠ b → w'.heap[k]? = w.heap[k]?) {cs cs' : Array Value} (hcs : w.heap[b]? = some (.cells cs o.e (0, 0))) (hcs' : w'.heap[b]? = some (.cells cs' o.e (0, 0))) (hsz : cs'.size = cs.size)
    (hu : ∀ e, e ∈ o'.elems → e.length = o'.s) (hc : ∀ (i : Nat) (e : List AV) (j : Nat) (x : AV), o'.elems[i]? = some e → e[j]? = some x → ∃ v, cs'[i * o'.s + j]? = some v ∧ RV w m H B x v ∧ x.one = true) :
    St w' m (H.set h (some o')) B ∧ Adv w m H w' m (H.set h (some o')) := by
  have hlt := AHeap.obj_lt ho
  have ad : Adv w m H w' m (H.set h (some o')) := by
    refine ⟨os, tape, output, by omega, fun k hk hn => other k (fun e => hn h (by rw [e]; exact hm)), fun _ _ h => .inl h, by simp, fun k o1 hk e => ?_⟩
    have shp : ∀ b', m k = some b' → w'.shape? b' = w.shape? b' := by
      intro b' hb'
      by_cases e' : b' = b
      · subst e'
        simp [World.shape?, hcs, hcs', hsz]
      · simp only [World.shape?, other b' e']
    by_cases hkh : k = h
    · subst hkh
      rw [AHeap.obj_set_eq hlt] at e
      cases e
      exact ⟨o, ho, hs, he, hl, fun _ b' hb' => ⟨hb', shp b' hb'⟩⟩
    · rw [AHeap.obj_set_ne (Ne.symm hkh)] at e
      exact ⟨o1, e, rfl, rfl, Nat.le_refl _, fun _ b' hb' => ⟨hb', shp b' hb'⟩⟩
  refine ⟨⟨by rw [size]; exact st.base, fun k b' e => ?_, st.inj, st.fxa ad⟩, ad⟩
  by_cases hkh : k = h
  · subst hkh
    rw [hm] at e; cases e
    obtain ⟨h1, h2, _⟩ := st.dom k b hm
    refine ⟨h1, by omega, o', cs', AHeap.obj_set_eq hlt, by rw [he]; exact hcs', hu, fun i el j x a1 a2 => ?_⟩
    obtain ⟨v, q1, q2, q3⟩ := hc i el j x a1 a2
    exact ⟨v, q1, q2.mono ad, q3⟩
  · obtain ⟨h1, h2, o1, cs1, e1, e2, e3, e4⟩ := st.dom k b' e
    have hbb : b' ≠ b := by intro e'; subst e'; exact hkh (st.inj k h b' e hm)
    refine ⟨h1, by omega, o1, cs1, by rw [AHeap.obj_set_ne (Ne.symm hkh)]; exact e1, by rw [other b' hbb]; exact e2, e3, fun i el j x a1 a2 => ?_⟩
    obtain ⟨v, q1, q2, q3⟩ := e4 i el j x a1 a2
    exact ⟨v, q1, q2.mono ad, q3⟩
end Go.Awp
/- Operations that write: the steps, and their truth in the model. Generic in the program. -/
namespace Go.Awp
set_option linter.unusedSectionVars false
variable [Fx]
theorem flatten_get_inv {α : Type} {s : Nat} : ∀ (es : List (List α)), (∀ e, e ∈ es → e.length = s) → ∀ (k : Nat) (x : α), es.flatten[k]? = some x → ∃ i e j, es[i]? = some e ∧ e[j]? = some x ∧ k = i * s + j
  | [], _, k, x, h => by simp at h
  | e :: es, hs, k, x, h => by
    have h0 := hs e (by simp)
    simp only [List.flatten_cons] at h
    rcases Nat.lt_or_ge k e.length with hk | hk
    · rw [List.getElem?_append_left hk] at h
      exact ⟨0, e, k, rfl, h, by omega⟩
    · rw [List.getElem?_append_right hk] at h
      obtain ⟨i, e', j, h1, h2, h3⟩ := flatten_get_inv es (fun e he => hs e (by simp [he])) _ x h
      exact ⟨i + 1, e', j, by simpa using h1, h2, by rw [Nat.add_mul]; omega⟩
/-- The cells that a function gives are those of a flat list. -/
def FC (w : World) (m : AMap) (H : AHeap) (B : Nat) (xs : List AV) (f : Nat → Option Value) : Prop :=
  ∀ (k : Nat) (x : AV), xs[k]? = some x → ∃ v, f k = some v ∧ RV w m H B x v ∧ x.one = true
theorem FC.nested {w m H B} {es : List (List AV)} {s : Nat} {f : Nat → Option Value} (hs : ∀ e, e ∈ es → e.length = s) (h : FC w m H B es.flatten f) : ∀ (i : Nat) (e : List AV) (j : Nat) (x : AV), es[i]? = some e → e[j]? = some x → ∃ v, f (i * s + j) = some v ∧ RV w m H B x v ∧ x.one = true :=
  fun i e j x h1 h2 => h _ x (flatten_get es hs i e j x h1 h2)
theorem FC.flat {w m H B} {es : List (List AV)} {s : Nat} {f : Nat → Option Value} (hs : ∀ e, e ∈ es → e.length = s) (h : ∀ (i : Nat) (e : List AV) (j : Nat) (x : AV), es[i]? = some e → e[j]? = some x → ∃ v, f (i * s + j) = some v ∧ RV w m H B x v ∧ x.one = true) : FC w m H B es.flatten f := by
  intro k x hk
  obtain ⟨i, e, j, h1, h2, rfl⟩ := flatten_get_inv es hs k x hk
  exact h i e j x h1 h2
theorem chunks_length {s : Nat} : ∀ (k : Nat) (l : List AV), (chunks s k l).length = k
  | 0, _ => rfl
  | k + 1, l => by simp [chunks, chunks_length k]
theorem chunks_get {s : Nat} : ∀ (k : Nat) (l : List AV) (i : Nat), i < k → (chunks s k l)[i]? = some ((l.drop (i * s)).take s)
  | 0, _, _, h => absurd h (Nat.not_lt_zero _)
  | k + 1, l, 0, _ => by simp [chunks]
  | k + 1, l, i + 1, h => by
    simp only [chunks, List.getElem?_cons_succ]
    rw [chunks_get k _ i (by omega), List.drop_drop]
    congr 3
    rw [Nat.succ_mul, Nat.add_comm]
def asrc (H : AHeap) (s : Nat) : AV → Option (List (List AV))
  | .sub h ver i j s' len => match AHeap.obj H h with
    | some o => (match o.elems[i]? with
      | some e => if ver = o.elems.length ∧ s = s' ∧ j + len * s ≤ e.length then some (chunks s len (e.drop j)) else none
      | none => none)
    | none => none
  | .own h ver i len => match AHeap.obj H h with
    | some o => if ver = o.elems.length ∧ s = o.s then some ((o.elems.drop i).take len) else none
    | none => none
  | .ro _ l => if (l.all fun e => e.length == s) then some l else none
  | .nilSlice => some []
  | _ => none
theorem asrc_sound {w m H B} (st : St w m H B) {s : Nat} {y : AV} {v : Value} (hy : RV w m H B y v) {els : List (List AV)} (h : asrc H s y = some els) :
    ∃ ad cap, v = .slice ad els.length cap ∧ (∀ e, e ∈ els → e.length = s) ∧ els.length ≤ cap ∧ (ad = none → cap = 0) ∧ (els ≠ [] → ∃ b off, ad = some ⟨b, off, none⟩ ∧ FC w m H B els.flatten fun k => w.cell? ⟨b, off + k, none⟩) := by
  unfold asrc at h
  split at h
  · rename_i h' ver i j s' len
    split at h
    · rename_i o ho
      split at h
      · rename_i e he
        split at h
        · rename_i hc
          obtain ⟨c1, c2, c3⟩ := hc
          cases h
          cases hy with
          | sub _ _ _ _ _ _ ad n cap hlt hh =>
            obtain ⟨b, q1, q2, q3, q4⟩ := (hh o ho).2 c1
            have hl : (chunks s len (e.drop j)).length = len := chunks_length _ _
            have hrow : ∀ i' r, (chunks s len (e.drop j))[i']? = some r → i' < len ∧ r = (e.drop (j + i' * s)).take s := by
              intro i' r hr
              have hlt' : i' < len := by rw [← hl]; exact (List.getElem?_eq_some_iff.1 hr).1
              rw [chunks_get len _ i' hlt', List.drop_drop] at hr
              cases hr
              exact ⟨hlt', rfl⟩
            have hu : ∀ r, r ∈ chunks s len (e.drop j) → r.length = s := by
              intro r hr
              obtain ⟨i', hi'⟩ := List.mem_iff_getElem?.1 hr
              obtain ⟨h1, rfl⟩ := hrow i' r hi'
              have hm := Nat.mul_le_mul_right s h1
              rw [Nat.succ_mul] at hm
              simp; omega
            refine ⟨some ad, cap, by rw [hl, q3], hu, by omega, fun e => (by cases e), fun hne => ?_⟩
            have h0 : 0 < cap := by
              rcases Nat.eq_zero_or_pos cap with h0 | h0
              · exact absurd (List.eq_nil_of_length_eq_zero (by omega)) hne
              · exact h0
            refine ⟨b, _, by rw [q2 h0], FC.flat (s := s) hu fun i' r k x h1 h2 => ?_⟩
            obtain ⟨g1, rfl⟩ := hrow i' r h1
            rw [List.getElem?_take] at h2
            split at h2
            · rw [List.getElem?_drop] at h2
              have := st.cell q1 ho he h2
              rw [show i * o.s + (j + i' * s + k) = i * o.s + j + (i' * s + k) by omega] at this
              exact this
            · cases h2
        · cases h
      · cases h
    · cases h
  · rename_i h' ver i len
    split at h
    · rename_i o ho
      split at h
      · rename_i hc
        obtain ⟨c1, c2⟩ := hc
        cases h
        cases hy with
        | own _ _ _ _ ad n cap hlt hh =>
          obtain ⟨b, q1, q2, q3, q4, q5, q6, q7⟩ := (hh o ho).2 c1
          obtain ⟨_, _, o', cs, e1, e2, e3, e4⟩ := st.dom h' b q1
          rw [ho] at e1; cases e1
          have hl : ((o.elems.drop i).take len).length = len := by simp; omega
          have hu : ∀ e, e ∈ (o.elems.drop i).take len → e.length = s := fun e he => by rw [c2]; exact e3 e (List.mem_of_mem_drop (List.mem_of_mem_take he))
          have key : ∀ b off, ad = some ⟨b, off, none⟩ → m h' = some b → off = i * o.s → FC w m H B ((o.elems.drop i).take len).flatten fun k => w.cell? ⟨b, off + k, none⟩ := by
            intro b off _ hb hoff
            subst hoff
            refine FC.flat (s := s) hu fun i' e j x h1 h2 => ?_
            rw [List.getElem?_take] at h1
            split at h1
            · rw [List.getElem?_drop] at h1
              have := st.cell hb ho h1 h2
              rw [show (i + i') * o.s + j = i * o.s + (i' * s + j) by rw [c2, Nat.add_mul]; omega] at this
              exact this
            · cases h1
          refine ⟨ad, cap, by rw [hl, q3], hu, by omega, fun e => ?_, fun hne => ?_⟩
          · rcases Nat.eq_zero_or_pos cap with h0 | h0
            · exact h0
            · rw [q2 (.inl h0)] at e; cases e
          · have h0 : 0 < cap := by
              rcases Nat.eq_zero_or_pos cap with h0 | h0
              · exact absurd (List.eq_nil_of_length_eq_zero (by omega)) hne
              · exact h0
            exact ⟨b, _, q2 (.inl h0), key b _ (q2 (.inl h0)) q1 rfl⟩
      · cases h
    · cases h
  · rename_i fl l
    split at h
    · rename_i hall
      injection h with h
      subst h
      have hu : ∀ e, e ∈ l → e.length = s := fun e he => by simpa using List.all_eq_true.1 hall e he
      cases hy with
      | roNil _ ad cap ha => exact ⟨ad, cap, rfl, hu, Nat.zero_le _, ha, fun hne => absurd rfl hne⟩
      | ro _ _ s' b off cap vs hl hb hfr hlt hs hcap hc hv =>
        have es : s' = s := by
          cases l with
          | nil => exact absurd rfl hl
          | cons e l => rw [← hs e (by simp), hu e (by simp)]
        subst es
        exact ⟨_, cap, rfl, hu, hcap, fun e => (by cases e), fun _ => ⟨b, off, rfl, FC.flat hu fun i e j x h1 h2 => ⟨vs i j, by rw [← Nat.add_assoc]; exact (hc i e j x h1 h2).1, hv i e j x h1 h2, (hc i e j x h1 h2).2⟩⟩⟩
    · cases h
  · cases h
    cases hy with
    | nilSlice ad => exact ⟨ad, 0, rfl, by simp, Nat.le_refl _, fun _ => rfl, fun hne => absurd rfl hne⟩
  · cases h
def sres : QR → AHeap → Option AV × AHeap
  | .val v, H => (some v, H)
  | .box e s cells, H => (some (.ptr H.length 1 0 0), H ++ [some ⟨e, s, [cells]⟩])
  | .arr e s els, H => (some (.own H.length els.length 0 els.length), H ++ [some ⟨e, s, els⟩])
def sstep (io : IOp) (env : AEnv) (H : AHeap) : Option (Option AV × AHeap) :=
  match io with
  | .store s _ x v => match ev env x, ev env v with
    | some (.ptr h ver i j), some y => (match AHeap.obj H h with
      | some o => (match o.elems[i]? with
        | some e => if ver = o.elems.length ∧ y.cells.length = s ∧ y.isTuple = false ∧ j + s ≤ e.length then some (none, H.set h (some { o with elems := o.elems.set i (setMany e j y.cells) })) else none
        | none => none)
      | none => none)
    | _, _ => none
  | .append e s bytes x y => match ev env x, ev env y with
    | some x, some y => (match asrc H s y with
      | some els => (match x with
        | .nilSlice => if els.length = 0 then some (some .nilSlice, H) else if els.length ≤ 140737488355328 ∧ els.length * bytes ≤ 140737488355328 then some (some (.own H.length els.length 0 els.length), H ++ [some ⟨e, s, els⟩]) else none
        | .own h ver i len => (match AHeap.obj H h with
          | some o => if ver = o.elems.length ∧ i = 0 ∧ len = ver ∧ e = o.e ∧ s = o.s ∧ len + els.length ≤ 140737488355328 ∧ (len + els.length) * bytes ≤ 140737488355328 then
              some (some (.own h (len + els.length) 0 (len + els.length)), H.set h (some { o with elems := o.elems ++ els }))
            else if ver = o.elems.length ∧ i = 0 ∧ e = o.e ∧ s = o.s ∧ 0 < s ∧ len + els.length ≤ ver then
              some (some (.own h ver 0 (len + els.length)), H.set h (some { o with elems := o.elems.take len ++ els ++ o.elems.drop (len + els.length) })) else none
          | none => none)
        | .full l => if els.length = 0 then some (some (.full l), H) else if (l.all fun e => e.length == s) ∧ l.length + els.length ≤ 140737488355328 ∧ (l.length + els.length) * bytes ≤ 140737488355328 then some (some (.own H.length (l.length + els.length) 0 (l.length + els.length)), H ++ [some ⟨e, s, l ++ els⟩]) else none
        | _ => none)
      | none => none)
    | _, _ => none
  | .copy s x y => match ev env x, ev env y with
    | some (.sub h ver i j s' len), some y => (match asrc H s y with
      | some els => (match AHeap.obj H h with
        | some o => (match o.elems[i]? with
          | some e => if ver = o.elems.length ∧ s = s' ∧ j + Nat.min els.length len * s ≤ e.length then some (some (.int .i64 (Nat.min els.length len : Nat)), H.set h (some { o with elems := o.elems.set i (setMany e j (els.take (Nat.min els.length len)).flatten) })) else none
          | none => none)
        | none => none)
      | none => none)
    | some (.own h ver i len), some y => (match asrc H s y with
      | some els => (match AHeap.obj H h with
        | some o => if ver = o.elems.length ∧ s = o.s then some (some (.int .i64 (Nat.min els.length len : Nat)), H.set h (some { o with elems := o.elems.take i ++ els.take (Nat.min els.length len) ++ o.elems.drop (i + Nat.min els.length len) })) else none
        | none => none)
      | none => none)
    | _, _ => none
  | .clear s z x => match ev env x with
    | some (.own h ver i len) => (match AHeap.obj H h with
      | some o => if ver = o.elems.length ∧ s = o.s ∧ i + len ≤ ver then some (some (.tuple []), H.set h (some { o with elems := o.elems.take i ++ List.replicate len z ++ o.elems.drop (i + len) })) else none
      | none => none)
    | some .nilSlice => some (some (.tuple []), H)
    | _ => none
  | io => match qstep io env H with
    | some r => some (sres r H)
    | none => none
def SOK (P : Program) (o : Oper) (a : Act) (w : World) (m : AMap) (H : AHeap) (B : Nat) (r : Option AV × AHeap) : Prop :=
  ∃ w' m', St w' m' r.2 B ∧ Adv w m H w' m' r.2 ∧ match r.1 with
    | some x => ∃ v, (execOp a.eval o).run P w = .ok (.value v) w' ∧ RV w' m' r.2 B x v
    | none => (execOp a.eval o).run P w = .ok .skip w'
section
variable {P : Program} {n : Nat} {w : World} {m : AMap} {H : AHeap} {B : Nat} {env : AEnv} {a : Act} {o : Oper} {io : IOp}
theorem shape_new {w' : World} {heap : Array Obj} {vs : Array Value} {e : TypeId} (h : w'.heap = heap.push (.cells vs e)) : w'.shape? heap.size = some (e, vs.size) := by
  simp [World.shape?, h]
/-- A new object, at a number that the objects already bear. -/
theorem box_ok (st : St w m H B) {e s h : Nat} {cells : List AV} (ho : AHeap.obj H h = some ⟨e, s, [cells]⟩) (hm : m h = none) (hl : cells.length = s) {vs : Array Value} (hc : ∀ (j : Nat) (x : AV), cells[j]? = some x → ∃ v, vs[j]? = some v ∧ RV w m H B x v ∧ x.one = true) :
    St (w.alloc (.cells vs e)) (AMap.upd m h w.heap.size) H B ∧ Adv w m H (w.alloc (.cells vs e)) (AMap.upd m h w.heap.size) H ∧ RV (w.alloc (.cells vs e)) (AMap.upd m h w.heap.size) H B (.ptr h 1 0 0) (.pointer (some ⟨w.heap.size, 0, none⟩)) := by
  obtain ⟨p, q⟩ := st.new ho hm (w' := w.alloc (.cells vs e)) rfl rfl rfl rfl (by simpa using hl) (fun i el j x a1 a2 => by
    cases i with
    | zero =>
      simp at a1; subst a1
      obtain ⟨v, h1, h2, h3⟩ := hc j x a2
      exact ⟨v, by simpa using h1, h2, h3⟩
    | succ i => simp at a1)
  refine ⟨p, q, .ptr _ _ _ _ _ (AHeap.obj_lt ho) fun o' ho' => ?_⟩
  rw [ho] at ho'; cases ho'
  exact ⟨by simp, fun _ => ⟨w.heap.size, by simp [AMap.upd], by simp⟩⟩
theorem arr_ok (st : St w m H B) {e s h : Nat} {els : List (List AV)} (ho : AHeap.obj H h = some ⟨e, s, els⟩) (hm : m h = none) (hu : ∀ el, el ∈ els → el.length = s) {w1 : World} (hw : w1.heap = w.heap) (os : w1.os = w.os) (tape : w1.tape = w.tape) (output : w1.output = w.output) {vs : Array Value} {cap : Nat} (h1 : els.length ≤ cap) (h2 : cap ≤ maxLen) (hsz : vs.size = cap * s)
    (hc : ∀ (i : Nat) (el : List AV) (j : Nat) (x : AV), els[i]? = some el → el[j]? = some x → ∃ v, vs[i * s + j]? = some v ∧ RV w m H B x v ∧ x.one = true) :
    St (w1.alloc (.cells vs e)) (AMap.upd m h w.heap.size) H B ∧ Adv w m H (w1.alloc (.cells vs e)) (AMap.upd m h w.heap.size) H ∧ RV (w1.alloc (.cells vs e)) (AMap.upd m h w.heap.size) H B (.own h els.length 0 els.length) (.slice (some ⟨w.heap.size, 0, none⟩) els.length cap) := by
  have heap : (w1.alloc (.cells vs e)).heap = w.heap.push (.cells vs e) := by show w1.heap.push _ = _; rw [hw]
  obtain ⟨p, q⟩ := st.new ho hm (w' := w1.alloc (.cells vs e)) os tape output heap hu hc
  refine ⟨p, q, .own _ _ _ _ _ _ _ (AHeap.obj_lt ho) fun o' ho' => ?_⟩
  rw [ho] at ho'; cases ho'
  refine ⟨Nat.le_refl _, fun _ => ⟨w.heap.size, by simp [AMap.upd], fun _ => by simp, rfl, by simp, h1, h2, ?_⟩⟩
  rw [shape_new heap, hsz, Nat.zero_add]
theorem quiet_ok (htr : trOp P o = some io) (st : St w m H B) (fr : FR n w m H B env a) {r : QR} (h : qstep io env H = some r) : SOK P o a w m H B (sres r H) := by
  have q := qstep_sound htr st fr h
  cases r with
  | val x =>
    obtain ⟨v, h1, h2⟩ := q
    exact ⟨w, m, st, Adv.refl _ _ _, v, h1, h2⟩
  | box e s cells =>
    obtain ⟨hl, vs, h1, h2, h3⟩ := q
    obtain ⟨p1, p2⟩ := st.push [some ⟨e, s, [cells]⟩]
    have hm : m H.length = none := by
      cases hm : m H.length with
      | none => rfl
      | some b => exact absurd (st.mlt hm) (Nat.lt_irrefl _)
    obtain ⟨q1, q2, q3⟩ := box_ok p1 (h := H.length) AHeap.obj_push_eq hm hl (vs := vs) (fun j x hj => by
      obtain ⟨v, a1, a2, a3⟩ := h3 j x hj
      exact ⟨v, a1, a2.mono p2, a3⟩)
    exact ⟨_, _, q1, p2.trans q2, _, h1, q3⟩
  | arr e s els =>
    obtain ⟨hu, vs, cap, h1, h2, h3, h4, h5⟩ := q
    obtain ⟨p1, p2⟩ := st.push [some ⟨e, s, els⟩]
    have hm : m H.length = none := by
      cases hm : m H.length with
      | none => rfl
      | some b => exact absurd (st.mlt hm) (Nat.lt_irrefl _)
    obtain ⟨q1, q2, q3⟩ := arr_ok p1 (h := H.length) AHeap.obj_push_eq hm hu (w1 := w) rfl rfl rfl rfl h2 h3 h4 (fun i el j x a1 a2 => by
      obtain ⟨v, b1, b2, b3⟩ := h5 i el j x a1 a2
      exact ⟨v, b1, b2.mono p2, b3⟩)
    exact ⟨_, _, q1, p2.trans q2, _, h1, q3⟩
end
end Go.Awp
/- Operations that write: their truth in the model. Generic in the program. -/
namespace Go.Awp
set_option linter.unusedSectionVars false
variable [Fx]
theorem setMany_get : ∀ (ys xs : List AV) (off k : Nat), off + ys.length ≤ xs.length → (setMany xs off ys)[k]? = if off ≤ k ∧ k < off + ys.length then ys[k - off]? else xs[k]?
  | [], xs, off, k, _ => by
    rw [if_neg (by simp only [List.length_nil]; omega)]; rfl
  | y :: ys, xs, off, k, h => by
    simp only [List.length_cons] at h
    simp only [setMany]
    rw [setMany_get ys (xs.set off y) (off + 1) k (by simp; omega)]
    by_cases hk : off = k
    · subst hk
      rw [if_neg (by omega), if_pos (by simp only [List.length_cons]; omega), Nat.sub_self, List.getElem?_set_self (by omega)]; rfl
    · by_cases h1 : off + 1 ≤ k ∧ k < off + 1 + ys.length
      · rw [if_pos h1, if_pos (by simp only [List.length_cons]; omega)]
        rw [show k - off = (k - (off + 1)) + 1 by omega]; rfl
      · rw [if_neg h1, if_neg (by simp only [List.length_cons]; omega), List.getElem?_set_ne hk]
theorem splice_get (cs : Array Value) (vs : List Value) (k q : Nat) (h : k + vs.length ≤ cs.size) :
    (cs.toList.take k ++ vs ++ cs.toList.drop (k + vs.length)).toArray[q]? = if k ≤ q ∧ q < k + vs.length then vs[q - k]? else cs[q]? := by
  have hl : (cs.toList.take k).length = k := by simp; omega
  rw [List.getElem?_toArray, List.append_assoc]
  rcases Nat.lt_or_ge q k with h1 | h1
  · rw [List.getElem?_append_left (by omega), if_neg (by omega), List.getElem?_take_of_lt h1, Array.getElem?_toList]
  · rw [List.getElem?_append_right (by omega), hl]
    rcases Nat.lt_or_ge q (k + vs.length) with h2 | h2
    · rw [List.getElem?_append_left (by omega), if_pos ⟨h1, h2⟩]
    · rw [List.getElem?_append_right (by omega), if_neg (by omega), List.getElem?_drop, Array.getElem?_toList]
      congr 1; omega
theorem splice_size (cs : Array Value) (vs : List Value) (k : Nat) (h : k + vs.length ≤ cs.size) : (cs.toList.take k ++ vs ++ cs.toList.drop (k + vs.length)).toArray.size = cs.size := by
  simp; omega
section
variable {P : Program} {n : Nat} {w : World} {m : AMap} {H : AHeap} {B : Nat} {env : AEnv} {a : Act} {o : Oper} {io : IOp}
/-- The block of an object holds at least its cells. -/
theorem block_fits {o : AObj} {cs : Array Value} (hu : ∀ e, e ∈ o.elems → e.length = o.s) (hc : ∀ (i : Nat) (e : List AV) (j : Nat) (x : AV), o.elems[i]? = some e → e[j]? = some x → ∃ v, cs[i * o.s + j]? = some v ∧ RV w m H B x v ∧ x.one = true) : o.elems.length * o.s ≤ cs.size := by
  rcases Nat.eq_zero_or_pos (o.elems.length * o.s) with h0 | h0
  · omega
  · have hs : 0 < o.s := Nat.pos_of_mul_pos_left h0
    have hl : 0 < o.elems.length := Nat.pos_of_mul_pos_right h0
    have h1 : o.elems[o.elems.length - 1]? = some (o.elems[o.elems.length - 1]'(by omega)) := List.getElem?_eq_getElem _
    have hlen := hu _ (List.mem_of_getElem? h1)
    obtain ⟨v, hv, _⟩ := hc _ _ (o.s - 1) _ h1 (List.getElem?_eq_getElem (by omega))
    have := (Array.getElem?_eq_some_iff.1 hv).1
    have e1 : (o.elems.length - 1) * o.s + o.s = o.elems.length * o.s := by
      rw [← Nat.succ_mul]; congr 1; omega
    omega
theorem store_ok {t : TypeId} {x v : Operand} {i : TypeInfo} {d : TypeDesc} (hi : P.info? t = some i) (ho : o.op = .store t x v) (st : St w m H B) (fr : FR n w m H B env a) {r : Option AV × AHeap} (h : sstep (.store i.size (isAggD d) x v) env H = some r) : SOK P o a w m H B r := by
  simp only [sstep] at h
  split at h
  · rename_i h' ver i' j y hx hy
    split at h
    · rename_i o' ho'
      split at h
      · rename_i e he
        split at h
        · rename_i hc
          obtain ⟨c1, c2, c3, c4⟩ := hc
          cases h
          have hxv := ev_sound fr hx
          have hyv := ev_sound fr hy
          generalize hex : a.eval x = u at hxv
          generalize hey : a.eval v = z at hyv
          cases hxv with
          | ptr _ _ _ _ ad hlt hh =>
            obtain ⟨b, hb, hae⟩ := (hh o' ho').2 c1
            subst hae
            obtain ⟨g1, g2, o2, cs, e1, e2, e3, e4⟩ := st.dom h' b hb
            rw [ho'] at e1; cases e1
            have hfit := block_fits e3 e4
            obtain ⟨l1, l2, l3⟩ := hyv.cells (RV.not_tuple c3)
            have hel := e3 e (List.mem_of_getElem? he)
            have hil : i' < o'.elems.length := by
              rcases Nat.lt_or_ge i' o'.elems.length with h1 | h1
              · exact h1
              · rw [List.getElem?_eq_none h1] at he; cases he
            have hmul : i' * o'.s + o'.s ≤ o'.elems.length * o'.s := by
              have := Nat.mul_le_mul_right o'.s hil
              rw [Nat.succ_mul] at this; exact this
            have hzl : z.cells.toList.length = i.size := by simp; omega
            have hk : (i' * o'.s + j) + z.cells.toList.length ≤ cs.size := by omega
            have ones : ∀ u ∈ z.cells.toList, u.oneCell' = true := by
              intro u hu
              obtain ⟨q, hq⟩ := List.mem_iff_getElem?.1 hu
              have hql : q < y.cells.length := by
                have := (List.getElem?_eq_some_iff.1 hq).1
                simp at this; omega
              have := l3 q _ u (List.getElem?_eq_getElem hql) (by simpa using hq)
              rw [this.one_eq]
              exact l2 _ (List.getElem_mem hql)
            have hrun := run_storeCells_at P b (i' * o'.s + j) o'.e z.cells.toList 0 cs w e2 (by simpa using hk) ones
            simp only [Nat.add_zero] at hrun
            have hst : (execOp a.eval o).run P w = .ok .skip (w.setRow b (cs.toList.take (i' * o'.s + j) ++ z.cells.toList ++ cs.toList.drop (i' * o'.s + j + z.cells.toList.length)).toArray) := by
              have hsz : z.cells.size = i.size := by simpa using hzl
              simp only [execOp, ho, hex, hey, Instr.storeAt, Instr.sureAddr, storeVar, Sem.run_bind, Sem.run_pure, Result.andThen_ok, run_sizeOf' hi, Sem.run_ite, ne_eq, hsz, not_true, if_false, hrun]
            have hset : (setMany e j y.cells).length = o'.s := by rw [length_setMany, hel]
            obtain ⟨p1, p2⟩ := st.upd ho' hb (o' := { o' with elems := o'.elems.set i' (setMany e j y.cells) }) rfl rfl (by simp) (w' := w.setRow b (cs.toList.take (i' * o'.s + j) ++ z.cells.toList ++ cs.toList.drop (i' * o'.s + j + z.cells.toList.length)).toArray) rfl rfl rfl (by simp) (fun k hk => setRow_other w b k _ hk) e2 (setRow_heap w b cs _ o'.e _ e2) (splice_size cs _ _ hk) (fun e' he' => by
              rcases List.mem_or_eq_of_mem_set he' with he' | rfl
              · exact e3 e' he'
              · exact hset) (fun i2 e' j2 q a1 a2 => by
              have hj2 : j2 < o'.s := by
                have hm := List.mem_of_getElem? a1
                have hl2 : e'.length = o'.s := by
                  rcases List.mem_or_eq_of_mem_set hm with hm | rfl
                  · exact e3 e' hm
                  · exact hset
                have := (List.getElem?_eq_some_iff.1 a2).1
                omega
              simp only
              rw [splice_get cs _ _ _ hk]
              by_cases hii : i' = i2
              · subst hii
                rw [List.getElem?_set_self hil] at a1
                cases a1
                rw [setMany_get _ _ _ _ (by omega)] at a2
                by_cases hin : j ≤ j2 ∧ j2 < j + y.cells.length
                · rw [if_pos hin] at a2
                  rw [if_pos (by omega)]
                  have hlt2 : j2 - j < z.cells.size := by omega
                  refine ⟨z.cells[j2 - j], ?_, l3 _ q _ a2 (Array.getElem?_eq_getElem hlt2), l2 q (List.mem_of_getElem? a2)⟩
                  rw [show i' * o'.s + j2 - (i' * o'.s + j) = j2 - j by omega]
                  simp [hlt2]
                · rw [if_neg hin] at a2
                  rw [if_neg (by omega)]
                  exact e4 i' e j2 q he a2
              · rw [List.getElem?_set_ne hii] at a1
                rw [if_neg ?_]
                · exact e4 i2 e' j2 q a1 a2
                · intro hin
                  rcases Nat.lt_or_gt_of_ne hii with hlt' | hlt'
                  · have := Nat.mul_le_mul_right o'.s hlt'
                    rw [Nat.succ_mul] at this; omega
                  · have := Nat.mul_le_mul_right o'.s hlt'
                    rw [Nat.succ_mul] at this; omega)
            exact ⟨_, m, p1, p2, hst⟩
        · cases h
      · cases h
    · cases h
  · cases h
end
end Go.Awp
