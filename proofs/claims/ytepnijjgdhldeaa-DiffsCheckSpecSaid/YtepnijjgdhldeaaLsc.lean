/- Regions that draw their order, part 3: whatever the order. Generic in the program. -/
import Derived.Test.YtepnijjgdhldeaaLsb
namespace Go.Awp

def isAC (s : IStmt) : Bool := match cls s.op with | .alloc | .call => true | .load => !s.late | _ => false

theorem nW_succ {ss : List IStmt} {i : Nat} {s : IStmt} (h : ss[i]? = some s) : nW (ss.take (i + 1)) = nW (ss.take i) + (if isW s then 1 else 0) := by
  have hlt : i < ss.length := (List.getElem?_eq_some_iff.1 h).1
  have he : ss[i] = s := (List.getElem?_eq_some_iff.1 h).2
  rw [List.take_succ_eq_append_getElem hlt, he]
  unfold nW
  rw [List.filter_append, List.length_append]
  cases hw : isW s <;> simp [hw]

theorem nW_mono (ss : List IStmt) : ∀ (d i : Nat), nW (ss.take i) ≤ nW (ss.take (i + d))
  | 0, i => Nat.le_refl _
  | d + 1, i => by
    refine Nat.le_trans (nW_mono ss d i) ?_
    cases h : ss[i + d]? with
    | some s => rw [← Nat.add_assoc, nW_succ h]; omega
    | none =>
      have := List.getElem?_eq_none_iff.1 h
      rw [List.take_of_length_le this, List.take_of_length_le (by omega)]
      exact Nat.le_refl _

theorem nW_lt {ss : List IStmt} {j k : Nat} {s : IStmt} (hj : ss[j]? = some s) (hw : isW s = true) (h : j < k) : nW (ss.take j) < nW (ss.take k) := by
  have h1 := nW_succ hj
  rw [if_pos hw] at h1
  have h2 := nW_mono ss (k - (j + 1)) (j + 1)
  rw [show j + 1 + (k - (j + 1)) = k by omega] at h2
  omega

theorem nW_find {ss : List IStmt} : ∀ (k q : Nat), q < nW (ss.take k) → ∃ j s, j < k ∧ ss[j]? = some s ∧ isW s = true ∧ nW (ss.take j) = q
  | 0, q, h => by simp [nW] at h
  | k + 1, q, h => by
    cases hk : ss[k]? with
    | none =>
      have := List.getElem?_eq_none_iff.1 hk
      rw [List.take_of_length_le (by omega)] at h
      obtain ⟨j, s, h1, h2⟩ := nW_find (ss := ss) k q (by rw [List.take_of_length_le this]; exact h)
      exact ⟨j, s, by omega, h2⟩
    | some s =>
      rw [nW_succ hk] at h
      by_cases hq : q < nW (ss.take k)
      · obtain ⟨j, s', h1, h2⟩ := nW_find (ss := ss) k q hq
        exact ⟨j, s', by omega, h2⟩
      · split at h
        · rename_i hw
          exact ⟨k, s, by omega, hk, hw, by omega⟩
        · omega

/-- What the walk in the text's order has told of all statements of a body. -/
structure Plan (P : Program) (ss : List IStmt) (envS : AEnv) (H : AHeap) (envF : AEnv) (G : Nat → AHeap) (V : Nat → AV) (hd : Nat → Option Nat) : Prop where
  g0 : ∃ X, G 0 = H ++ X
  other : ∀ t, t ∉ dstsOf ss → AEnv.get envF t = AEnv.get envS t
  dst : ∀ (i : Nat) (s : IStmt) (d : Nat), ss[i]? = some s → s.dst = some d → AEnv.get envF d = some (V i)
  info : ∀ (i : Nat) (s : IStmt), ss[i]? = some s → (GOff s.guard envF ∧ V i = .tuple [] ∧ hd i = none ∧ isW s = false) ∨ (GOn s.guard envF ∧ match cls s.op with
    | .pure => hd i = none ∧ ∀ H, qstep s.op (AEnv.trim envF s.uses) H = some (.val (V i))
    | .load => hd i = none ∧ ∀ p, p ≤ nW ss → (s.late = true ∨ p = 0) → qstep s.op (AEnv.trim envF s.uses) (G p) = some (.val (V i))
    | .alloc => ∃ h, hd i = some h ∧ ((∃ e sz cells, qstep s.op (AEnv.trim envF s.uses) (G 0) = some (.box e sz cells) ∧ AHeap.obj (G 0) h = some ⟨e, sz, [cells]⟩ ∧ V i = .ptr h 1 0 0) ∨
        (∃ e sz els, qstep s.op (AEnv.trim envF s.uses) (G 0) = some (.arr e sz els) ∧ AHeap.obj (G 0) h = some ⟨e, sz, els⟩ ∧ V i = .own h els.length 0 els.length))
    | .call => (hd i = none ∧ ∃ f vs ys, target P s.op (AEnv.trim envF s.uses) = some (f, vs) ∧ FrzL (G 0) vs ys ∧ PCall P f ys (V i)) ∨
        (∃ h, hd i = some h ∧ ∃ f vs ys e sz els, target P s.op (AEnv.trim envF s.uses) = some (f, vs) ∧ FrzL (G 0) vs ys ∧ NCall P f ys e sz els ∧ AHeap.obj (G 0) h = some ⟨e, sz, els⟩ ∧ V i = .own h els.length 0 els.length)
    | .write => hd i = none ∧ ∃ x, sstep s.op (AEnv.trim envF s.uses) (G (nW (ss.take i))) = some (x, G (nW (ss.take i) + 1)) ∧ V i = x.getD (.tuple []))
  fresh : ∀ i h, hd i = some h → H.length ≤ h
  inj : ∀ i j h, i < ss.length → j < ss.length → hd i = some h → hd j = some h → i = j

/-- The static look at a body. -/
structure Body (P : Program) (n : Nat) (lt : List Nat) (ops : List Oper) (ss : List IStmt) : Prop where
  tr : ∀ (i : Nat) (s : IStmt), ss[i]? = some s → ∃ o, ops[i]? = some o ∧ trStmt P n (some lt) ops o = some s
  avail : ∀ (i : Nat) (s : IStmt), ss[i]? = some s → ∀ t, t ∈ slotsOf s → ∀ (j : Nat) (sj : IStmt), ss[j]? = some sj → sj.dst = some t → ∃ o, ops[i]? = some o ∧ ∃ e, e ∈ o.after ∧ Region.binds .any e = true ∧ e.on = j
  dinj : ∀ (i j : Nat) (si sj : IStmt) (d : Nat), ss[i]? = some si → ss[j]? = some sj → si.dst = some d → sj.dst = some d → i = j
  word : ∀ (k : Nat) (sk : IStmt), ss[k]? = some sk → isW sk = true → ∀ (j : Nat) (sj : IStmt), ss[j]? = some sj → (isAC sj = true ∨ isW sj = true ∧ j < k) → ∃ x, (ancs [] ops)[k]? = some x ∧ x.testBit j = true

/-- What holds in the midst of a body, some statements done. -/
structure Mid (P : Program) (n : Nat) (ss : List IStmt) (wS : World) (mS : AMap) (HS : AHeap) (B : Nat) (aS : Act) (envF : AEnv) (G : Nat → AHeap) (V : Nat → AV) (hd : Nat → Option Nat) (done : Nat → Prop) (a : Act) (w : World) (p : Nat) (m : AMap) : Prop where
  st : St w m (G p) B
  ad : Adv wS mS HS w m (G p)
  defers : a.defers = []
  size : a.tmps.size = n
  vals : ∀ (i : Nat) (s : IStmt) (d : Nat), ss[i]? = some s → done i → s.dst = some d → ∃ v, a.tmps[d]? = some v ∧ RV w m (G p) B (V i) v
  rest : ∀ t, (∀ (i : Nat) (s : IStmt), ss[i]? = some s → done i → s.dst ≠ some t) → a.tmps[t]? = aS.tmps[t]?
  free : ∀ i h, i < ss.length → ¬ done i → hd i = some h → m h = none
  phle : p ≤ nW ss
  ph : ∀ (k : Nat) (s : IStmt), ss[k]? = some s → isW s = true → (done k ↔ nW (ss.take k) < p)
  late : 0 < p → ∀ (i : Nat) (s : IStmt), ss[i]? = some s → isAC s = true → done i

section
variable {P : Program} {n : Nat} {lt : List Nat} {ops : List Oper} {ss : List IStmt} {wS : World} {mS : AMap} {HS : AHeap} {B : Nat} {aS : Act} {envS envF : AEnv} {G : Nat → AHeap} {V : Nat → AV} {hd : Nat → Option Nat} {done : Nat → Prop} {a : Act} {w : World} {p : Nat} {m : AMap}

theorem Mid.frame (pl : Plan P ss envS HS envF G V hd) (fr : FR n wS mS HS B envS aS) (md : Mid P n ss wS mS HS B aS envF G V hd done a w p m) {t : Nat} {x : AV} (hx : AEnv.get envF t = some x) (hav : ∀ (j : Nat) (sj : IStmt), ss[j]? = some sj → sj.dst = some t → done j) :
    ∃ v, a.tmps[t]? = some v ∧ RV w m (G p) B x v := by
  by_cases ht : t ∈ dstsOf ss
  · obtain ⟨s, hs, hd'⟩ := List.mem_filterMap.1 ht
    obtain ⟨j, hj⟩ := List.mem_iff_getElem?.1 hs
    obtain ⟨v, h1, h2⟩ := md.vals j s t hj (hav j s hj hd') hd'
    have := pl.dst j s t hj hd'
    rw [this] at hx; cases hx
    exact ⟨v, h1, h2⟩
  · rw [pl.other t ht] at hx
    obtain ⟨v, h1, h2⟩ := fr.slots t x hx
    refine ⟨v, ?_, h2.mono md.ad⟩
    rw [md.rest t (fun i s hi _ e => ht (List.mem_filterMap.2 ⟨s, List.mem_of_getElem? hi, e⟩))]
    exact h1

/-- A value has come to a slot; the objects have gone on. -/
theorem Mid.step (bd : Body P n lt ops ss) (md : Mid P n ss wS mS HS B aS envF G V hd done a w p m) {i : Nat} {s : IStmt} (hi : ss[i]? = some s) (hdn : ¬ done i) {w' : World} {m' : AMap} {p' : Nat} {v : Value} (st : St w' m' (G p') B) (ad : Adv w m (G p) w' m' (G p')) (rv : RV w' m' (G p') B (V i) v) (hdst : ∀ d, s.dst = some d → d < n)
    (hfree : ∀ j h, j < ss.length → ¬ done j → j ≠ i → hd j = some h → m' h = none) (hple : p' ≤ nW ss) (hph : ∀ (k : Nat) (sk : IStmt), ss[k]? = some sk → isW sk = true → ((done k ∨ k = i) ↔ nW (ss.take k) < p')) (hlate : 0 < p' → ∀ (j : Nat) (sj : IStmt), ss[j]? = some sj → isAC sj = true → done j ∨ j = i) :
    Mid P n ss wS mS HS B aS envF G V hd (fun j => done j ∨ j = i) (a.put s.dst v) w' p' m' := by
  have hput : ∀ t, s.dst ≠ some t → (a.put s.dst v).tmps[t]? = a.tmps[t]? := by
    intro t ht
    cases hd' : s.dst with
    | none => rfl
    | some d =>
      have : d ≠ t := fun e => ht (by rw [hd', e])
      simp [Act.put, this]
  refine ⟨st, md.ad.trans ad, ?_, ?_, fun j sj d hj hdj hd' => ?_, fun t ht => ?_, fun j h hj hnd hh => hfree j h hj (fun e => hnd (.inl e)) (fun e => hnd (.inr e)) hh, hple, hph, hlate⟩
  · cases s.dst <;> exact md.defers
  · cases s.dst with
    | none => exact md.size
    | some d => simp [Act.put, md.size]
  · by_cases hji : j = i
    · subst hji
      rw [hi] at hj; cases hj
      rw [hd']
      exact ⟨v, by simp [Act.put, md.size, hdst d hd'], rv⟩
    · have hdone : done j := by
        rcases hdj with h | h
        · exact h
        · exact absurd h hji
      obtain ⟨u, h1, h2⟩ := md.vals j sj d hj hdone hd'
      refine ⟨u, ?_, h2.mono ad⟩
      rw [hput d (fun e => hji (bd.dinj j i sj s d hj hi hd' e))]
      exact h1
  · rw [hput t (ht i s hi (.inr rfl))]
    exact md.rest t fun j sj hj hdj => ht j sj hj (.inl hdj)

theorem wanted_on {s : IStmt} {o : Oper} {env : AEnv} (htr : trStmt P n (some lt) ops o = some s) (hg : GOn s.guard env) (hs : ∀ t x, t ∈ slotsOf s → AEnv.get env t = some x → ∃ v, a.tmps[t]? = some v ∧ RV w m (G p) B x v) : Region.wanted o (yielded ops.toArray a.tmps) = true := by
  unfold trStmt at htr
  split at htr
  · split at htr
    · rename_i h; simp [Region.wanted, h]
    · rename_i j want hgo
      split at htr
      · rename_i g hj
        cases htr
        have h1 := hg g want rfl
        obtain ⟨v, h2, h3⟩ := hs g _ (by simp [slotsOf]) h1
        cases h3
        simp only [Region.wanted, hgo, yielded_eq hj, h2]
        simp
      · cases htr
  · cases htr

theorem wanted_off {s : IStmt} {o : Oper} {env : AEnv} (htr : trStmt P n (some lt) ops o = some s) (hg : GOff s.guard env) (hs : ∀ t x, t ∈ slotsOf s → AEnv.get env t = some x → ∃ v, a.tmps[t]? = some v ∧ RV w m (G p) B x v) : Region.wanted o (yielded ops.toArray a.tmps) = false := by
  obtain ⟨g, want, hsg, hh⟩ := hg
  unfold trStmt at htr
  split at htr
  · split at htr
    · cases htr; cases hsg
    · rename_i j want' hgo
      split at htr
      · rename_i g' hj
        cases htr
        simp only [Option.some.injEq, Prod.mk.injEq] at hsg
        obtain ⟨rfl, rfl⟩ := hsg
        rcases hh with h1 | h1
        · obtain ⟨v, h2, h3⟩ := hs g' _ (by simp [slotsOf]) h1
          cases h3
          simp only [Region.wanted, hgo, yielded_eq hj, h2]
          cases want' <;> rfl
        · obtain ⟨v, h2, h3⟩ := hs g' _ (by simp [slotsOf]) h1
          cases h3
          simp only [Region.wanted, hgo, yielded_eq hj, h2]
          rfl
      · cases htr
  · cases htr

theorem trStmt_op {s : IStmt} {o : Oper} (htr : trStmt P n (some lt) ops o = some s) : trOp P o = some s.op ∧ s.dst = o.dst ∧ ∀ d, s.dst = some d → d < n := by
  unfold trStmt at htr
  split at htr
  · rename_i io hio hd
    have hdd : ∀ d, o.dst = some d → d < n := by
      intro d e
      rw [e] at hd
      simpa using hd
    split at htr
    · cases htr; exact ⟨hio, rfl, hdd⟩
    · split at htr
      · cases htr; exact ⟨hio, rfl, hdd⟩
      · cases htr
  · cases htr

theorem get_trim {env : AEnv} {t : Nat} {x : AV} : ∀ (k : List Nat), AEnv.get (AEnv.trim env k) t = some x → t ∈ k ∧ AEnv.get env t = some x
  | [], h => by cases h
  | s :: k, h => by
    simp only [AEnv.trim] at h
    split at h
    · rename_i y hy
      simp only [AEnv.get] at h
      by_cases hst : s = t
      · rw [if_pos hst] at h
        exact ⟨by simp [hst], by rw [← h, ← hst]; exact hy⟩
      · rw [if_neg hst] at h
        obtain ⟨h1, h2⟩ := get_trim k h
        exact ⟨by simp [h1], h2⟩
    · obtain ⟨h1, h2⟩ := get_trim k h
      exact ⟨by simp [h1], h2⟩

theorem target_run {o : Oper} {io : IOp} (htr : trOp P o = some io) {env : AEnv} {H : AHeap} {f : FuncId} {vs : List AV} (ht : target P io env = some (f, vs)) (fr : FR n w m H B env a) (hc : callable P f = true) : ∃ as, (execOp a.eval o).run P w = .ok (.enter f as) w ∧ Args w m H B vs as := by
  unfold target at ht
  split at ht
  · rename_i f' args
    split at ht
    · rename_i us hus
      cases ht
      obtain ⟨as, ts, ho, rfl⟩ := trOp_call htr
      obtain ⟨p1, p2⟩ := evs_sound fr _ _ hus
      exact ⟨as.map a.eval, by simp [execOp, ho, resolve, Act.eval, Deferred.ofValue, invoke, run_callFunc_ok hc], by simpa using p1, fun i x v a b => p2 i x v a (by simpa using b)⟩
    · cases ht
  · rename_i x args
    split at ht
    · rename_i f' first caps us hx hus
      cases ht
      obtain ⟨as, ts, ho, rfl⟩ := trOp_callv htr
      obtain ⟨p1, p2⟩ := evs_sound fr _ _ hus
      have hxv := ev_sound fr hx
      generalize he : a.eval x = u at hxv
      cases hxv with
      | func _ _ _ f' c' hf hcl h1 h2 =>
        refine ⟨f' ++ as.map a.eval ++ c', by simp [execOp, ho, resolve, he, Deferred.ofValue, invoke, run_callFunc_ok hc], by simp [hf, hcl, p1], fun i x v e1 e2 => ?_⟩
        have e2' : (f'.toList ++ as.toList.map a.eval ++ c'.toList)[i]? = some v := by
          have : (f' ++ as.map a.eval ++ c').toList[i]? = some v := by rw [Array.getElem?_toList]; exact e2
          rwa [Array.toList_append, Array.toList_append, Array.toList_map] at this
        have hpl : us.length = (as.toList.map a.eval).length := by simpa using p1
        have hfl : first.length = f'.toList.length := by simpa using hf
        rcases Nat.lt_or_ge i first.length with hi | hi
        · rw [List.append_assoc, List.getElem?_append_left hi] at e1
          rw [List.append_assoc, List.getElem?_append_left (by omega)] at e2'
          exact h1 i x v e1 (by simpa using e2')
        · rw [List.append_assoc, List.getElem?_append_right hi] at e1
          rw [List.append_assoc, List.getElem?_append_right (by omega)] at e2'
          rw [← hfl] at e2'
          rcases Nat.lt_or_ge (i - first.length) us.length with hj | hj
          · rw [List.getElem?_append_left hj] at e1
            rw [List.getElem?_append_left (by omega)] at e2'
            exact p2 _ x v e1 e2'
          · rw [List.getElem?_append_right hj] at e1
            rw [List.getElem?_append_right (by omega), ← hpl] at e2'
            exact h2 _ x v e1 (by simpa using e2')
    · cases ht
  · rename_i x name args
    split at ht
    · rename_i t v us hx hus
      split at ht
      · rename_i f' hmt
        cases ht
        obtain ⟨as, ts, ho, rfl⟩ := trOp_invoke htr
        obtain ⟨p1, p2⟩ := evs_sound fr _ _ hus
        have hxv := ev_sound fr hx
        generalize he : a.eval x = u at hxv
        cases hxv with
        | iface _ _ v' hv' =>
          refine ⟨#[v'] ++ as.map a.eval, ?_, by simp [p1, Nat.add_comm], fun i x v e1 e2 => ?_⟩
          · have hd : P.types.size + Made.depth = (P.types.size + Made.depth - 1) + 1 := by simp [Made.depth]
            simp only [execOp, ho, resolve, Sem.run_bind, Sem.run_pure, Result.andThen_ok, he, invoke]
            have hz : (#[Value.iface t v'] ++ Array.map a.eval as)[0]? = some (Value.iface t v') := by rw [Array.getElem?_append_left (show 0 < 1 from Nat.zero_lt_one)]; rfl
            have hxs : (#[Value.iface t v'] ++ Array.map a.eval as).extract 1 (#[Value.iface t v'] ++ Array.map a.eval as).size = Array.map a.eval as := by simp
            rw [hz]
            simp only [hxs, callMethod, Sem.run_bind, run_program, Result.andThen_ok]
            rw [hd, amethod_run hmt]
            simp only [Result.andThen_ok]
            exact run_callFunc_ok hc _ _
          · cases i with
            | zero =>
              have e3 : (#[v'] ++ Array.map a.eval as)[0]? = some v' := by rw [Array.getElem?_append_left (show 0 < 1 from Nat.zero_lt_one)]; rfl
              rw [e3] at e2
              cases e1; cases e2; exact hv'
            | succ i =>
              simp only [List.getElem?_cons_succ] at e1
              rw [Array.getElem?_append_right (by simp)] at e2
              exact p2 i x v e1 (by simpa using e2)
      · cases ht
    · cases ht
  · cases ht

/-- One statement that is ready, whichever. -/
theorem Mid.go (bd : Body P n lt ops ss) (pl : Plan P ss envS HS envF G V hd) (fr : FR n wS mS HS B envS aS) (md : Mid P n ss wS mS HS B aS envF G V hd done a w p m) {i : Nat} {s : IStmt} {o : Oper} (hi : ss[i]? = some s) (ho : ops[i]? = some o) (htr : trStmt P n (some lt) ops o = some s) (hdn : ¬ done i)
    (hready : ∀ e, e ∈ o.after → Region.binds .any e = true → done e.on) (hanc : ∀ x, (ancs [] ops)[i]? = some x → ∀ j, x.testBit j = true → done j) {K : Act → World → Prop} {Q : Exit → Act → World → Prop}
    (hK : ∀ v w' p' m', Mid P n ss wS mS HS B aS envF G V hd (fun j => done j ∨ j = i) (a.put o.dst v) w' p' m' → K (a.put o.dst v) w') : wpOp P ops.toArray Q i K a w := by
  obtain ⟨hio, hdo, hdlt⟩ := trStmt_op htr
  have slots : ∀ t x, t ∈ slotsOf s → AEnv.get envF t = some x → ∃ v, a.tmps[t]? = some v ∧ RV w m (G p) B x v := by
    intro t x ht hx
    refine md.frame pl fr hx fun j sj hj hdj => ?_
    obtain ⟨o', ho', e, he, hb, hon⟩ := bd.avail i s hi t ht j sj hj hdj
    rw [ho] at ho'; cases ho'
    rw [← hon]; exact hready e he hb
  have frt : FR n w m (G p) B (AEnv.trim envF s.uses) a := ⟨md.defers, md.size, fun t x e => by
    obtain ⟨h1, h2⟩ := get_trim _ e
    exact slots t x (by simp [slotsOf, h1]) h2⟩
  have sameph : isW s = false → ∀ k sk, ss[k]? = some sk → isW sk = true → ((done k ∨ k = i) ↔ nW (ss.take k) < p) := by
    intro hw k sk hk hsk
    have hki : k ≠ i := by
      intro e; subst e; rw [hi] at hk; cases hk; rw [hw] at hsk; cases hsk
    rw [← md.ph k sk hk hsk]
    exact ⟨fun h => h.resolve_right hki, .inl⟩
  have free0 : ∀ j h, j < ss.length → ¬ done j → j ≠ i → hd j = some h → m h = none := fun j h hj hnd _ hh => md.free j h hj hnd hh
  have late0 : 0 < p → ∀ j sj, ss[j]? = some sj → isAC sj = true → done j ∨ j = i := fun hp j sj hj hac => .inl (md.late hp j sj hj hac)
  unfold wpOp
  have hoa : ops.toArray[i]? = some o := by simpa using ho
  simp only [hoa]
  rcases pl.info i s hi with ⟨hg, hV, hh, hw⟩ | ⟨hg, hinfo⟩
  · rw [if_neg (by rw [wanted_off htr hg slots]; simp)]
    refine hK undef w p m ?_
    rw [← hdo]
    exact md.step bd hi hdn md.st (Adv.refl _ _ _) (by rw [hV]; exact .tuple [] #[] rfl (by simp)) hdlt free0 md.phle (sameph hw) late0
  · rw [if_pos (wanted_on htr hg slots)]
    refine .inl ?_
    -- values without a new object
    have valstep : isW s = false → qstep s.op (AEnv.trim envF s.uses) (G p) = some (.val (V i)) → o.wp P a w K Q := by
      intro hw hq
      obtain ⟨v, h1, h2⟩ := qstep_sound hio md.st frt hq
      unfold Oper.wp
      rw [h1, Oper.upon_value]
      refine hK v w p m ?_
      rw [← hdo]
      exact md.step bd hi hdn md.st (Adv.refl _ _ _) h2 hdlt free0 md.phle (sameph hw) late0
    cases hc : cls s.op with
    | pure =>
      rw [hc] at hinfo
      exact valstep (by simp [isW, hc]) (hinfo.2 _)
    | load =>
      rw [hc] at hinfo
      refine valstep (by simp [isW, hc]) (hinfo.2 p md.phle ?_)
      cases hl : s.late with
      | true => exact .inl rfl
      | false =>
        refine .inr ?_
        rcases Nat.eq_zero_or_pos p with h | h
        · exact h
        · exact absurd (md.late h i s hi (by simp [isAC, hc, hl])) hdn
    | alloc =>
      rw [hc] at hinfo
      have hw : isW s = false := by simp [isW, hc]
      have hp0 : p = 0 := by
        rcases Nat.eq_zero_or_pos p with h | h
        · exact h
        · exact absurd (md.late h i s hi (by simp [isAC, hc])) hdn
      subst hp0
      obtain ⟨h, hh, hcase⟩ := hinfo
      have hm : m h = none := md.free i h (List.getElem?_eq_some_iff.1 hi).1 hdn hh
      have free1 : ∀ j h', j < ss.length → ¬ done j → j ≠ i → hd j = some h' → AMap.upd m h w.heap.size h' = none := by
        intro j h' hj hnd hji hh'
        have hne : h' ≠ h := by
          intro e; subst e
          exact hji (pl.inj j i h' hj (List.getElem?_eq_some_iff.1 hi).1 hh' hh)
        simp [AMap.upd, hne, md.free j h' hj hnd hh']
      rcases hcase with ⟨e, sz, cells, hq, hob, hV⟩ | ⟨e, sz, els, hq, hob, hV⟩
      · obtain ⟨hl, vs, h1, h2, h3⟩ := qstep_sound hio md.st frt hq
        obtain ⟨q1, q2, q3⟩ := box_ok md.st hob hm hl (vs := vs) h3
        unfold Oper.wp
        rw [h1, Oper.upon_value]
        refine hK _ _ 0 (AMap.upd m h w.heap.size) ?_
        rw [← hdo]
        exact md.step bd hi hdn q1 q2 (by rw [hV]; exact q3) hdlt free1 md.phle (sameph hw) late0
      · obtain ⟨hu, vs, cap, h1, h2, h3, h4, h5⟩ := qstep_sound hio md.st frt hq
        obtain ⟨q1, q2, q3⟩ := arr_ok md.st hob hm hu (w1 := w) rfl rfl rfl rfl h2 h3 h4 h5
        unfold Oper.wp
        rw [h1, Oper.upon_value]
        refine hK _ _ 0 (AMap.upd m h w.heap.size) ?_
        rw [← hdo]
        exact md.step bd hi hdn q1 q2 (by rw [hV]; exact q3) hdlt free1 md.phle (sameph hw) late0
    | call =>
      rw [hc] at hinfo
      have hw : isW s = false := by simp [isW, hc]
      have hp0 : p = 0 := by
        rcases Nat.eq_zero_or_pos p with h | h
        · exact h
        · exact absurd (md.late h i s hi (by simp [isAC, hc])) hdn
      subst hp0
      rcases hinfo with ⟨_, f, vs, ys, ht, hf, hp⟩ | ⟨h, hh, f, vs, ys, e, sz, els, ht, hf, hp, hob, hV⟩
      · obtain ⟨as, hrun, hargs⟩ := target_run (w := w) hio ht frt hp.1
        refine upon_calls (hp.2 w as (hf.args md.st hargs)) (fun e w' ⟨v, he, hb, hr⟩ => ⟨v, he, ?_⟩) hrun
        obtain ⟨q1, q2⟩ := below_adv md.st hb
        refine hK v w' 0 m ?_
        rw [← hdo]
        exact md.step bd hi hdn q1 q2 (hr m (G 0) B md.st.base (fun k b e => (md.st.dom k b e).2.1)) hdlt free0 md.phle (sameph hw) late0
      · obtain ⟨as, hrun, hargs⟩ := target_run (w := w) hio ht frt hp.1
        have hm : m h = none := md.free i h (List.getElem?_eq_some_iff.1 hi).1 hdn hh
        refine upon_calls (hp.2.2 w as (hf.args md.st hargs)) (fun en w' ⟨b, cap, us, he, hb, h1, h2, h3, h4, h5, h6, hcc⟩ => ⟨_, he, ?_⟩) hrun
        obtain ⟨q1, q2⟩ := adopt_call md.st hb hob hm h1 h2 h3 hp.2.1 hcc
        refine hK _ w' 0 (AMap.upd m h b) ?_
        rw [← hdo]
        refine md.step bd hi hdn q1 q2 (by rw [hV]; exact adopt_own hob h3 h4 h5 h6) hdlt (fun j h' hj hnd hji hh' => ?_) md.phle (sameph hw) late0
        have hne : h' ≠ h := by
          intro e; subst e
          exact hji (pl.inj j i h' hj (List.getElem?_eq_some_iff.1 hi).1 hh' hh)
        simp [AMap.upd, hne, md.free j h' hj hnd hh']
    | write =>
      rw [hc] at hinfo
      have hw : isW s = true := by simp [isW, hc]
      obtain ⟨hh, x, hs, hV⟩ := hinfo
      have hanc' : ∀ j sj, ss[j]? = some sj → (isAC sj = true ∨ isW sj = true ∧ j < i) → done j := by
        intro j sj hj hcase
        obtain ⟨x, h1, h2⟩ := bd.word i s hi hw j sj hj hcase
        exact hanc x h1 j h2
      have hpi : p = nW (ss.take i) := by
        have h1 : ¬ nW (ss.take i) < p := fun h => hdn ((md.ph i s hi hw).2 h)
        rcases Nat.lt_or_ge p (nW (ss.take i)) with h | h
        · obtain ⟨j, sj, h2, h3, h4, h5⟩ := nW_find i p h
          have := (md.ph j sj h3 h4).1 (hanc' j sj h3 (.inr ⟨h4, h2⟩))
          omega
        · omega
      subst hpi
      obtain ⟨w', m', p1, p2, p3⟩ := sstep_sound hio md.st frt hs
      have fin : ∀ v, RV w' m' (G (nW (ss.take i) + 1)) B (V i) v → K (a.put o.dst v) w' := by
        intro v hv
        refine hK v w' (nW (ss.take i) + 1) m' ?_
        rw [← hdo]
        refine md.step bd hi hdn p1 p2 hv hdlt (fun j h' hj hnd hji hh' => ?_) ?_ (fun k sk hk hsk => ?_) (fun _ j sj hj hac => .inl (hanc' j sj hj (.inl hac)))
        · exfalso
          have hsj : ss[j]? = some ss[j] := List.getElem?_eq_getElem hj
          refine hnd (hanc' j _ hsj (.inl ?_))
          rcases pl.info j _ hsj with ⟨_, _, h, _⟩ | ⟨_, hinf⟩
          · rw [hh'] at h; cases h
          · unfold isAC
            cases hcj : cls ss[j].op <;> rw [hcj] at hinf
            all_goals (first | rfl | (rw [hh'] at hinf; exact absurd hinf.1 (by simp)))
        · have := nW_lt hi hw (show i < i + 1 by omega)
          have h2 := nW_mono ss (ss.length - (i + 1)) (i + 1)
          rw [show i + 1 + (ss.length - (i + 1)) = ss.length by have := (List.getElem?_eq_some_iff.1 hi).1; omega, List.take_length] at h2
          omega
        · by_cases hki : k = i
          · subst hki; exact ⟨fun _ => Nat.lt_succ_self _, fun _ => .inr rfl⟩
          · have hne : nW (ss.take k) ≠ nW (ss.take i) := by
              rcases Nat.lt_or_gt_of_ne hki with h | h
              · have := nW_lt hk hsk h; omega
              · have := nW_lt hi hw h; omega
            have := md.ph k sk hk hsk
            constructor
            · intro h
              have := this.1 (h.resolve_right hki); omega
            · intro h
              exact .inl (this.2 (by omega))
      cases x with
      | some x =>
        obtain ⟨v, h1, h2⟩ := p3
        unfold Oper.wp
        rw [h1, Oper.upon_value]
        exact fin v (by rw [hV]; exact h2)
      | none =>
        unfold Oper.wp
        rw [p3, Oper.upon_skip]
        exact fin undef (by rw [hV]; exact .tuple [] #[] rfl (by simp))
end
end Go.Awp
