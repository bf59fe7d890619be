/- Regions that draw their order, part 5: the theorem. Generic in the program. -/
import Derived.Test.YtomejgikdelgkaaGreatDoorA4
import Derived.Scope
set_option linter.unusedVariables false
set_option linter.unusedSimpArgs false
set_option linter.unusedSectionVars false
namespace Go.Awp
set_option linter.unusedSectionVars false
variable [Fx]
section
variable {P : Program} {n : Nat} {lt : List Nat} {ops : List Oper} {ss : List IStmt} {wS : World} {mS : AMap} {HS : AHeap} {B : Nat} {aS : Act} {envS envF : AEnv} {G : Nat → AHeap} {V : Nat → AV} {hd : Nat → Option Nat}
theorem any_order {k : Nat} (hk : k < ops.length) (hlen : ss.length = k) (bd : Body P n lt ops ss) (pl : Plan P ss envS HS envF G V hd) (fr : FR n wS mS HS B envS aS) (hs : Region.sinkB .any ops.toArray k = true) (hc : Region.chainB .any ops.toArray k = true) (hq : Region.seqB .any ops.toArray (ops.length - k) k (doneArr ops.length k) = true)
    (hback : ∀ i o, i < k → ops[i]? = some o → ∀ e, e ∈ o.after → Region.binds .any e = true → e.on < i) {Q : Exit → Act → World → Prop}
    (hfin : ∀ a w m, Mid P n ss wS mS HS B aS envF G V hd (fun i => i < k) a w (nW ss) m → wpList P ops.toArray Q (ops.drop k) a w) :
    ∀ (c : Nat) (listed : Array Bool) (a : Act) (w : World) (p : Nat) (m : AMap), (List.range k).countP (fun i => !listed.getD i true) = c → HeadInv .any ops.toArray k listed → Mid P n ss wS mS HS B aS envF G V hd (fun i => i < k ∧ listed.getD i false = true) a w p m →
      wpAny P .any ops.toArray Q (c + (ops.length - k)) listed a w
  | 0, listed, a, w, p, m, hcount, inv, md => by
    have hall : ∀ i, i < k → listed.getD i true = true := by
      intro i hi
      have := List.countP_eq_zero.1 hcount i (List.mem_range.2 hi)
      simpa using this
    have hsz : listed.size = ops.length := by rw [inv.size]; simp
    have hget : ∀ i, i < k → listed.getD i false = true := by
      intro i hi
      have := hall i hi
      have hlt : i < listed.size := by omega
      simp [hlt] at this ⊢; exact this
    have hd' : listed = doneArr ops.length k := by
      apply Array.ext
      · simp [doneArr, hsz]
      · intro i h1 h2
        have e1 : (doneArr ops.length k)[i] = decide (i < k) := by simp [doneArr]
        rw [e1]
        by_cases hi : i < k
        · have := hget i hi
          simp [h1] at this
          simp [hi, this]
        · have := inv.tail i (by omega) (by simp; omega)
          simp [h1] at this
          simp [hi, this]
    rw [Nat.zero_add]
    have hp : p = nW ss := by
      rcases Nat.lt_or_ge p (nW ss) with h | h
      · obtain ⟨j, s, h1, h2, h3, h4⟩ := nW_find (ss := ss) ss.length p (by rw [List.take_length]; exact h)
        have := (md.ph j s h2 h3).1 ⟨by omega, hget j (by omega)⟩
        omega
      · have := md.phle; omega
    subst hp
    have hm : Mid P n ss wS mS HS B aS envF G V hd (fun i => i < k) a w (nW ss) m := by
      have e : (fun i => i < k ∧ listed.getD i false = true) = fun i => i < k := by
        funext i
        exact propext ⟨fun h => h.1, fun h => ⟨h, hget i h⟩⟩
      rw [e] at md; exact md
    have hdl : (ops.drop k).length = ops.length - k := by simp
    rw [← hdl]
    refine wpAny_of_seq (ops.drop k) k listed a w (fun j => by simp [List.getElem?_drop]) ?_ (hfin a w m hm)
    rw [hdl, hd']; exact hq
  | c + 1, listed, a, w, p, m, hcount, inv, md => by
    have hsz : listed.size = ops.length := by rw [inv.size]; simp
    -- there is one that is not done
    obtain ⟨u, hu1, hu2⟩ : ∃ u, u < k ∧ listed.getD u true = false := by
      have : 0 < (List.range k).countP (fun i => !listed.getD i true) := by omega
      obtain ⟨u, h1, h2⟩ := List.countP_pos_iff.1 this
      exact ⟨u, List.mem_range.1 h1, by simpa using h2⟩
    have hready : ∀ t, t ∈ Region.ready .any ops.toArray listed → t < k := by
      intro t ht
      rcases Nat.lt_or_ge t k with h | h
      · exact h
      · exact absurd ht (tail_waits hs hc (by simpa using hk) inv _ u rfl hu1 hu2 t h)
    have hne : Region.ready .any ops.toArray listed ≠ [] := by
      -- the least that is not done is ready
      have key : ∀ d u, u ≤ d → u < k → listed.getD u true = false → ∃ t, t ∈ Region.ready .any ops.toArray listed := by
        intro d
        induction d with
        | zero =>
          intro u hu hk' hn
          have hu0 : u = 0 := by omega
          subst hu0
          have ho : ops[0]? = some (ops[0]'(by omega)) := List.getElem?_eq_getElem _
          exact ⟨0, mem_ready.2 ⟨hn, _, by simp, fun e he hb => absurd (hback 0 _ hk' ho e he hb) (Nat.not_lt_zero _)⟩⟩
        | succ d ih =>
          intro u hu hk' hn
          have ho : ops[u]? = some (ops[u]'(by omega)) := List.getElem?_eq_getElem _
          by_cases hall : ∀ e, e ∈ (ops[u]'(by omega)).after → Region.binds .any e = true → listed.getD e.on false = true
          · exact ⟨u, mem_ready.2 ⟨hn, _, by simp, hall⟩⟩
          · obtain ⟨e, he⟩ := Classical.not_forall.1 hall
            obtain ⟨he1, he2⟩ := Classical.not_imp.1 he
            obtain ⟨he3, he4⟩ := Classical.not_imp.1 he2
            have hlt := hback u _ hk' ho e he1 he3
            have : listed.getD e.on false = false := by simpa using he4
            exact ih e.on (by omega) (by omega) (getD_in (by omega) this)
      obtain ⟨t, ht⟩ := key u u (Nat.le_refl _) hu1 hu2
      intro e; rw [e] at ht; cases ht
    rw [show c + 1 + (ops.length - k) = (c + (ops.length - k)) + 1 by omega]
    refine ⟨fun e => absurd e hne, fun i hi => ?_⟩
    have hik := hready i hi
    obtain ⟨hn, oi, hoi, hafter⟩ := mem_ready.1 hi
    have hoi' : ops[i]? = some oi := by simpa using hoi
    have hsi : ss[i]? = some (ss[i]'(by omega)) := List.getElem?_eq_getElem _
    obtain ⟨o', ho', htr⟩ := bd.tr i _ hsi
    rw [hoi'] at ho'; cases ho'
    have hnd : ¬ (i < k ∧ listed.getD i false = true) := fun h => by
      have := getD_both hn; rw [this] at h; cases h.2
    have hon : ∀ e, e ∈ oi.after → Region.binds .any e = true → e.on < k ∧ listed.getD e.on false = true := fun e he hb => ⟨Nat.lt_trans (hback i oi hik hoi' e he hb) hik, hafter e he hb⟩
    refine Mid.go bd pl fr md hsi hoi' htr hnd hon (fun x hx j hj => ?_) fun v w' p' m' md' => ?_
    · have hcl : ∀ j, (j < k ∧ listed.getD j false = true) → Listed ops (fun j => j < k ∧ listed.getD j false = true) j := by
        intro j ⟨h1, h2⟩ o ho e he hb
        exact ⟨Nat.lt_trans (hback j o h1 ho e he hb) h1, inv.closed j o (by simpa using ho) h2 e he hb⟩
      exact ancs_spec ops (fun j => j < k ∧ listed.getD j false = true) hcl ops [] (fun j => by simp) (by simp) i x hx j hj (fun o ho e he hb => by
        rw [hoi'] at ho; cases ho
        exact hon e he hb)
    · have inv' := inv.set hi hik
      have hcount' : (List.range k).countP (fun j => !(listed.setIfInBounds i true).getD j true) = c := by
        have := countP_upd (p := fun j => !listed.getD j true) (q := fun j => !(listed.setIfInBounds i true).getD j true) (i := i) (List.range k) List.nodup_range (List.mem_range.2 hik) (by simp only [hn]; rfl) (by
          have hlt : i < listed.size := by omega
          simp [hlt]) (fun j hj => by rw [getD_set_ne true (Ne.symm hj)])
        omega
      have hdone : (fun j => (j < k ∧ listed.getD j false = true) ∨ j = i) = fun j => j < k ∧ (listed.setIfInBounds i true).getD j false = true := by
        funext j
        apply propext
        by_cases hji : j = i
        · subst hji
          have hlt : j < listed.size := by omega
          simp [hlt, hik]
        · rw [getD_set_ne false (Ne.symm hji)]
          exact ⟨fun h => h.resolve_right hji, .inl⟩
      rw [hdone] at md'
      exact any_order hk hlen bd pl fr hs hc hq hback hfin c _ _ _ p' m' hcount' inv' md'
theorem draw_sound (hmix : P.follows .mixedOrders = true) {k np : Nat} {tl : List IStmt} {id : Nat} {H : AHeap} {env : AEnv} {w0 : World} {m0 : AMap} {H0 : AHeap} {a : Act} {w : World} {K : AEnv → AHeap → Prop} {Q : Exit → Act → World → Prop} (htr : trStmts P n (some lt) ops (ops.take k) = some ss) (htl : trStmts P n none ops (ops.drop k) = some tl) (hchk : drawChk ops ss k np = true)
    (rel : Rel n w0 m0 H0 B env H a w) (h : awpD1 P (ss.take np) [] (fun L env H => awpD2 (ss.drop np) L [] (fun env H => awpOps P tl K env H) env H) env H) (hq : ∀ env' H' a' w', K env' H' → Rel n w0 m0 H0 B env' H' a' w' → Q .normal a' w') : (Code.region id ops.toArray true).wp P Q a w := by
  have hchk' := hchk
  simp only [drawChk, Bool.and_eq_true, decide_eq_true_eq] at hchk'
  obtain ⟨⟨⟨⟨⟨⟨⟨⟨⟨⟨h0, h1⟩, h2⟩, h3⟩, h4⟩, h5⟩, h6⟩, h7⟩, h8⟩, h9⟩, h10⟩ := hchk'
  obtain ⟨bd, hback⟩ := body_of (Nat.le_of_lt h0) htr hchk
  obtain ⟨hl, _⟩ := trStmts_get _ _ htr
  have hlen : ss.length = k := by rw [hl, List.length_take]; omega
  have hpre : ∀ s, s ∈ ss.take np → isW s = false := fun s hs => by
    have := List.all_eq_true.1 h6 s hs
    simpa using this
  obtain ⟨envF, G, V, hd, pl, hK⟩ := plan_of (pre := ss.take np) (post := ss.drop np) (by rw [List.take_append_drop]; exact h4) hpre h
  rw [List.take_append_drop] at pl hK
  obtain ⟨m, fr, st, ad⟩ := rel
  -- the draw itself
  have adr : Adv w m H { w with drawn := w.drawn + 1 } m H := ⟨rfl, rfl, rfl, Nat.le_refl _, fun _ _ _ => rfl, fun _ _ e => .inl e, Nat.le_refl _, fun _ o' _ e => ⟨o', e, rfl, rfl, Nat.le_refl _, fun _ b hb => ⟨hb, rfl⟩, fun _ h => h⟩⟩
  have str : St { w with drawn := w.drawn + 1 } m H B := ⟨st.base, fun k b e => by
    obtain ⟨p1, p2, o1, cs, p3, p4, p5, p6⟩ := st.dom k b e
    exact ⟨p1, p2, o1, cs, p3, p4, p5, fun i el j x a1 a2 => by
      obtain ⟨v, q1, q2, q3⟩ := p6 i el j x a1 a2
      exact ⟨v, q1, q2.mono adr, q3⟩⟩, st.domP, st.inj, st.fxa adr⟩
  have frr := fr.mono adr
  refine wp_region_any hmix ?_
  obtain ⟨X, hX⟩ := pl.g0
  obtain ⟨s1, s2⟩ := str.push X
  have hcount : (List.range k).countP (fun i => !(Array.replicate ops.toArray.size false).getD i true) = k := by
    have : (List.range k).countP (fun i => !(Array.replicate ops.toArray.size false).getD i true) = (List.range k).length := by
      rw [List.countP_eq_length]
      intro i hi
      have : i < ops.length := by have := List.mem_range.1 hi; omega
      simp [this]
    rw [this, List.length_range]
  have inv0 : HeadInv .any ops.toArray k (Array.replicate ops.toArray.size false) :=
    ⟨by simp, fun j oj _ hl => (by rw [getD_replicate_false] at hl; cases hl), fun t _ ht => getD_in (by simpa using ht) (getD_replicate_false _ _)⟩
  have hnone : ∀ i, ¬ (i < k ∧ (Array.replicate ops.toArray.size false).getD i false = true) := fun i h => by rw [getD_replicate_false] at h; cases h.2
  have md0 : Mid P n ss { w with drawn := w.drawn + 1 } m H B a envF G V hd (fun i => i < k ∧ (Array.replicate ops.toArray.size false).getD i false = true) a { w with drawn := w.drawn + 1 } 0 m := by
    refine ⟨by rw [hX]; exact s1, by rw [hX]; exact s2, fr.defers, fr.size, fun i s d _ hdn _ => absurd hdn (hnone i), fun t _ => rfl, fun i h hi _ hh => ?_, Nat.zero_le _, fun k' s hk' hw => ⟨fun hdn => absurd hdn (hnone k'), fun h => absurd h (Nat.not_lt_zero _)⟩, fun h => absurd h (Nat.lt_irrefl _)⟩
    have := pl.fresh i h hh
    constructor
    · cases hm : m h with
      | none => rfl
      | some b => exact absurd (st.mlt hm) (by omega)
    · cases hm : m (.p h) with
      | none => rfl
      | some b => exact absurd (st.mltP hm) (by omega)
  have := any_order h0 hlen bd pl frr h1 h2 h3 hback (Q := Q) (fun a' w' m' md => ?_) k _ a _ 0 m hcount inv0 md0
  · rw [show k + (ops.length - k) = ops.toArray.size by simp; omega] at this
    exact this
  · refine awpOps_sound (w0 := w0) (m0 := m0) (H0 := H0) (B := B) (n := n) (ops := ops) (ops.drop k) tl htl envF _ a' w' ?_ hK hq
    refine ⟨m', ⟨md.defers, md.size, fun t x hx => md.frame pl frr hx fun j sj hj _ => ?_⟩, md.st, (ad.trans adr).trans md.ad⟩
    rw [← hlen]; exact (List.getElem?_eq_some_iff.1 hj).1
end
end Go.Awp
/- Regions that draw their order, part 6: all orders of what has effects, each walked. Generic in the program. -/
namespace Go.Awp
set_option linter.unusedSectionVars false
variable [Fx]
/-- The orders of a region as a tree: quiet operations as soon as they can be; reads, which are read again behind what may change them; then whatever may come next. -/
inductive AT where
  | fin
  | pure (s : IStmt) (k : AT)
  | load (i : Nat) (s : IStmt) (k : AT)
  | stop
  | alt (s : IStmt) (rc : List Nat) (k r : AT)
abbrev LL := List (Nat × IOp × AEnv × AV)
/-- What was read reads the same. -/
def Reads (rc : List Nat) : LL → AHeap → Prop
  | [], _ => True
  | t :: L, H => (if rc.contains t.1 = true then qstep t.2.1 t.2.2.1 H = some (.val t.2.2.2) else True) ∧ Reads rc L H
theorem Reads.at {rc : List Nat} : ∀ {L : LL} {H : AHeap}, Reads rc L H → ∀ t, t ∈ L → t.1 ∈ rc → qstep t.2.1 t.2.2.1 H = some (.val t.2.2.2)
  | [], _, _, t, h, _ => by cases h
  | x :: L, H, hs, t, h, hr => by
    rcases List.mem_cons.1 h with rfl | h
    · have := hs.1
      rwa [if_pos (by simpa using hr)] at this
    · exact Reads.at hs.2 t h hr
def awpT (P : Program) (K : AEnv → AHeap → Prop) : AT → LL → AEnv → AHeap → Prop
  | .fin, _, env, H => K env H
  | .pure s k, L, env, H => (match qstep s.op (AEnv.trim env s.uses) H with
    | some (.val v) => awpT P K k L (envput s.dst v env) H
    | _ => False)
  | .load i s k, L, env, H => (match qstep s.op (AEnv.trim env s.uses) H with
    | some (.val v) => awpT P K k ((i, s.op, AEnv.trim env s.uses, v) :: L) (envput s.dst v env) H
    | _ => False)
  | .stop, _, _, _ => True
  | .alt s rc k r, L, env, H => acall P s.op (AEnv.trim env s.uses) H (fun x H' => Reads rc L H' ∧ awpT P K k L (envput s.dst x env) H') ∧ awpT P K r L env H
def isEff (s : IStmt) : Bool := match cls s.op with | .pure | .load => false | _ => true
def isLd (s : IStmt) : Bool := match cls s.op with | .load => true | _ => false
def rdy (pr : List (List Nat)) (D : Nat → Bool) (i : Nat) : Bool := (pr.getD i []).all D
def setD (D : Nat → Bool) (i : Nat) : Nat → Bool := fun j => j == i || D j
def closeT (ss : List IStmt) (pr : List (List Nat)) (k : (Nat → Bool) → AT) : Nat → (Nat → Bool) → AT
  | 0, D => k D
  | c + 1, D => match ss[ss.length - (c + 1)]? with
    | some s => if (!D (ss.length - (c + 1)) && rdy pr D (ss.length - (c + 1)) && !isEff s) = true then
        (if isLd s = true then .load (ss.length - (c + 1)) s (closeT ss pr k c (setD D (ss.length - (c + 1)))) else .pure s (closeT ss pr k c (setD D (ss.length - (c + 1)))))
      else closeT ss pr k c D
    | none => closeT ss pr k c D
def altsT (ss : List IStmt) (pr rc : List (List Nat)) (k : (Nat → Bool) → AT) (D : Nat → Bool) : Nat → AT
  | 0 => .stop
  | c + 1 => match ss[ss.length - (c + 1)]? with
    | some s => if (!D (ss.length - (c + 1)) && rdy pr D (ss.length - (c + 1)) && isEff s) = true then .alt s (rc.getD (ss.length - (c + 1)) []) (k (setD D (ss.length - (c + 1)))) (altsT ss pr rc k D c) else altsT ss pr rc k D c
    | none => altsT ss pr rc k D c
def planT (ss : List IStmt) (pr rc : List (List Nat)) : Nat → (Nat → Bool) → AT
  | 0, D => closeT ss pr (fun _ => .fin) ss.length D
  | f + 1, D => closeT ss pr (fun D' => altsT ss pr rc (planT ss pr rc f) D' ss.length) ss.length D
def node (ss : List IStmt) (pr rc : List (List Nat)) : Nat → (Nat → Bool) → AT
  | 0, _ => .fin
  | f + 1, D => altsT ss pr rc (planT ss pr rc f) D ss.length
def prOf (ops : List Oper) : List (List Nat) := ops.map fun o => o.after.toList.filterMap fun e => if Region.binds .any e then some e.on else none
def rcOf (ops : List Oper) (ss : List IStmt) : List (List Nat) := (ancs [] ops).map fun x => (List.range ss.length).filter fun j => !x.testBit j && ((ss[j]?).map isLd).getD false
def effs (ss : List IStmt) (D : Nat → Bool) : Nat := (List.range ss.length).countP fun i => !D i && ((ss[i]?).map isEff).getD false
theorem planT_node {ss : List IStmt} {pr rc : List (List Nat)} {f : Nat} {D : Nat → Bool} : planT ss pr rc f D = closeT ss pr (node ss pr rc f) ss.length D := by
  cases f <;> rfl
structure SBody (P : Program) (n : Nat) (lt : List Nat) (ops : List Oper) (ss : List IStmt) (pr rc : List (List Nat)) : Prop where
  tr : ∀ (i : Nat) (s : IStmt), ss[i]? = some s → ∃ o, ops[i]? = some o ∧ trStmt P n (some lt) ops o = some s
  avail : ∀ (i : Nat) (s : IStmt), ss[i]? = some s → ∀ t, t ∈ s.uses → ∀ (j : Nat) (sj : IStmt), ss[j]? = some sj → sj.dst = some t → j ∈ pr.getD i []
  dinj : ∀ (i j : Nat) (si sj : IStmt) (d : Nat), ss[i]? = some si → ss[j]? = some sj → si.dst = some d → sj.dst = some d → i = j
  back : ∀ i, i < ss.length → ∀ j, j ∈ pr.getD i [] → j < i
  noguard : ∀ (i : Nat) (s : IStmt), ss[i]? = some s → s.guard = none
  prs : ∀ (i : Nat) (o : Oper), i < ss.length → ops[i]? = some o → ∀ j, j ∈ pr.getD i [] → ∃ e, e ∈ o.after ∧ Region.binds .any e = true ∧ e.on = j
  rcs : ∀ (i : Nat), i < ss.length → ∀ (j : Nat) (sj : IStmt), ss[j]? = some sj → isLd sj = true → (∃ x, (ancs [] ops)[i]? = some x ∧ x.testBit j = true) ∨ j ∈ rc.getD i []
section
variable {P : Program} {n : Nat} {lt : List Nat} {ops : List Oper} {ss : List IStmt} {pr rc : List (List Nat)} {K : AEnv → AHeap → Prop}
theorem setD_eq {D : Nat → Bool} {i : Nat} : setD D i i = true := by simp [setD]
theorem setD_ne {D : Nat → Bool} {i j : Nat} (h : j ≠ i) : setD D i j = D j := by
  have : (j == i) = false := by simpa using h
  simp [setD, this]
theorem setD_mono {D : Nat → Bool} {i j : Nat} (h : D j = true) : setD D i j = true := by simp [setD, h]
/-- What is done ahead of its turn: quiet operations and reads whose operands are there. -/
structure Done (ss : List IStmt) (D D2 : Nat → Bool) (L2 : LL) (env2 : AEnv) (H : AHeap) : Prop where
  mono : ∀ j, D j = true → D2 j = true
  new : ∀ (j : Nat) (s : IStmt), ss[j]? = some s → D2 j = true → D j = false → isEff s = false ∧ ∃ V, (∀ d, s.dst = some d → AEnv.get env2 d = some V) ∧ qstep s.op (AEnv.trim env2 s.uses) H = some (.val V) ∧ (isLd s = true → (j, s.op, AEnv.trim env2 s.uses, V) ∈ L2)
theorem close_ext (sb : SBody P n lt ops ss pr rc) {k : (Nat → Bool) → AT} : ∀ (c : Nat) (D : Nat → Bool) (L : LL) (env : AEnv) (H : AHeap), c ≤ ss.length → awpT P K (closeT ss pr k c D) L env H →
    (∀ i j, i < ss.length → D i = true → j ∈ pr.getD i [] → D j = true) → (∀ (j : Nat) (s : IStmt), j < ss.length - c → ss[j]? = some s → D j = false → rdy pr D j = true → isEff s = true) →
    ∃ D2 L2 env2, awpT P K (k D2) L2 env2 H ∧ Done ss D D2 L2 env2 H ∧ (∀ t, t ∈ L → t ∈ L2) ∧ (∀ t, (∀ (j : Nat) (s : IStmt), ss[j]? = some s → D2 j = true → D j = false → s.dst ≠ some t) → AEnv.get env2 t = AEnv.get env t) ∧
      (∀ i j, i < ss.length → D2 i = true → j ∈ pr.getD i [] → D2 j = true) ∧ (∀ (j : Nat) (s : IStmt), ss[j]? = some s → D2 j = false → rdy pr D2 j = true → isEff s = true) ∧ (∀ j, j < ss.length - c → D2 j = D j)
  | 0, D, L, env, H, _, h, hdn, hcl => by
    refine ⟨D, L, env, h, ⟨fun _ h => h, fun j s _ h1 h2 => by rw [h1] at h2; cases h2⟩, fun _ h => h, fun _ _ => rfl, hdn, fun j s hj h1 h2 => ?_, fun _ _ => rfl⟩
    exact hcl j s (by have := (List.getElem?_eq_some_iff.1 hj).1; omega) hj h1 h2
  | c + 1, D, L, env, H, hc, h, hdn, hcl => by
    have hlt : ss.length - (c + 1) < ss.length := by omega
    have hs : ss[ss.length - (c + 1)]? = some (ss[ss.length - (c + 1)]'hlt) := List.getElem?_eq_getElem _
    generalize hi : ss.length - (c + 1) = i at *
    generalize ss[i]'hlt = s at hs
    have hci : ss.length - c = i + 1 := by omega
    unfold closeT at h
    rw [hi, hs] at h
    simp only at h
    by_cases hcond : (!D i && rdy pr D i && !isEff s) = true
    · rw [if_pos hcond] at h
      simp only [Bool.and_eq_true, Bool.not_eq_true'] at hcond
      obtain ⟨⟨hD, hr⟩, he⟩ := hcond
      have step : ∃ v L', qstep s.op (AEnv.trim env s.uses) H = some (.val v) ∧ awpT P K (closeT ss pr k c (setD D i)) L' (envput s.dst v env) H ∧ (∀ t, t ∈ L → t ∈ L') ∧ (isLd s = true → (i, s.op, AEnv.trim env s.uses, v) ∈ L') := by
        by_cases hl : isLd s = true
        · rw [if_pos hl] at h
          simp only [awpT] at h
          split at h
          · rename_i v hv
            exact ⟨v, _, hv, h, fun t ht => List.mem_cons_of_mem _ ht, fun _ => List.mem_cons_self ..⟩
          · exact h.elim
        · rw [if_neg hl] at h
          simp only [awpT] at h
          split at h
          · rename_i v hv
            exact ⟨v, _, hv, h, fun t ht => ht, fun e => absurd e hl⟩
          · exact h.elim
      obtain ⟨v, L', hv, hk, hLL, hLd⟩ := step
      obtain ⟨D2, L2, env2, k1, k2, k3, k4, k5, k6, k7⟩ := close_ext sb c (setD D i) L' (envput s.dst v env) H (by omega) hk (fun a b ha hDa hb => by
        by_cases hai : a = i
        · subst hai; exact setD_mono (List.all_eq_true.1 hr b hb)
        · rw [setD_ne hai] at hDa; exact setD_mono (hdn a b ha hDa hb)) (fun j sj hj hsj hDj hrj => by
        rw [hci] at hj
        by_cases hji : j = i
        · subst hji; rw [setD_eq] at hDj; cases hDj
        · rw [setD_ne hji] at hDj
          refine hcl j sj (by omega) hsj hDj ?_
          unfold rdy at hrj ⊢
          rw [List.all_eq_true] at hrj ⊢
          intro q hq
          have := sb.back j (List.getElem?_eq_some_iff.1 hsj).1 q hq
          have h2 := hrj q hq
          rwa [setD_ne (by omega)] at h2)
      -- the slots that it uses stay
      have useK : ∀ t, t ∈ s.uses → AEnv.get env2 t = AEnv.get env t := fun t ht => by
        have notnew : ∀ (j : Nat) (sj : IStmt), ss[j]? = some sj → sj.dst = some t → D j = true := fun j sj hj hd => List.all_eq_true.1 hr j (sb.avail i s hs t ht j sj hj hd)
        rw [k4 t (fun j sj hj hj2 hj1 e => by
          have := notnew j sj hj e
          rw [setD_mono this] at hj1; cases hj1)]
        refine get_envput_ne fun e => ?_
        have := notnew i s hs e
        rw [hD] at this; cases this
      have htrim : AEnv.trim env2 s.uses = AEnv.trim env s.uses := trim_congr _ useK
      refine ⟨D2, L2, env2, k1, ⟨fun j hj => k2.mono j (setD_mono hj), fun j sj hsj h1 h2 => ?_⟩, fun t ht => k3 t (hLL t ht), fun t ht => ?_, k5, k6, fun j hj => ?_⟩
      · by_cases hji : j = i
        · subst hji
          rw [hs] at hsj; cases hsj
          refine ⟨he, v, fun d hd => ?_, by rw [htrim]; exact hv, fun hl => ?_⟩
          · rw [k4 d (fun q sq hq hq2 hq1 e => ?_), hd, get_envput_eq]
            have := sb.dinj q j sq s d hq hs e hd
            subst this
            rw [setD_eq] at hq1; cases hq1
          · rw [htrim]; exact k3 _ (hLd hl)
        · exact k2.new j sj hsj h1 (by rw [setD_ne hji]; exact h2)
      · rw [k4 t fun j sj hj h1 h2 => ht j sj hj h1 (by
          by_cases hji : j = i
          · subst hji; rw [setD_eq] at h2; cases h2
          · rwa [setD_ne hji] at h2)]
        exact get_envput_ne fun e => ht i s hs (k2.mono i setD_eq) hD e
      · rw [k7 j (by omega), setD_ne (by omega)]
    · rw [if_neg hcond] at h
      obtain ⟨D2, L2, env2, k1, k2, k3, k4, k5, k6, k7⟩ := close_ext sb c D L env H (by omega) h hdn (fun j sj hj hsj hDj hrj => by
        rw [hci] at hj
        by_cases hji : j = i
        · subst hji
          rw [hs] at hsj; cases hsj
          cases he : isEff s with
          | true => rfl
          | false => simp [hDj, hrj, he] at hcond
        · exact hcl j sj (by omega) hsj hDj hrj)
      exact ⟨D2, L2, env2, k1, k2, k3, k4, k5, k6, fun j hj => k7 j (by omega)⟩
theorem alts_get {k : (Nat → Bool) → AT} {D : Nat → Bool} {L : LL} {env : AEnv} {H : AHeap} : ∀ (c : Nat), c ≤ ss.length → awpT P K (altsT ss pr rc k D c) L env H → ∀ (i : Nat) (s : IStmt), ss.length - c ≤ i → ss[i]? = some s → D i = false → rdy pr D i = true → isEff s = true →
    acall P s.op (AEnv.trim env s.uses) H (fun x H' => Reads (rc.getD i []) L H' ∧ awpT P K (k (setD D i)) L (envput s.dst x env) H')
  | 0, _, _, i, s, h1, h2, _, _, _ => by have := (List.getElem?_eq_some_iff.1 h2).1; omega
  | c + 1, hc, h, i, s, h1, h2, h3, h4, h5 => by
    have hlt : ss.length - (c + 1) < ss.length := by omega
    have hs : ss[ss.length - (c + 1)]? = some (ss[ss.length - (c + 1)]'hlt) := List.getElem?_eq_getElem _
    unfold altsT at h
    by_cases hi : i = ss.length - (c + 1)
    · rw [← hi, h2] at h
      simp only at h
      rw [if_pos (by simp [h3, h4, h5])] at h
      exact h.1
    · rw [hs] at h
      simp only at h
      split at h
      · exact alts_get c (by omega) h.2 i s (by omega) h2 h3 h4 h5
      · exact alts_get c (by omega) h i s (by omega) h2 h3 h4 h5
variable {wS : World} {mS : AMap} {HS : AHeap} {B : Nat} {aS : Act} {envS : AEnv}
structure Jst (P : Program) (n : Nat) (ss : List IStmt) (pr rc : List (List Nat)) (K : AEnv → AHeap → Prop) (wS : World) (mS : AMap) (HS : AHeap) (B : Nat) (aS : Act) (envS : AEnv) (done : Nat → Prop) (a : Act) (w : World) (f : Nat) (D : Nat → Bool) (L : LL) (env : AEnv) (H : AHeap) (m : AMap) : Prop where
  st : St w m H B
  ad : Adv wS mS HS w m H
  defers : a.defers = []
  size : a.tmps.size = n
  tree : awpT P K (node ss pr rc f D) L env H
  cnt : f = effs ss D
  sub : ∀ i, i < ss.length → done i → D i = true
  eff : ∀ (i : Nat) (s : IStmt), ss[i]? = some s → D i = true → isEff s = true → done i
  cl : ∀ (i : Nat) (s : IStmt), ss[i]? = some s → D i = false → rdy pr D i = true → isEff s = true
  dn : ∀ i j, i < ss.length → D i = true → j ∈ pr.getD i [] → D j = true
  vals : ∀ (i : Nat) (s : IStmt) (d : Nat), ss[i]? = some s → done i → s.dst = some d → ∃ x v, AEnv.get env d = some x ∧ a.tmps[d]? = some v ∧ RV w m H B x v
  rest : ∀ t, (∀ (i : Nat) (s : IStmt), ss[i]? = some s → done i → s.dst ≠ some t) → a.tmps[t]? = aS.tmps[t]?
  other : ∀ t, t ∉ dstsOf ss → AEnv.get env t = AEnv.get envS t
  pend : ∀ (i : Nat) (s : IStmt), ss[i]? = some s → D i = true → isEff s = false → ¬ done i → ∃ V, (∀ d, s.dst = some d → AEnv.get env d = some V) ∧ qstep s.op (AEnv.trim env s.uses) H = some (.val V) ∧ (isLd s = true → (i, s.op, AEnv.trim env s.uses, V) ∈ L)
theorem quiet_cls {s : IStmt} (h : isEff s = false) : cls s.op = .pure ∨ cls s.op = .load := by
  unfold isEff at h
  split at h
  · exact .inl ‹_›
  · exact .inr ‹_›
  · cases h
theorem load_cls {s : IStmt} (h : cls s.op = .load) : isLd s = true := by unfold isLd; rw [h]
variable {done : Nat → Prop} {a : Act} {w : World} {f : Nat} {D : Nat → Bool} {L : LL} {env : AEnv} {H : AHeap} {m : AMap}
theorem Jst.go (sb : SBody P n lt ops ss pr rc) (fr : FR n wS mS HS B envS aS) (j : Jst P n ss pr rc K wS mS HS B aS envS done a w f D L env H m) {i : Nat} {s : IStmt} {o : Oper} (hi : ss[i]? = some s) (ho : ops[i]? = some o) (htr : trStmt P n (some lt) ops o = some s) (hdn : ¬ done i)
    (hready : ∀ e, e ∈ o.after → Region.binds .any e = true → done e.on) (hanc : ∀ x, (ancs [] ops)[i]? = some x → ∀ q, x.testBit q = true → done q) {Kx : Act → World → Prop} {Q : Exit → Act → World → Prop}
    (hK : ∀ v w' f' D' L' env' H' m', Jst P n ss pr rc K wS mS HS B aS envS (fun q => done q ∨ q = i) (a.put o.dst v) w' f' D' L' env' H' m' → Kx (a.put o.dst v) w') : wpOp P ops.toArray Q i Kx a w := by
  obtain ⟨hio, hdo, hdlt⟩ := trStmt_op htr
  have hil := (List.getElem?_eq_some_iff.1 hi).1
  have hng := sb.noguard i s hi
  have hpd : ∀ q, q ∈ pr.getD i [] → done q := fun q hq => by
    obtain ⟨e, he, hb, hon⟩ := sb.prs i o hil ho q hq
    rw [← hon]; exact hready e he hb
  have hrdy : rdy pr D i = true := by
    unfold rdy
    rw [List.all_eq_true]
    intro q hq
    exact j.sub q (Nat.lt_trans (sb.back i hil q hq) hil) (hpd q hq)
  have slots : ∀ t x, t ∈ s.uses → AEnv.get env t = some x → ∃ v, a.tmps[t]? = some v ∧ RV w m H B x v := by
    intro t x ht hx
    by_cases hm : t ∈ dstsOf ss
    · obtain ⟨sj, hs, hd'⟩ := List.mem_filterMap.1 hm
      obtain ⟨q, hq⟩ := List.mem_iff_getElem?.1 hs
      obtain ⟨x', v, h1, h2, h3⟩ := j.vals q sj t hq (hpd q (sb.avail i s hi t ht q sj hq hd')) hd'
      rw [hx] at h1; cases h1
      exact ⟨v, h2, h3⟩
    · rw [j.other t hm] at hx
      obtain ⟨v, h1, h2⟩ := fr.slots t x hx
      refine ⟨v, ?_, h2.mono j.ad⟩
      rw [j.rest t (fun q sq hq _ e => hm (List.mem_filterMap.2 ⟨sq, List.mem_of_getElem? hq, e⟩))]
      exact h1
  have frt : FR n w m H B (AEnv.trim env s.uses) a := ⟨j.defers, j.size, fun t x e => by
    obtain ⟨h1, h2⟩ := get_trim _ e
    exact slots t x h1 h2⟩
  have hput : ∀ (v : Value) t, s.dst ≠ some t → (a.put o.dst v).tmps[t]? = a.tmps[t]? := by
    intro v t ht
    rw [← hdo]
    cases hd' : s.dst with
    | none => rfl
    | some d =>
      have : d ≠ t := fun e => ht (by rw [hd', e])
      simp [Act.put, this]
  have hputd : ∀ (v : Value) d, s.dst = some d → (a.put o.dst v).tmps[d]? = some v := by
    intro v d hd
    rw [← hdo, hd]
    simp [Act.put, j.size, hdlt d hd]
  have hpdef : ∀ v, (a.put o.dst v).defers = [] := by intro v; cases o.dst <;> exact j.defers
  have hpsz : ∀ v, (a.put o.dst v).tmps.size = n := by intro v; cases o.dst <;> simp [Act.put, j.size]
  have hrest : ∀ v t, (∀ (q : Nat) (sq : IStmt), ss[q]? = some sq → (done q ∨ q = i) → sq.dst ≠ some t) → (a.put o.dst v).tmps[t]? = aS.tmps[t]? := fun v t ht => by
    rw [hput v t (ht i s hi (.inr rfl))]
    exact j.rest t fun q sq hq hdq => ht q sq hq (.inl hdq)
  unfold wpOp
  have hoa : ops.toArray[i]? = some o := by simpa using ho
  simp only [hoa]
  have hsl : ∀ t x, t ∈ slotsOf s → AEnv.get env t = some x → ∃ v, a.tmps[t]? = some v ∧ RV w m H B x v := fun t x ht hx => by
    simp only [slotsOf, hng, List.append_nil] at ht
    exact slots t x ht hx
  have hgon : GOn s.guard env := fun q want e => by rw [hng] at e; cases e
  rw [if_pos (wanted_on (G := fun _ => H) (p := 0) htr hgon hsl)]
  refine .inl ?_
  cases he : isEff s with
  | false =>
    have hD : D i = true := by
      cases hD : D i with
      | true => rfl
      | false => have := j.cl i s hi hD hrdy; rw [he] at this; cases this
    obtain ⟨V, p1, p2, p3⟩ := j.pend i s hi hD he hdn
    obtain ⟨v, h1, h2⟩ := qstep_sound hio j.st frt p2
    unfold Oper.wp
    rw [h1, Oper.upon_value]
    refine hK v w f D L env H m ⟨j.st, j.ad, hpdef v, hpsz v, j.tree, j.cnt, fun q hq hdq => ?_, fun q sq hq hDq heq => .inl (j.eff q sq hq hDq heq), j.cl, j.dn, fun q sq d hq hdq hd => ?_, hrest v, j.other, fun q sq hq hDq heq hnd => j.pend q sq hq hDq heq fun h => hnd (.inl h)⟩
    · rcases hdq with hdq | rfl
      · exact j.sub q hq hdq
      · exact hD
    · by_cases hqi : q = i
      · subst hqi
        rw [hi] at hq; cases hq
        exact ⟨V, v, p1 d hd, hputd v d hd, h2⟩
      · obtain ⟨x, u, u1, u2, u3⟩ := j.vals q sq d hq (hdq.resolve_right hqi) hd
        exact ⟨x, u, u1, by rw [hput v d (fun e => hqi (sb.dinj q i sq s d hq hi hd e))]; exact u2, u3⟩
  | true =>
    have hD : D i = false := by
      cases hD : D i with
      | false => rfl
      | true => exact absurd (j.eff i s hi hD he) hdn
    obtain ⟨f', hf'⟩ : ∃ f', f = f' + 1 := by
      have h1 := j.cnt
      have : 0 < effs ss D := List.countP_pos_iff.2 ⟨i, List.mem_range.2 hil, by simp [hD, hi, he]⟩
      exact ⟨f - 1, by omega⟩
    subst hf'
    have hacall := alts_get ss.length (Nat.le_refl _) j.tree i s (by omega) hi hD hrdy he
    refine acall_sound hio frt j.st hacall fun x H' v w' m' hk st' ad' rv => ?_
    obtain ⟨hag, hk⟩ := hk
    rw [planT_node] at hk
    obtain ⟨D2, L2, env2, k1, k2, k3, k4, k5, k6, _⟩ := close_ext sb ss.length (setD D i) L (envput s.dst x env) H' (Nat.le_refl _) hk (fun q r hq hDq hr => by
      by_cases hqi : q = i
      · subst hqi
        exact setD_mono (List.all_eq_true.1 hrdy r hr)
      · rw [setD_ne hqi] at hDq; exact setD_mono (j.dn q r hq hDq hr)) (fun q sq hq => by omega)
    have hcnt2 : effs ss D2 = f' := by
      have e1 : effs ss D2 = effs ss (setD D i) := by
        unfold effs
        apply List.countP_congr
        intro q hq
        have hql := List.mem_range.1 hq
        have hsq : ss[q]? = some (ss[q]'hql) := List.getElem?_eq_getElem _
        cases hDq : setD D i q with
        | true => rw [k2.mono q hDq]
        | false =>
          cases hD2 : D2 q with
          | false => rfl
          | true =>
            have := (k2.new q _ hsq hD2 hDq).1
            simp [hsq, this]
      rw [e1]
      have := j.cnt
      have h2 := countP_upd (p := fun q => !D q && ((ss[q]?).map isEff).getD false) (q := fun q => !setD D i q && ((ss[q]?).map isEff).getD false) (i := i) (List.range ss.length) List.nodup_range (List.mem_range.2 hil) (by simp [hD, hi, he]) (by simp [setD_eq]) (fun q hq => by rw [setD_ne hq])
      unfold effs at this ⊢
      omega
    -- slots that keep what they have
    have keepd : ∀ (q : Nat) (sq : IStmt) (d : Nat), ss[q]? = some sq → q ≠ i → D q = true → sq.dst = some d → AEnv.get env2 d = AEnv.get env d := fun q sq d hq hqi hDq hd => by
      rw [k4 d (fun r sr hr hr2 hr1 e => by
        have := sb.dinj r q sr sq d hr hq e hd
        subst this
        rw [setD_mono hDq] at hr1; cases hr1)]
      exact get_envput_ne fun e => hqi (sb.dinj q i sq s d hq hi hd e)
    have keepu : ∀ (q : Nat) (sq : IStmt), ss[q]? = some sq → D q = true → AEnv.trim env2 sq.uses = AEnv.trim env sq.uses := fun q sq hq hDq => trim_congr _ fun t ht => by
      have hql := (List.getElem?_eq_some_iff.1 hq).1
      have notnew : ∀ (r : Nat) (sr : IStmt), ss[r]? = some sr → sr.dst = some t → D r = true := fun r sr hr hd => j.dn q r hql hDq (sb.avail q sq hq t ht r sr hr hd)
      rw [k4 t (fun r sr hr hr2 hr1 e => by
        rw [setD_mono (notnew r sr hr e)] at hr1; cases hr1)]
      exact get_envput_ne fun e => by have := notnew i s hi e; rw [hD] at this; cases this
    refine hK v w' f' D2 L2 env2 H' m' ⟨st', j.ad.trans ad', hpdef v, hpsz v, k1, hcnt2.symm, fun q hq hdq => ?_, fun q sq hq hDq heq => ?_, k6, k5, fun q sq d hq hdq hd => ?_, hrest v, fun t ht => ?_, fun q sq hq hDq heq hnd => ?_⟩
    · rcases hdq with hdq | rfl
      · exact k2.mono q (setD_mono (j.sub q hq hdq))
      · exact k2.mono q setD_eq
    · cases h1 : setD D i q with
      | false => have := (k2.new q sq hq hDq h1).1; rw [heq] at this; cases this
      | true =>
        by_cases hqi : q = i
        · exact .inr hqi
        · rw [setD_ne hqi] at h1; exact .inl (j.eff q sq hq h1 heq)
    · by_cases hqi : q = i
      · subst hqi
        rw [hi] at hq; cases hq
        refine ⟨x, v, ?_, hputd v d hd, rv⟩
        rw [k4 d (fun r sr hr hr2 hr1 e => by
          have := sb.dinj r q sr s d hr hi e hd
          subst this
          rw [setD_eq] at hr1; cases hr1), hd, get_envput_eq]
      · have hdq' := hdq.resolve_right hqi
        obtain ⟨y, u, u1, u2, u3⟩ := j.vals q sq d hq hdq' hd
        exact ⟨y, u, by rw [keepd q sq d hq hqi (j.sub q (List.getElem?_eq_some_iff.1 hq).1 hdq') hd]; exact u1, by rw [hput v d (fun e => hqi (sb.dinj q i sq s d hq hi hd e))]; exact u2, u3.mono ad'⟩
    · rw [k4 t (fun r sr hr _ _ e => ht (List.mem_filterMap.2 ⟨sr, List.mem_of_getElem? hr, e⟩)), get_envput_ne (fun e => ht (List.mem_filterMap.2 ⟨s, List.mem_of_getElem? hi, e⟩))]
      exact j.other t ht
    · have hndq : ¬ done q := fun h => hnd (.inl h)
      cases h1 : setD D i q with
      | false =>
        obtain ⟨_, V, q1, q2, q3⟩ := k2.new q sq hq hDq h1
        exact ⟨V, q1, q2, q3⟩
      | true =>
        have hqi : q ≠ i := fun e => hnd (.inr e)
        rw [setD_ne hqi] at h1
        obtain ⟨V, q1, q2, q3⟩ := j.pend q sq hq h1 heq hndq
        refine ⟨V, fun d hd => by rw [keepd q sq d hq hqi h1 hd]; exact q1 d hd, ?_, fun hl => by rw [keepu q sq hq h1]; exact k3 _ (q3 hl)⟩
        rw [keepu q sq hq h1]
        rcases quiet_cls heq with hc | hc
        · rw [qstep_indep (.inl hc) _ H' H]; exact q2
        · have hl := load_cls hc
          rcases sb.rcs i hil q sq hq hl with ⟨y, y1, y2⟩ | hrc
          · exact absurd (hanc y y1 q y2) hndq
          · exact hag.at _ (q3 hl) hrc
/-- The static look at a region whose orders are walked one by one. -/
def drawChkA (ops : List Oper) (ss : List IStmt) (k : Nat) : Bool :=
  decide (k < ops.length) && Region.sinkB .any ops.toArray k && Region.chainB .any ops.toArray k && Region.seqB .any ops.toArray (ops.length - k) k (doneArr ops.length k) &&
  ssa ss && (ss.all fun s => s.guard.isNone) &&
  ((List.range k).all fun i => ((ops[i]?).map fun o => o.after.all fun e => !Region.binds .any e || decide (e.on < i)).getD false) &&
  ((List.range k).all fun i => ((List.range k).all fun j => match ops[i]?, ss[i]?, ss[j]? with
    | some o, some s, some sj => (match sj.dst with
      | some t => !(slotsOf s).contains t || o.after.any fun e => Region.binds .any e && e.on == j
      | none => true)
    | _, _, _ => false))
theorem ssa_inj {d : Nat} : ∀ (l : List IStmt), ssa l = true → ∀ (i j : Nat) si sj, i < j → l[i]? = some si → l[j]? = some sj → si.dst = some d → sj.dst = some d → False
  | [], _, i, j, si, sj, _, h, _, _, _ => by simp at h
  | s :: l, hs, i, j, si, sj, hij, hi, hj, hdi, hdj => by
    simp only [ssa, Bool.and_eq_true] at hs
    cases j with
    | zero => omega
    | succ j =>
      cases i with
      | zero =>
        simp at hi hj; subst hi
        have h2 := hs.1.2
        rw [hdi] at h2
        have : d ∈ dstsOf l := List.mem_filterMap.2 ⟨sj, List.mem_of_getElem? hj, hdj⟩
        simp [this] at h2
      | succ i => exact ssa_inj l hs.2 i j si sj (by omega) (by simpa using hi) (by simpa using hj) hdi hdj
theorem ancs_length : ∀ (l : List Oper) (acc : List Nat), (ancs acc l).length = acc.length + l.length
  | [], acc => by simp [ancs]
  | o :: l, acc => by simp only [ancs]; rw [ancs_length l]; simp; omega
theorem sbody_of {k : Nat} (hk : k ≤ ops.length) (htr : trStmts P n (some lt) ops (ops.take k) = some ss) (h : drawChkA ops ss k = true) : SBody P n lt ops ss (prOf ops) (rcOf ops ss) ∧ (∀ i o, i < k → ops[i]? = some o → ∀ e, e ∈ o.after → Region.binds .any e = true → e.on < i) := by
  obtain ⟨hl, hg⟩ := trStmts_get _ _ htr
  have hlen : ss.length = k := by rw [hl, List.length_take]; omega
  simp only [drawChkA, Bool.and_eq_true] at h
  obtain ⟨⟨⟨⟨⟨⟨⟨h0, h1⟩, h2⟩, h3⟩, h4⟩, h5⟩, h6⟩, h7⟩ := h
  have hlt : ∀ {i : Nat} {s : IStmt}, ss[i]? = some s → i < k := fun hi => by rw [← hlen]; exact (List.getElem?_eq_some_iff.1 hi).1
  have hback : ∀ i o, i < k → ops[i]? = some o → ∀ e, e ∈ o.after → Region.binds .any e = true → e.on < i := fun i o hi ho e he hb => by
    have := List.all_eq_true.1 h6 i (List.mem_range.2 hi)
    rw [ho] at this
    simp only [Option.map_some, Option.getD_some] at this
    have := Array.all_eq_true_iff_forall_mem.1 this e he
    simpa [hb] using this
  have hpr : ∀ (i : Nat) (o : Oper), ops[i]? = some o → (prOf ops).getD i [] = o.after.toList.filterMap fun e => if Region.binds .any e then some e.on else none := fun i o ho => by
    unfold prOf
    simp [List.getD, ho]
  have hprs : ∀ (i : Nat) (o : Oper), ops[i]? = some o → ∀ j, j ∈ (prOf ops).getD i [] → ∃ e, e ∈ o.after ∧ Region.binds .any e = true ∧ e.on = j := fun i o ho j hj => by
    rw [hpr i o ho] at hj
    obtain ⟨e, he, hb⟩ := List.mem_filterMap.1 hj
    split at hb
    · rename_i hbe
      cases hb
      exact ⟨e, by simpa using he, hbe, rfl⟩
    · cases hb
  refine ⟨⟨fun i s hi => ?_, fun i s hi t ht j sj hj hd => ?_, fun i j si sj d hi hj hdi hdj => ?_, fun i hi j hj => ?_, fun i s hi => ?_, fun i o _ ho j hj => hprs i o ho j hj, fun i hi j sj hj hl' => ?_⟩, hback⟩
  · obtain ⟨o, ho, ht⟩ := hg i s hi
    rw [List.getElem?_take_of_lt (hlt hi)] at ho
    exact ⟨o, ho, ht⟩
  · have := List.all_eq_true.1 (List.all_eq_true.1 h7 i (List.mem_range.2 (hlt hi))) j (List.mem_range.2 (hlt hj))
    obtain ⟨o, ho, _⟩ := hg i s hi
    rw [List.getElem?_take_of_lt (hlt hi)] at ho
    simp only [ho, hi, hj, hd, Bool.or_eq_true, Bool.not_eq_true'] at this
    rw [hpr i o ho]
    rcases this with h | h
    · have : (slotsOf s).contains t = true := by simp [slotsOf, ht]
      rw [this] at h; cases h
    · obtain ⟨e, he, hb⟩ := Array.any_eq_true'.1 h
      simp only [Bool.and_eq_true, beq_iff_eq] at hb
      exact List.mem_filterMap.2 ⟨e, by simpa using he, by rw [if_pos hb.1, hb.2]⟩
  · rcases Nat.lt_trichotomy i j with hij | hij | hij
    · exact (ssa_inj ss h4 i j si sj hij hi hj hdi hdj).elim
    · exact hij
    · exact (ssa_inj ss h4 j i sj si hij hj hi hdj hdi).elim
  · have ho : ops[i]? = some (ops[i]'(by omega)) := List.getElem?_eq_getElem _
    obtain ⟨e, he, hb, rfl⟩ := hprs i _ ho j hj
    exact hback i _ (by omega) ho e he hb
  · have := List.all_eq_true.1 h5 s (List.mem_of_getElem? hi)
    simpa using this
  · have hal := ancs_length ops []
    have hx : (ancs [] ops)[i]? = some ((ancs [] ops)[i]'(by rw [hal]; simp; omega)) := List.getElem?_eq_getElem _
    generalize (ancs [] ops)[i]'(by rw [hal]; simp; omega) = x at hx
    cases hb : x.testBit j with
    | true => exact .inl ⟨x, hx, hb⟩
    | false =>
      refine .inr ?_
      unfold rcOf
      simp only [List.getD, List.getElem?_map, hx, Option.map_some, Option.getD_some]
      exact List.mem_filter.2 ⟨List.mem_range.2 (List.getElem?_eq_some_iff.1 hj).1, by simp [hb, hj, hl']⟩
theorem any_orderA {k : Nat} (hk : k < ops.length) (hlen : ss.length = k) (sb : SBody P n lt ops ss pr rc) (fr : FR n wS mS HS B envS aS) (hs : Region.sinkB .any ops.toArray k = true) (hc : Region.chainB .any ops.toArray k = true) (hq : Region.seqB .any ops.toArray (ops.length - k) k (doneArr ops.length k) = true)
    (hback : ∀ i o, i < k → ops[i]? = some o → ∀ e, e ∈ o.after → Region.binds .any e = true → e.on < i) {Q : Exit → Act → World → Prop}
    (hfin : ∀ a w f D L env H m, Jst P n ss pr rc K wS mS HS B aS envS (fun i => i < k) a w f D L env H m → wpList P ops.toArray Q (ops.drop k) a w) :
    ∀ (c : Nat) (listed : Array Bool) (a : Act) (w : World) (f : Nat) (D : Nat → Bool) (L : LL) (env : AEnv) (H : AHeap) (m : AMap), (List.range k).countP (fun i => !listed.getD i true) = c → HeadInv .any ops.toArray k listed → Jst P n ss pr rc K wS mS HS B aS envS (fun i => i < k ∧ listed.getD i false = true) a w f D L env H m →
      wpAny P .any ops.toArray Q (c + (ops.length - k)) listed a w
  | 0, listed, a, w, f, D, L, env, H, m, hcount, inv, md => by
    have hall : ∀ i, i < k → listed.getD i true = true := by
      intro i hi
      have := List.countP_eq_zero.1 hcount i (List.mem_range.2 hi)
      simpa using this
    have hsz : listed.size = ops.length := by rw [inv.size]; simp
    have hget : ∀ i, i < k → listed.getD i false = true := by
      intro i hi
      have := hall i hi
      have hlt : i < listed.size := by omega
      simp [hlt] at this ⊢; exact this
    have hd' : listed = doneArr ops.length k := by
      apply Array.ext
      · simp [doneArr, hsz]
      · intro i h1 h2
        have e1 : (doneArr ops.length k)[i] = decide (i < k) := by simp [doneArr]
        rw [e1]
        by_cases hi : i < k
        · have := hget i hi
          simp [h1] at this
          simp [hi, this]
        · have := inv.tail i (by omega) (by simp; omega)
          simp [h1] at this
          simp [hi, this]
    rw [Nat.zero_add]
    have hm : Jst P n ss pr rc K wS mS HS B aS envS (fun i => i < k) a w f D L env H m := by
      have e : (fun i => i < k ∧ listed.getD i false = true) = fun i => i < k := by
        funext i
        exact propext ⟨fun h => h.1, fun h => ⟨h, hget i h⟩⟩
      rw [e] at md; exact md
    have hdl : (ops.drop k).length = ops.length - k := by simp
    rw [← hdl]
    refine wpAny_of_seq (ops.drop k) k listed a w (fun j => by simp [List.getElem?_drop]) ?_ (hfin a w f D L env H m hm)
    rw [hdl, hd']; exact hq
  | c + 1, listed, a, w, f, D, L, env, H, m, hcount, inv, md => by
    have hsz : listed.size = ops.length := by rw [inv.size]; simp
    obtain ⟨u, hu1, hu2⟩ : ∃ u, u < k ∧ listed.getD u true = false := by
      have : 0 < (List.range k).countP (fun i => !listed.getD i true) := by omega
      obtain ⟨u, h1, h2⟩ := List.countP_pos_iff.1 this
      exact ⟨u, List.mem_range.1 h1, by simpa using h2⟩
    have hready : ∀ t, t ∈ Region.ready .any ops.toArray listed → t < k := by
      intro t ht
      rcases Nat.lt_or_ge t k with h | h
      · exact h
      · exact absurd ht (tail_waits hs hc (by simpa using hk) inv _ u rfl hu1 hu2 t h)
    have hne : Region.ready .any ops.toArray listed ≠ [] := by
      have key : ∀ d u, u ≤ d → u < k → listed.getD u true = false → ∃ t, t ∈ Region.ready .any ops.toArray listed := by
        intro d
        induction d with
        | zero =>
          intro u hu hk' hn
          have hu0 : u = 0 := by omega
          subst hu0
          have ho : ops[0]? = some (ops[0]'(by omega)) := List.getElem?_eq_getElem _
          exact ⟨0, mem_ready.2 ⟨hn, _, by simp, fun e he hb => absurd (hback 0 _ hk' ho e he hb) (Nat.not_lt_zero _)⟩⟩
        | succ d ih =>
          intro u hu hk' hn
          have ho : ops[u]? = some (ops[u]'(by omega)) := List.getElem?_eq_getElem _
          by_cases hall : ∀ e, e ∈ (ops[u]'(by omega)).after → Region.binds .any e = true → listed.getD e.on false = true
          · exact ⟨u, mem_ready.2 ⟨hn, _, by simp, hall⟩⟩
          · obtain ⟨e, he⟩ := Classical.not_forall.1 hall
            obtain ⟨he1, he2⟩ := Classical.not_imp.1 he
            obtain ⟨he3, he4⟩ := Classical.not_imp.1 he2
            have hlt := hback u _ hk' ho e he1 he3
            have : listed.getD e.on false = false := by simpa using he4
            exact ih e.on (by omega) (by omega) (getD_in (by omega) this)
      obtain ⟨t, ht⟩ := key u u (Nat.le_refl _) hu1 hu2
      intro e; rw [e] at ht; cases ht
    rw [show c + 1 + (ops.length - k) = (c + (ops.length - k)) + 1 by omega]
    refine ⟨fun e => absurd e hne, fun i hi => ?_⟩
    have hik := hready i hi
    obtain ⟨hn, oi, hoi, hafter⟩ := mem_ready.1 hi
    have hoi' : ops[i]? = some oi := by simpa using hoi
    have hsi : ss[i]? = some (ss[i]'(by omega)) := List.getElem?_eq_getElem _
    obtain ⟨o', ho', htr⟩ := sb.tr i _ hsi
    rw [hoi'] at ho'; cases ho'
    have hnd : ¬ (i < k ∧ listed.getD i false = true) := fun h => by
      have := getD_both hn; rw [this] at h; cases h.2
    have hon : ∀ e, e ∈ oi.after → Region.binds .any e = true → e.on < k ∧ listed.getD e.on false = true := fun e he hb => ⟨Nat.lt_trans (hback i oi hik hoi' e he hb) hik, hafter e he hb⟩
    refine Jst.go sb fr md hsi hoi' htr hnd hon (fun x hx j hj => ?_) fun v w' f' D' L' env' H' m' md' => ?_
    · have hcl : ∀ j, (j < k ∧ listed.getD j false = true) → Listed ops (fun j => j < k ∧ listed.getD j false = true) j := by
        intro j ⟨h1, h2⟩ o ho e he hb
        exact ⟨Nat.lt_trans (hback j o h1 ho e he hb) h1, inv.closed j o (by simpa using ho) h2 e he hb⟩
      exact ancs_spec ops (fun j => j < k ∧ listed.getD j false = true) hcl ops [] (fun j => by simp) (by simp) i x hx j hj (fun o ho e he hb => by
        rw [hoi'] at ho; cases ho
        exact hon e he hb)
    · have inv' := inv.set hi hik
      have hcount' : (List.range k).countP (fun j => !(listed.setIfInBounds i true).getD j true) = c := by
        have := countP_upd (p := fun j => !listed.getD j true) (q := fun j => !(listed.setIfInBounds i true).getD j true) (i := i) (List.range k) List.nodup_range (List.mem_range.2 hik) (by simp only [hn]; rfl) (by
          have hlt : i < listed.size := by omega
          simp [hlt]) (fun j hj => by rw [getD_set_ne true (Ne.symm hj)])
        omega
      have hdone : (fun j => (j < k ∧ listed.getD j false = true) ∨ j = i) = fun j => j < k ∧ (listed.setIfInBounds i true).getD j false = true := by
        funext j
        apply propext
        by_cases hji : j = i
        · subst hji
          have hlt : j < listed.size := by omega
          simp [hlt, hik]
        · rw [getD_set_ne false (Ne.symm hji)]
          exact ⟨fun h => h.resolve_right hji, .inl⟩
      rw [hdone] at md'
      exact any_orderA hk hlen sb fr hs hc hq hback hfin c _ _ _ f' D' L' env' H' m' hcount' inv' md'
theorem drawA_sound (hmix : P.follows .mixedOrders = true) {k : Nat} {tl : List IStmt} {id : Nat} {H : AHeap} {env : AEnv} {w0 : World} {m0 : AMap} {H0 : AHeap} {a : Act} {w : World} {K : AEnv → AHeap → Prop} {Q : Exit → Act → World → Prop} (htr : trStmts P n (some lt) ops (ops.take k) = some ss) (htl : trStmts P n none ops (ops.drop k) = some tl) (hchk : drawChkA ops ss k = true)
    (rel : Rel n w0 m0 H0 B env H a w) (h : awpT P (fun env H => awpOps P tl K env H) (planT ss (prOf ops) (rcOf ops ss) (effs ss fun _ => false) fun _ => false) [] env H) (hq : ∀ env' H' a' w', K env' H' → Rel n w0 m0 H0 B env' H' a' w' → Q .normal a' w') : (Code.region id ops.toArray true).wp P Q a w := by
  have hchk' := hchk
  simp only [drawChkA, Bool.and_eq_true, decide_eq_true_eq] at hchk'
  obtain ⟨⟨⟨⟨⟨⟨⟨h0, h1⟩, h2⟩, h3⟩, h4⟩, h5⟩, h6⟩, h7⟩ := hchk'
  obtain ⟨sb, hback⟩ := sbody_of (Nat.le_of_lt h0) htr hchk
  obtain ⟨hl, _⟩ := trStmts_get _ _ htr
  have hlen : ss.length = k := by rw [hl, List.length_take]; omega
  obtain ⟨m, fr, st, ad⟩ := rel
  have adr : Adv w m H { w with drawn := w.drawn + 1 } m H := ⟨rfl, rfl, rfl, Nat.le_refl _, fun _ _ _ => rfl, fun _ _ e => .inl e, Nat.le_refl _, fun _ o' _ e => ⟨o', e, rfl, rfl, Nat.le_refl _, fun _ b hb => ⟨hb, rfl⟩, fun _ h => h⟩⟩
  have str : St { w with drawn := w.drawn + 1 } m H B := ⟨st.base, fun k b e => by
    obtain ⟨p1, p2, o1, cs, p3, p4, p5, p6⟩ := st.dom k b e
    exact ⟨p1, p2, o1, cs, p3, p4, p5, fun i el j x a1 a2 => by
      obtain ⟨v, q1, q2, q3⟩ := p6 i el j x a1 a2
      exact ⟨v, q1, q2.mono adr, q3⟩⟩, st.domP, st.inj, st.fxa adr⟩
  have frr := fr.mono adr
  refine wp_region_any hmix ?_
  have hcount : (List.range k).countP (fun i => !(Array.replicate ops.toArray.size false).getD i true) = k := by
    have : (List.range k).countP (fun i => !(Array.replicate ops.toArray.size false).getD i true) = (List.range k).length := by
      rw [List.countP_eq_length]
      intro i hi
      have : i < ops.length := by have := List.mem_range.1 hi; omega
      simp [this]
    rw [this, List.length_range]
  have inv0 : HeadInv .any ops.toArray k (Array.replicate ops.toArray.size false) :=
    ⟨by simp, fun j oj _ hl => (by rw [getD_replicate_false] at hl; cases hl), fun t _ ht => getD_in (by simpa using ht) (getD_replicate_false _ _)⟩
  have hnone : ∀ i, ¬ (i < k ∧ (Array.replicate ops.toArray.size false).getD i false = true) := fun i h => by rw [getD_replicate_false] at h; cases h.2
  rw [planT_node] at h
  obtain ⟨D2, L2, env2, k1, k2, k3, k4, k5, k6, _⟩ := close_ext sb ss.length (fun _ => false) [] env H (Nat.le_refl _) h (fun q r hq hDq => by cases hDq) (fun q sq hq => by omega)
  have hcnt2 : effs ss (fun _ => false) = effs ss D2 := by
    unfold effs
    apply List.countP_congr
    intro q hq
    have hql := List.mem_range.1 hq
    have hsq : ss[q]? = some (ss[q]'hql) := List.getElem?_eq_getElem _
    cases hD2 : D2 q with
    | false => rfl
    | true =>
      have := (k2.new q _ hsq hD2 rfl).1
      simp [hsq, this]
  have md0 : Jst P n ss (prOf ops) (rcOf ops ss) (fun env H => awpOps P tl K env H) { w with drawn := w.drawn + 1 } m H B a env (fun i => i < k ∧ (Array.replicate ops.toArray.size false).getD i false = true) a { w with drawn := w.drawn + 1 } (effs ss fun _ => false) D2 L2 env2 H m := by
    refine ⟨str, Adv.refl _ _ _, fr.defers, fr.size, k1, hcnt2, fun i _ hdn => absurd hdn (hnone i), fun q sq hq hDq heq => ?_, k6, k5, fun i s d _ hdn _ => absurd hdn (hnone i), fun t _ => rfl, fun t ht => ?_, fun q sq hq hDq heq hnd => ?_⟩
    · have := (k2.new q sq hq hDq rfl).1; rw [heq] at this; cases this
    · exact k4 t (fun r sr hr _ _ e => ht (List.mem_filterMap.2 ⟨sr, List.mem_of_getElem? hr, e⟩))
    · obtain ⟨_, V, q1, q2, q3⟩ := k2.new q sq hq hDq rfl
      exact ⟨V, q1, q2, q3⟩
  have := any_orderA h0 hlen sb frr h1 h2 h3 hback (Q := Q) (fun a' w' f' D' L' env' H' m' md => ?_) k _ a _ _ D2 L2 env2 H m hcount inv0 md0
  · rw [show k + (ops.length - k) = ops.toArray.size by simp; omega] at this
    exact this
  · have hallD : ∀ i, i < ss.length → D' i = true := fun i hi => md.sub i hi (by omega)
    have hf0 : f' = 0 := by
      rw [md.cnt]
      exact List.countP_eq_zero.2 fun q hq => by simp [hallD q (List.mem_range.1 hq)]
    subst hf0
    have hK := md.tree
    refine awpOps_sound (w0 := w0) (m0 := m0) (H0 := H0) (B := B) (n := n) (ops := ops) (ops.drop k) tl htl env' H' a' w' ?_ hK hq
    refine ⟨m', ⟨md.defers, md.size, fun t x hx => ?_⟩, md.st, (ad.trans adr).trans md.ad⟩
    by_cases hm : t ∈ dstsOf ss
    · obtain ⟨sj, hs, hd'⟩ := List.mem_filterMap.1 hm
      obtain ⟨q, hq⟩ := List.mem_iff_getElem?.1 hs
      obtain ⟨x', v, e1, e2, e3⟩ := md.vals q sj t hq (by rw [← hlen]; exact (List.getElem?_eq_some_iff.1 hq).1) hd'
      rw [hx] at e1; cases e1
      exact ⟨v, e2, e3⟩
    · rw [md.other t hm] at hx
      obtain ⟨v, e1, e2⟩ := frr.slots t x hx
      refine ⟨v, ?_, e2.mono md.ad⟩
      rw [md.rest t (fun q sq hq _ e => hm (List.mem_filterMap.2 ⟨sq, List.mem_of_getElem? hq, e⟩))]
      exact e1
end
end Go.Awp
/- The text of a function: its translation, and the walk over it. Generic in the program. -/
namespace Go.Awp
set_option linter.unusedSectionVars false
variable [Fx]
theorem wp_loop_idx {P : Program} {Q : Exit → Act → World → Prop} {a : Act} {w : World} {c : Code} (I : Nat → Act → World → Prop) {k0 : Nat} (h₀ : I k0 a w)
    (round : ∀ k a w, I k a w → c.wp P (Exit.then (fun a' w' => ∃ k', k' < k ∧ I k' a' w') Q) a w) : (Code.loop c).wp P Q a w := by
  intro b k cs
  have key : ∀ n a w, I n a w → ∃ e a' w', Q e a' w' ∧ Arrives P (lone (b.at a (.code c :: .inLoop c :: k)) cs w) b k cs e a' w' := by
    intro n
    induction n using Nat.strongRecOn with
    | _ n ih =>
      intro a w hI
      obtain ⟨e, a₁, w₁, hq, harr⟩ := round n a w hI b (.inLoop c :: k) cs
      cases e with
      | normal =>
        obtain ⟨k', hlt, hI₁⟩ := hq
        obtain ⟨e₂, a₂, w₂, hq₂, harr₂⟩ := ih k' hlt a₁ w₁ hI₁
        exact ⟨e₂, a₂, w₂, hq₂, .of_steps (Steps.trans harr (.one step_inLoop)) harr₂⟩
      | exit id => exact ⟨_, a₁, w₁, hq, .pass (x := .inLoop c) rfl (fun _ _ => .inl (by simp)) harr⟩
      | goto l => exact ⟨_, a₁, w₁, hq, .pass (x := .inLoop c) rfl (fun _ _ => .inl (by simp)) harr⟩
      | ret => exact ⟨_, a₁, w₁, hq, .pass (x := .inLoop c) rfl (fun _ _ => .inl (by simp)) harr⟩
      | panic ch => exact ⟨_, a₁, w₁, hq, .pass (x := .inLoop c) rfl (fun _ _ => .inl (by simp)) harr⟩
      | outgrown => exact ⟨_, a₁, w₁, hq, .pass (x := .inLoop c) rfl (fun _ _ => .inl (by simp)) harr⟩
  obtain ⟨e, a', w', hq, harr⟩ := key k0 a w h₀
  exact ⟨e, a', w', hq, .of_steps (.one step_loop) harr⟩
def Exit.scoped (c : Code) (l : Nat) (J : Act → World → Prop) (Q : Exit → Act → World → Prop) : Exit → Act → World → Prop
  | .goto l', a, w => if l' = l then J a w else findLabel c l' = none ∧ Q (.goto l') a w
  | e, a, w => Q e a w
theorem wp_scope_idx {P : Program} {Q : Exit → Act → World → Prop} {a : Act} {w : World} {c rest : Code} {l : Nat} (hf : findLabel c l = some rest) (I : Nat → Act → World → Prop)
    (h₀ : c.wp P (Exit.scoped c l (fun a w => ∃ k, I k a w) Q) a w) (round : ∀ k a w, I k a w → rest.wp P (Exit.scoped c l (fun a' w' => ∃ k', k' < k ∧ I k' a' w') Q) a w) : (Code.scope c).wp P Q a w := by
  intro b k cs
  have go : ∀ (d : Code) (J : Act → World → Prop) (a : Act) (w : World), d.wp P (Exit.scoped c l J Q) a w →
      (∀ a' w', J a' w' → ∃ e a₂ w₂, Q e a₂ w₂ ∧ Arrives P (lone (b.at a' (.code rest :: .inScope c :: k)) cs w') b k cs e a₂ w₂) →
      ∃ e a' w', Q e a' w' ∧ Arrives P (lone (b.at a (.code d :: .inScope c :: k)) cs w) b k cs e a' w' := by
    intro d J a w hd hJ
    obtain ⟨e, a₁, w₁, hq, harr⟩ := hd b (.inScope c :: k) cs
    cases e with
    | normal => exact ⟨.normal, a₁, w₁, hq, Steps.trans harr (.one step_inScope)⟩
    | exit id => exact ⟨.exit id, a₁, w₁, hq, fun k' hk => harr k' (by simp [exitTo, hk])⟩
    | goto l' =>
      simp only [Exit.scoped] at hq
      split at hq
      · rename_i hl
        subst hl
        obtain ⟨e₂, a₂, w₂, hq₂, harr₂⟩ := hJ a₁ w₁ hq
        exact ⟨e₂, a₂, w₂, hq₂, .of_steps (harr _ (by simp [gotoIn, hf])) harr₂⟩
      · exact ⟨.goto l', a₁, w₁, hq.2, fun k' hk => harr k' (by simp [gotoIn, hq.1, hk])⟩
    | ret => exact ⟨_, a₁, w₁, hq, harr⟩
    | panic ch => exact ⟨_, a₁, w₁, hq, harr⟩
    | outgrown => exact ⟨_, a₁, w₁, hq, harr⟩
  have key : ∀ n a w, I n a w → ∃ e a' w', Q e a' w' ∧ Arrives P (lone (b.at a (.code rest :: .inScope c :: k)) cs w) b k cs e a' w' := by
    intro n
    induction n using Nat.strongRecOn with
    | _ n ih =>
      intro a w hI
      exact go rest _ a w (round n a w hI) fun a' w' ⟨k', hlt, hI'⟩ => ih k' hlt a' w' hI'
  obtain ⟨e, a', w', hq, harr⟩ := go c _ a w h₀ fun a' w' ⟨k', hI'⟩ => key k' a' w' hI'
  exact ⟨e, a', w', hq, .of_steps (.one step_scope) harr⟩
inductive AX where
  | normal
  | exit (id : Nat)
  | goto (l : Nat)
  | ret
inductive IR where
  | skip
  | ops (l : List IStmt)
  | opsD (pre post tl : List IStmt)
  | opsA (t : AT) (tl : List IStmt)
  | trim (k : List Nat)
  | seq (a b : IR)
  | cond (c : Operand) (a b : IR)
  | block (id : Nat) (a : IR)
  | loop (a : IR)
  | exit (id : Nat)
  | ret
  | label (l : Nat)
  | goto (l : Nat)
  | scope (a : IR) (l : Nat) (r : IR)
  | fail
def findL : IR → Nat → Option IR
  | .seq a b, l => match findL a l with
    | some r => some (.seq r b)
    | none => findL b l
  | .label l', l => if l' == l then some .skip else none
  | _, _ => none
def labelsL : IR → List Nat
  | .seq a b => labelsL a ++ labelsL b
  | .label l => [l]
  | _ => []
theorem findL_mem : ∀ (c : IR) (l : Nat), l ∉ labelsL c → findL c l = none
  | .seq a b, l, h => by
    simp only [labelsL, List.mem_append, not_or] at h
    simp only [findL, findL_mem a l h.1, findL_mem b l h.2]
  | .label l', l, h => by
    simp only [labelsL, List.mem_singleton] at h
    simp only [findL]
    rw [if_neg]
    simpa using fun e => h e.symm
  | .skip, _, _ => rfl
  | .ops _, _, _ => rfl
  | .opsD _ _ _, _, _ => rfl
  | .opsA _ _, _, _ => rfl
  | .trim _, _, _ => rfl
  | .cond _ _ _, _, _ => rfl
  | .block _ _, _, _ => rfl
  | .loop _, _, _ => rfl
  | .exit _, _, _ => rfl
  | .ret, _, _ => rfl
  | .goto _, _, _ => rfl
  | .scope _ _ _, _, _ => rfl
  | .fail, _, _ => rfl
def awp (P : Program) : IR → (AX → AEnv → AHeap → Prop) → AEnv → AHeap → Prop
  | .skip, Q, env, H => Q .normal env H
  | .ops l, Q, env, H => awpOps P l (Q .normal) env H
  | .opsD pre post tl, Q, env, H => awpD1 P pre [] (fun L env H => awpD2 post L [] (fun env H => awpOps P tl (Q .normal) env H) env H) env H
  | .opsA t tl, Q, env, H => awpT P (fun env H => awpOps P tl (Q .normal) env H) t [] env H
  | .trim k, Q, env, H => Q .normal (AEnv.trim env k) H
  | .seq a b, Q, env, H => awp P a (fun x e h => match x with | .normal => awp P b Q e h | x => Q x e h) env H
  | .cond c a b, Q, env, H => match ev env c with
    | some (.bool t) => (t = true → awp P a Q env H) ∧ (t = false → awp P b Q env H)
    | _ => False
  | .block id a, Q, env, H => awp P a (fun x e h => match x with | .exit i => if i = id then Q .normal e h else Q (.exit i) e h | x => Q x e h) env H
  | .loop a, Q, env, H => ∃ (I : Nat → AEnv → AHeap → Prop) (k0 : Nat), I k0 env H ∧ ∀ k e h, I k e h → awp P a (fun x e' h' => match x with | .normal => ∃ k', k' < k ∧ I k' e' h' | x => Q x e' h') e h
  | .exit id, Q, env, H => Q (.exit id) env H
  | .ret, Q, env, H => Q .ret env H
  | .label _, Q, env, H => Q .normal env H
  | .goto l, Q, env, H => Q (.goto l) env H
  | .fail, _, _, _ => False
  | .scope a l r, Q, env, H => ∃ I : Nat → AEnv → AHeap → Prop, awp P a (fun x e h => match x with | .goto l' => if l' = l then ∃ k, I k e h else Q (.goto l') e h | x => Q x e h) env H ∧
      ∀ k e h, I k e h → awp P r (fun x e' h' => match x with | .goto l' => if l' = l then ∃ k', k' < k ∧ I k' e' h' else Q (.goto l') e' h' | x => Q x e' h') e h
def withTrim (keep : Option (List Nat)) (c : IR) : IR :=
  match keep with
  | some k => .seq c (.trim k)
  | none => c
def trCode (P : Program) (n : Nat) (draw : Nat → Nat × Nat × List Nat) (keep : Nat → Option (List Nat)) : Code → Option IR
  | .skip => some .skip
  | .region id ops false => match trStmts P n none ops.toList ops.toList with
    | some l => some (withTrim (keep id) (.ops l))
    | none => some .fail
  | .region id ops true => match trStmts P n (some (draw id).2.2) ops.toList (ops.toList.take (draw id).1), trStmts P n none ops.toList (ops.toList.drop (draw id).1) with
    | some ss, some tl => if drawChk ops.toList ss (draw id).1 (draw id).2.1 then some (withTrim (keep id) (.opsD (ss.take (draw id).2.1) (ss.drop (draw id).2.1) tl))
      else if drawChkA ops.toList ss (draw id).1 then some (withTrim (keep id) (.opsA (planT ss (prOf ops.toList) (rcOf ops.toList ss) (effs ss fun _ => false) fun _ => false) tl)) else some .fail
    | _, _ => some .fail
  | .seq a b => match trCode P n draw keep a, trCode P n draw keep b with
    | some x, some y => some (.seq x y)
    | _, _ => none
  | .cond c a b => match trCode P n draw keep a, trCode P n draw keep b with
    | some x, some y => some (.cond c x y)
    | _, _ => none
  | .block id a => match trCode P n draw keep a with
    | some x => some (.block id x)
    | none => none
  | .loop a => match trCode P n draw keep a with
    | some x => some (.loop x)
    | none => none
  | .exit id => some (.exit id)
  | .ret => some .ret
  | .label l => some (.label l)
  | .goto l => some (.goto l)
  | .scope a => match trCode P n draw keep a with
    | some x => (match labelsL x with
      | [l] => (match findL x l with
        | some r => some (.scope x l r)
        | none => none)
      | _ => none)
    | none => none
  | _ => none
/-- A post of the abstract walk, as one of the model's. -/
def QX (n : Nat) (w0 : World) (m0 : AMap) (H0 : AHeap) (B : Nat) (Q : AX → AEnv → AHeap → Prop) : Exit → Act → World → Prop
  | .normal, a, w => ∃ env H, Q .normal env H ∧ Rel n w0 m0 H0 B env H a w
  | .exit id, a, w => ∃ env H, Q (.exit id) env H ∧ Rel n w0 m0 H0 B env H a w
  | .goto l, a, w => ∃ env H, Q (.goto l) env H ∧ Rel n w0 m0 H0 B env H a w
  | .ret, a, w => ∃ env H, Q .ret env H ∧ Rel n w0 m0 H0 B env H a w
  | _, _, _ => False
section
variable {P : Program} {n : Nat} {draw : Nat → Nat × Nat × List Nat} {keep : Nat → Option (List Nat)} {w0 : World} {m0 : AMap} {H0 : AHeap} {B : Nat}
theorem trim_sound {id : Nat} {c : Code} {ir : IR} (W : (AEnv → AHeap → Prop) → Prop) {Q : AX → AEnv → AHeap → Prop} {env : AEnv} {H : AHeap} {a : Act} {w : World} (hir : ∀ Q', awp P ir Q' env H = W (Q' .normal))
    (hc : ∀ (K : AEnv → AHeap → Prop), W K → (∀ Q' : Exit → Act → World → Prop, (∀ env' H' a' w', K env' H' → Rel n w0 m0 H0 B env' H' a' w' → Q' .normal a' w') → c.wp P Q' a w))
    (h : awp P (withTrim (keep id) ir) Q env H) : c.wp P (QX n w0 m0 H0 B Q) a w := by
  unfold withTrim at h
  split at h
  · rename_i k _
    simp only [awp] at h
    rw [hir] at h
    refine hc _ h _ fun env' H' a' w' hk rel => ?_
    obtain ⟨m, fr, st, ad⟩ := rel
    exact ⟨_, H', hk, m, fr.trim k, st, ad⟩
  · rw [hir] at h
    exact hc _ h _ fun env' H' a' w' hk rel => ⟨env', H', hk, rel⟩
def Snd (c : Code) : Prop := ∀ (ir : IR), trCode P n draw keep c = some ir → ∀ (Q : AX → AEnv → AHeap → Prop) (env : AEnv) (H : AHeap) (a : Act) (w : World), Rel n w0 m0 H0 B env H a w → awp P ir Q env H → c.wp P (QX n w0 m0 H0 B Q) a w
theorem find_tr : ∀ (c : Code) (x : IR), trCode P n draw keep c = some x → ∀ l, match findLabel c l with
    | some rest => ∃ r, findL x l = some r ∧ trCode P n draw keep rest = some r
    | none => findL x l = none := by
  intro c
  induction c with
  | seq p q ihp ihq =>
    intro x h l
    simp only [trCode] at h
    split at h
    · rename_i p' q' hp hq
      cases h
      have h1 := ihp p' hp l
      have h2 := ihq q' hq l
      simp only [findLabel, findL]
      cases hl : findLabel p l with
      | some rest =>
        rw [hl] at h1
        obtain ⟨r, e1, e2⟩ := h1
        exact ⟨.seq r q', by simp only [e1], by simp only [trCode, e2, hq]⟩
      | none =>
        rw [hl] at h1
        simp only [h1]
        exact h2
    · cases h
  | label l' =>
    intro x h l
    cases h
    simp only [findLabel, findL]
    by_cases e : l' == l
    · simp only [e, if_true]; exact ⟨_, rfl, rfl⟩
    · simp only [e]; simp
  | region id ops b =>
    intro x h l
    have : findL x l = none := by
      cases b with
      | false =>
        simp only [trCode] at h
        split at h
        · cases h; unfold withTrim; split <;> rfl
        · cases h; rfl
      | true =>
        simp only [trCode] at h
        split at h
        · split at h
          · cases h; unfold withTrim; split <;> rfl
          · split at h
            · cases h; unfold withTrim; split <;> rfl
            · cases h; rfl
        · cases h; rfl
    simpa [findLabel] using this
  | cond c p q _ _ =>
    intro x h l
    simp only [trCode] at h
    split at h
    · cases h; simp [findLabel, findL]
    · cases h
  | block id p _ =>
    intro x h l
    simp only [trCode] at h
    split at h
    · cases h; simp [findLabel, findL]
    · cases h
  | loop p _ =>
    intro x h l
    simp only [trCode] at h
    split at h
    · cases h; simp [findLabel, findL]
    · cases h
  | scope p _ =>
    intro x h l
    simp only [trCode] at h
    split at h
    · split at h
      · split at h
        · cases h; simp [findLabel, findL]
        · cases h
      · cases h
    · cases h
  | skip => intro x h l; cases h; simp [findLabel, findL]
  | exit id => intro x h l; cases h; simp [findLabel, findL]
  | ret => intro x h l; cases h; simp [findLabel, findL]
  | goto g => intro x h l; cases h; simp [findLabel, findL]
  | _ => intro x h l; cases h
theorem Snd.seq {x y : Code} (hx : Snd (P := P) (n := n) (draw := draw) (keep := keep) (w0 := w0) (m0 := m0) (H0 := H0) (B := B) x) (hy : Snd (P := P) (n := n) (draw := draw) (keep := keep) (w0 := w0) (m0 := m0) (H0 := H0) (B := B) y) : Snd (P := P) (n := n) (draw := draw) (keep := keep) (w0 := w0) (m0 := m0) (H0 := H0) (B := B) (.seq x y) := by
  intro ir h Q env H a w rel hq
  simp only [trCode] at h
  split at h
  · rename_i p q hp hq'
    cases h
    refine wp_seq (wp_mono (hx p hp _ env H a w rel hq) fun e a' w' hx => ?_)
    cases e with
    | normal =>
      obtain ⟨env', H', h1, h2⟩ := hx
      exact hy q hq' Q env' H' a' w' h2 h1
    | _ => exact hx
  · cases h
theorem awp_sound0 (hmix : P.follows .mixedOrders = true) : ∀ (c : Code), Snd (P := P) (n := n) (draw := draw) (keep := keep) (w0 := w0) (m0 := m0) (H0 := H0) (B := B) c ∧ ∀ l rest, findLabel c l = some rest → Snd (P := P) (n := n) (draw := draw) (keep := keep) (w0 := w0) (m0 := m0) (H0 := H0) (B := B) rest := by
  intro c
  have triv : ∀ c : Code, (∀ l, findLabel c l = none) → Snd (P := P) (n := n) (draw := draw) (keep := keep) (w0 := w0) (m0 := m0) (H0 := H0) (B := B) c → Snd (P := P) (n := n) (draw := draw) (keep := keep) (w0 := w0) (m0 := m0) (H0 := H0) (B := B) c ∧ ∀ l rest, findLabel c l = some rest → Snd (P := P) (n := n) (draw := draw) (keep := keep) (w0 := w0) (m0 := m0) (H0 := H0) (B := B) rest := fun c h1 h2 => ⟨h2, fun l rest e => by rw [h1] at e; cases e⟩
  induction c with
  | skip =>
    refine triv _ (fun _ => rfl) ?_
    intro ir h Q env H a w rel hq; cases h; exact wp_skip ⟨env, H, hq, rel⟩
  | region id ops b =>
    refine triv _ (fun _ => rfl) ?_
    intro ir h Q env H a w rel hq
    cases b with
    | false =>
      simp only [trCode] at h
      split at h
      · rename_i l hl
        cases h
        refine trim_sound (fun K => awpOps P l K env H) (fun _ => rfl) (fun K hk Q' hQ' => wp_region_list ?_) hq
        exact awpOps_sound (ops := ops.toList) ops.toList l hl env H a w rel hk hQ'
      · cases h; exact hq.elim
    | true =>
      simp only [trCode] at h
      split at h
      · rename_i ss tl hss htl
        split at h
        · rename_i hchk
          cases h
          refine trim_sound (fun K => awpD1 P (ss.take (draw id).2.1) [] (fun L env H => awpD2 (ss.drop (draw id).2.1) L [] (fun env H => awpOps P tl K env H) env H) env H) (fun _ => rfl) (fun K hk Q' hQ' => ?_) hq
          exact draw_sound (ops := ops.toList) hmix hss htl hchk rel hk hQ'
        · split at h
          · rename_i hchk
            cases h
            refine trim_sound (fun K => awpT P (fun env H => awpOps P tl K env H) (planT ss (prOf ops.toList) (rcOf ops.toList ss) (effs ss fun _ => false) fun _ => false) [] env H) (fun _ => rfl) (fun K hk Q' hQ' => ?_) hq
            exact drawA_sound (ops := ops.toList) hmix hss htl hchk rel hk hQ'
          · cases h; exact hq.elim
      · cases h; exact hq.elim
  | seq x y ihx ihy =>
    refine ⟨ihx.1.seq ihy.1, fun l rest e => ?_⟩
    simp only [findLabel] at e
    split at e
    · rename_i r hr
      cases e
      exact (ihx.2 l r hr).seq ihy.1
    · exact ihy.2 l rest e
  | cond c x y ihx ihy =>
    refine triv _ (fun _ => rfl) ?_
    intro ir h Q env H a w rel hq
    simp only [trCode] at h
    split at h
    · rename_i p q hp hq'
      cases h
      simp only [awp] at hq
      split at hq
      · rename_i t ht
        obtain ⟨m, fr, st, ad⟩ := rel
        have hv := ev_sound fr ht
        generalize he : a.eval c = u at hv
        cases hv
        refine wp_cond_split he (fun e => ihx.1 p hp Q env H a w ⟨m, fr, st, ad⟩ (hq.1 e)) (fun e => ihy.1 q hq' Q env H a w ⟨m, fr, st, ad⟩ (hq.2 e))
      · exact hq.elim
    · cases h
  | block id x ih =>
    refine triv _ (fun _ => rfl) ?_
    intro ir h Q env H a w rel hq
    simp only [trCode] at h
    split at h
    · rename_i p hp
      cases h
      refine wp_block (wp_mono (ih.1 p hp _ env H a w rel hq) fun e a' w' hx => ?_)
      cases e with
      | exit i =>
        obtain ⟨env', H', h1, h2⟩ := hx
        simp only at h1
        simp only [Exit.inBlock]
        split at h1
        · rename_i hi
          rw [if_pos hi]
          exact ⟨env', H', h1, h2⟩
        · rename_i hi
          rw [if_neg hi]
          exact ⟨env', H', h1, h2⟩
      | _ => exact hx
    · cases h
  | loop x ih =>
    refine triv _ (fun _ => rfl) ?_
    intro ir h Q env H a w rel hq
    simp only [trCode] at h
    split at h
    · rename_i p hp
      cases h
      obtain ⟨I, k0, h0, hr⟩ := hq
      refine wp_loop_idx (fun k a w => ∃ env H, I k env H ∧ Rel n w0 m0 H0 B env H a w) (k0 := k0) ⟨env, H, h0, rel⟩ fun k a w ⟨env, H, hI, rel⟩ => ?_
      refine wp_mono (ih.1 p hp _ env H a w rel (hr k env H hI)) fun e a' w' hx => ?_
      cases e with
      | normal =>
        obtain ⟨env', H', ⟨k', hk', hI'⟩, rel'⟩ := hx
        exact ⟨k', hk', env', H', hI', rel'⟩
      | _ => exact hx
    · cases h
  | exit id => exact triv _ (fun _ => rfl) (by intro ir h Q env H a w rel hq; cases h; exact wp_exit ⟨env, H, hq, rel⟩)
  | ret => exact triv _ (fun _ => rfl) (by intro ir h Q env H a w rel hq; cases h; exact wp_ret ⟨env, H, hq, rel⟩)
  | goto l => exact triv _ (fun _ => rfl) (by intro ir h Q env H a w rel hq; cases h; exact wp_goto ⟨env, H, hq, rel⟩)
  | label l =>
    refine ⟨by intro ir h Q env H a w rel hq; cases h; exact wp_label ⟨env, H, hq, rel⟩, fun l' rest e => ?_⟩
    simp only [findLabel] at e
    split at e
    · cases e; intro ir h Q env H a w rel hq; cases h; exact wp_skip ⟨env, H, hq, rel⟩
    · cases e
  | scope c ih =>
    refine triv _ (fun _ => rfl) ?_
    intro ir h Q env H a w rel hq
    simp only [trCode] at h
    split at h
    · rename_i x hx
      split at h
      · rename_i l hl
        split at h
        · rename_i r hr
          cases h
          obtain ⟨I, h0, hrd⟩ := hq
          have hfl := find_tr c x hx
          have hother : ∀ l', l' ≠ l → findLabel c l' = none := by
            intro l' hne
            have h1 := hfl l'
            rw [findL_mem x l' (by rw [hl]; simpa using hne)] at h1
            cases hc : findLabel c l' with
            | none => rfl
            | some rest => rw [hc] at h1; obtain ⟨_, e, _⟩ := h1; cases e
          obtain ⟨rest, hrest, htr⟩ : ∃ rest, findLabel c l = some rest ∧ trCode P n draw keep rest = some r := by
            have h1 := hfl l
            cases hc : findLabel c l with
            | none => rw [hc] at h1; rw [h1] at hr; cases hr
            | some rest => rw [hc] at h1; obtain ⟨r', e1, e2⟩ := h1; rw [e1] at hr; cases hr; exact ⟨rest, rfl, e2⟩
          have step : ∀ (J : AEnv → AHeap → Prop) (d : Code) (ird : IR) (env : AEnv) (H : AHeap) (a : Act) (w : World), Snd (P := P) (n := n) (draw := draw) (keep := keep) (w0 := w0) (m0 := m0) (H0 := H0) (B := B) d → trCode P n draw keep d = some ird → Rel n w0 m0 H0 B env H a w →
              awp P ird (fun x e h => match x with | .goto l' => if l' = l then J e h else Q (.goto l') e h | x => Q x e h) env H → d.wp P (Exit.scoped c l (fun a w => ∃ env H, J env H ∧ Rel n w0 m0 H0 B env H a w) (QX n w0 m0 H0 B Q)) a w := by
            intro J d ird env H a w hd htr rel hq
            refine wp_mono (hd ird htr _ env H a w rel hq) fun e a' w' hx => ?_
            cases e with
            | goto l' =>
              obtain ⟨env', H', h1, h2⟩ := hx
              simp only at h1
              simp only [Exit.scoped]
              split
              · rename_i e; rw [if_pos e] at h1; exact ⟨env', H', h1, h2⟩
              · rename_i e; rw [if_neg e] at h1; exact ⟨hother l' e, env', H', h1, h2⟩
            | _ => exact hx
          refine wp_scope_idx hrest (fun k a w => ∃ env H, I k env H ∧ Rel n w0 m0 H0 B env H a w) ?_ ?_
          · refine wp_mono (step _ c x env H a w ih.1 hx rel h0) fun e a' w' hx => ?_
            cases e with
            | goto l' =>
              simp only [Exit.scoped] at hx ⊢
              split
              · rename_i e; rw [if_pos e] at hx
                obtain ⟨env', H', ⟨k, hk⟩, h2⟩ := hx
                exact ⟨k, env', H', hk, h2⟩
              · rename_i e; rw [if_neg e] at hx; exact hx
            | _ => exact hx
          · intro k a w ⟨env, H, hI, rel⟩
            refine wp_mono (step _ rest r env H a w (ih.2 l rest hrest) htr rel (hrd k env H hI)) fun e a' w' hx => ?_
            cases e with
            | goto l' =>
              simp only [Exit.scoped] at hx ⊢
              split
              · rename_i e; rw [if_pos e] at hx
                obtain ⟨env', H', ⟨k', hk, hI'⟩, h2⟩ := hx
                exact ⟨k', hk, env', H', hI', h2⟩
              · rename_i e; rw [if_neg e] at hx; exact hx
            | _ => exact hx
        · cases h
      · cases h
    · cases h
  | _ => exact triv _ (fun _ => rfl) (by intro ir h; cases h)
theorem awp_sound (hmix : P.follows .mixedOrders = true) (c : Code) (ir : IR) (h : trCode P n draw keep c = some ir) (Q : AX → AEnv → AHeap → Prop) (env : AEnv) (H : AHeap) (a : Act) (w : World) (rel : Rel n w0 m0 H0 B env H a w) (hq : awp P ir Q env H) : c.wp P (QX n w0 m0 H0 B Q) a w :=
  (awp_sound0 hmix c).1 ir h Q env H a w rel hq
end
end Go.Awp
/- From a walk over a function's text to the function's contract. Generic in the program. -/
namespace Go.Awp
set_option linter.unusedSectionVars false
variable [Fx]
open Go.RowKit (Below)
inductive RV1 where
  | tmp (t : Nat)
  | cell (s : Nat) (g : Bool) (t : Nat)
def trRes (P : Program) : List ResultVar → Option (List RV1)
  | [] => some []
  | .tmp t :: r => match trRes P r with
    | some l => some (.tmp t :: l)
    | none => none
  | .cell a t :: r => match P.info? t, P.underlying t, trRes P r with
    | some i, some d, some l => some (.cell i.size (isAggD d) a :: l)
    | _, _, _ => none
def rgets (env : AEnv) (H : AHeap) : List RV1 → Option (List AV)
  | [] => some []
  | .tmp t :: r => match AEnv.get env t, rgets env H r with
    | some x, some l => some (x :: l)
    | _, _ => none
  | .cell s g t :: r => match AEnv.get env t with
    | some p => (match deref H p with
      | some cells => (match qload s g cells, rgets env H r with
        | some x, some l => some (x :: l)
        | _, _ => none)
      | none => none)
    | none => none
def retv : List AV → AV
  | [x] => x
  | l => .tuple l
def res1 (tmps : Array Value) : ResultVar → Sem Value
  | .tmp t => pure (tmps.getD t undef)
  | .cell p t => do loadVar t (← asAddr (tmps.getD p undef))
section
variable {P : Program} {n : Nat} {w : World} {m : AMap} {H : AHeap} {B : Nat} {env : AEnv} {a : Act}
theorem rgets_sound (st : St w m H B) (fr : FR n w m H B env a) : ∀ (rs : List ResultVar) (l : List RV1) (xs : List AV), trRes P rs = some l → rgets env H l = some xs →
    ∃ vs : List Value, (rs.mapM (res1 a.tmps)).run P w = .ok vs w ∧ xs.length = vs.length ∧ ∀ (i : Nat) (x : AV) (v : Value), xs[i]? = some x → vs[i]? = some v → RV w m H B x v
  | [], l, xs, h, hx => by
    cases h; cases hx
    exact ⟨[], by simp, rfl, by simp⟩
  | .tmp t :: rs, l, xs, h, hx => by
    simp only [trRes] at h
    split at h
    · rename_i l' hl'
      cases h
      simp only [rgets] at hx
      split at hx
      · rename_i x r hg hr
        cases hx
        obtain ⟨vs, q1, q2, q3⟩ := rgets_sound st fr rs l' r hl' hr
        obtain ⟨v, h1, h2⟩ := fr.slots t x hg
        refine ⟨v :: vs, ?_, by simp [q2], fun i y u e1 e2 => ?_⟩
        · simp only [List.mapM_cons, res1, Sem.run_bind, Sem.run_pure, Result.andThen_ok, q1]
          simp [h1]
        · cases i with
          | zero => simp at e1 e2; subst e1; subst e2; exact h2
          | succ i => exact q3 i y u (by simpa using e1) (by simpa using e2)
      · cases hx
    · cases h
  | .cell p t :: rs, l, xs, h, hx => by
    simp only [trRes] at h
    split at h
    · rename_i i d l' hi hd hl'
      cases h
      simp only [rgets] at hx
      split at hx
      · rename_i x hg
        split at hx
        · rename_i cells hc
          split at hx
          · rename_i y r hq hr
            cases hx
            obtain ⟨vs, q1, q2, q3⟩ := rgets_sound st fr rs l' r hl' hr
            obtain ⟨v, h1, h2⟩ := fr.slots p x hg
            obtain ⟨ad, e1, e2⟩ := deref_sound st h2 hc
            obtain ⟨u, f1, f2⟩ := load_cells e2 hi hd hq
            refine ⟨u :: vs, ?_, by simp [q2], fun i y u e1 e2 => ?_⟩
            · have hge : a.tmps.getD p undef = .pointer (some ad) := by simp [h1, e1]
              simp only [List.mapM_cons, res1, Sem.run_bind, Sem.run_pure, Result.andThen_ok, q1, hge, asAddr, f1]
            · cases i with
              | zero => simp at e1 e2; subst e1; subst e2; exact f2
              | succ i => exact q3 i y u (by simpa using e1) (by simpa using e2)
          · cases hx
        · cases hx
      · cases hx
    · cases h
theorem results_sound (st : St w m H B) (fr : FR n w m H B env a) {fn : Func} {l : List RV1} {xs : List AV} (h : trRes P fn.results.toList = some l) (hx : rgets env H l = some xs) :
    ∃ v, (results fn a.tmps).run P w = .ok v w ∧ RV w m H B (retv xs) v := by
  obtain ⟨vs, q1, q2, q3⟩ := rgets_sound st fr _ l xs h hx
  have hm : (fn.results.mapM (res1 a.tmps)).run P w = .ok vs.toArray w := by
    rw [Array.mapM_eq_mapM_toList, Sem.run_map, q1, Result.andThen_ok]
  have hr : (results fn a.tmps).run P w = .ok (if h : vs.toArray.size = 1 then vs.toArray[0] else .tuple vs.toArray) w := by
    have hf : results fn a.tmps = (do let vs ← fn.results.mapM (res1 a.tmps); pure (if h : vs.size = 1 then vs[0] else .tuple vs)) := by
      unfold results
      congr 1
    rw [hf, Sem.run_bind, hm]
    rfl
  refine ⟨_, hr, ?_⟩
  have tup : RV w m H B (.tuple xs) (.tuple vs.toArray) := .tuple _ _ (by simpa using q2) (fun i x v a b => q3 i x v a (by simpa using b))
  unfold retv
  split
  · have h1 : vs.length = 1 := by simpa using q2.symm
    rw [dif_pos (by simpa using h1)]
    refine q3 0 _ _ rfl ?_
    simp [h1]
  · rename_i hne
    rw [dif_neg ?_]
    · exact tup
    · intro h1
      have h2 : xs.length = 1 := by rw [q2]; simpa using h1
      obtain ⟨x, hx⟩ := List.length_eq_one_iff.1 h2
      exact hne x hx
end
def fnPost (rs : List RV1) (R : AV → AHeap → Prop) : AX → AEnv → AHeap → Prop := fun x env H =>
  match x with
  | .normal => (match rgets env H rs with | some l => R (retv l) H | none => False)
  | .ret => (match rgets env H rs with | some l => R (retv l) H | none => False)
  | _ => False
def argsEnv : Nat → List AV → AEnv
  | _, [] => []
  | k, x :: r => (k, x) :: argsEnv (k + 1) r
theorem argsEnv_get : ∀ (xs : List AV) (k t : Nat) (x : AV), AEnv.get (argsEnv k xs) t = some x → k ≤ t ∧ xs[t - k]? = some x
  | [], k, t, x, h => by cases h
  | y :: xs, k, t, x, h => by
    simp only [argsEnv, AEnv.get] at h
    by_cases hk : k = t
    · rw [if_pos hk] at h
      subst hk
      exact ⟨Nat.le_refl _, by simpa using h⟩
    · rw [if_neg hk] at h
      obtain ⟨h1, h2⟩ := argsEnv_get xs (k + 1) t x h
      refine ⟨by omega, ?_⟩
      rw [show t - k = (t - (k + 1)) + 1 by omega]
      simpa using h2
/-- What a function's text, its translation and its results are: closed facts. -/
structure Text (P : Program) (f : FuncId) (n : Nat) (ir : IR) (rs : List RV1) : Prop where
  ok : ∃ (fn : Func) (draw : List (Nat × Nat × Nat × List Nat)) (keep : List (Nat × List Nat)), P.funcs[f]? = some fn ∧ fn.ntmps = n ∧ fn.body.bind (trCode P n (fun id => (draw.lookup id).getD (0, 0, [])) (fun id => keep.lookup id)) = some ir ∧ trRes P fn.results.toList = some rs ∧ P.follows .mixedOrders = true
  call : callable P f = true
theorem run_text {P : Program} {f : FuncId} {n : Nat} {ir : IR} {rs : List RV1} (t : Text P f n ir rs) {xs : List AV} (hl : xs.length ≤ n) {H : AHeap} {R : AV → AHeap → Prop} (h : awp P ir (fnPost rs R) (argsEnv 0 xs) H) {w : World} {m : AMap} {B : Nat} {vs : Array Value} (st : St w m H B) (ha : Args w m H B xs vs) :
    Calls P f vs w fun e w' => ∃ v x m' H', e = .returned v ∧ R x H' ∧ St w' m' H' B ∧ Adv w m H w' m' H' ∧ RV w' m' H' B x v := by
  obtain ⟨fn, draw, keep, hf, hn, hbind, hrs, hd⟩ := t.ok
  obtain ⟨c, hb, htr⟩ := Option.bind_eq_some_iff.1 hbind
  refine calls_of_wp hf hb ?_
  have hsz : vs.size ≤ n := by rw [← ha.1]; exact hl
  have rel : Rel n w m H B (argsEnv 0 xs) H { tmps := vs ++ Array.replicate (fn.ntmps - vs.size) undef, defers := [] } w := by
    refine ⟨m, ⟨rfl, by simp [hn]; omega, fun t x e => ?_⟩, st, Adv.refl _ _ _⟩
    obtain ⟨_, h2⟩ := argsEnv_get xs 0 t x e
    rw [Nat.sub_zero] at h2
    have hlt : t < vs.size := by rw [← ha.1]; exact (List.getElem?_eq_some_iff.1 h2).1
    exact ⟨vs[t], by rw [Array.getElem?_append_left hlt]; exact Array.getElem?_eq_getElem hlt, ha.2 t x _ h2 (Array.getElem?_eq_getElem hlt)⟩
  refine wp_mono (awp_sound hd c ir htr _ _ _ _ _ rel h) fun e a' w' hx => ?_
  have fin : (∃ env' H', (match rgets env' H' rs with | some l => R (retv l) H' | none => False) ∧ Rel n w m H B env' H' a' w') → a'.defers = [] ∧ ∃ v, (results fn a'.tmps).run P w' = .ok v w' ∧ ∃ v' x m' H', Ending.returned v = .returned v' ∧ R x H' ∧ St w' m' H' B ∧ Adv w m H w' m' H' ∧ RV w' m' H' B x v' := by
    intro ⟨env', H', h1, m', fr', st', ad'⟩
    split at h1
    · rename_i l hl'
      obtain ⟨v, p1, p2⟩ := results_sound st' fr' hrs hl'
      exact ⟨fr'.defers, v, p1, v, _, m', H', rfl, h1, st', ad', p2⟩
    · exact h1.elim
  cases e with
  | normal => exact fin hx
  | ret => exact fin hx
  | exit id => obtain ⟨_, _, h1, _⟩ := hx; exact h1.elim
  | goto l => obtain ⟨_, _, h1, _⟩ := hx; exact h1.elim
  | panic c => exact hx.elim
  | outgrown => exact hx.elim
theorem ACall.intro {P : Program} {f : FuncId} {n : Nat} {ir : IR} {rs : List RV1} (t : Text P f n ir rs) {xs : List AV} (hl : xs.length ≤ n) {H : AHeap} {R : AV → AHeap → Prop} (h : awp P ir (fnPost rs R) (argsEnv 0 xs) H) : ACall P f xs H R :=
  ⟨t.call, fun _ _ _ _ st ha => run_text t hl h st ha⟩
/-- What is handed back, as plain data: as whoever called may keep it. -/
def Out (H : AHeap) (x r : AV) : Prop := ∀ (w : World) (m : AMap) (B : Nat) (v : Value), St w m H B → RV w m H B x v → ∀ (m' : AMap) (H' : AHeap) (B' : Nat), B' ≤ B → (∀ h b, m' h = some b → b < B) → RV w m' H' B' r v
theorem St.empty (w : World) (fx : Fx.Ok w w.heap.size) : St w (fun _ => none) [] w.heap.size := ⟨Nat.le_refl _, fun _ _ e => (by cases e), fun _ _ e => (by cases e), fun _ _ _ e => (by cases e), fx⟩
theorem PCall.intro {P : Program} {f : FuncId} {n : Nat} {ir : IR} {rs : List RV1} (t : Text P f n ir rs) {xs : List AV} (hl : xs.length ≤ n) {r : AV} (h : awp P ir (fnPost rs fun x H' => Out H' x r) (argsEnv 0 xs) []) : PCall P f xs r := by
  refine ⟨t.call, fun w vs fx ha => ?_⟩
  refine (run_text t hl h (St.empty w fx) ha).mono fun e w' ⟨v, x, m', H', he, hr, st, ad, rv⟩ => ?_
  refine ⟨v, he, ⟨ad.os, ad.tape, ad.output, ad.size, fun k hk => ad.keep k hk (fun _ e => by cases e)⟩, fun m2 H2 B2 hB hm => ?_⟩
  exact hr w' m' w.heap.size v st rv m2 H2 B2 hB hm
/-- A new slice of simple values is handed back. -/
def NOut (H : AHeap) (x : AV) (e sz : Nat) (els : List (List AV)) : Prop := ∃ h, x = .own h els.length 0 els.length ∧ AHeap.obj H h = some ⟨e, sz, els⟩
theorem ACall.ncall {P : Program} {f : FuncId} {xs : List AV} {e sz : Nat} {els : List (List AV)} (hs : ∀ el, el ∈ els → el.length = sz ∧ ∀ x, x ∈ el → x.simple = true) (h : ACall P f xs [] fun x H' => NOut H' x e sz els) : NCall P f xs e sz els := by
  refine ⟨h.1, hs, fun w vs fx ha => ?_⟩
  refine (h.2 w _ _ vs (St.empty w fx) ha).mono fun en w' ⟨v, x, m', H', he, ⟨k, hx, ho⟩, st, ad, rv⟩ => ?_
  subst hx
  cases rv with
  | own _ _ _ _ a n cap hh hv =>
    obtain ⟨b, q1, q2, q3, q4, q5, q6, q7⟩ := (hv _ ho).2 rfl
    obtain ⟨g1, g2, o, cs, e1, e2, e3, e4⟩ := st.dom k b q1
    rw [ho] at e1; cases e1
    have ha := q2 (.inr rfl)
    subst ha q3
    simp only [Nat.zero_mul] at he
    refine ⟨b, cap, cs, he, ⟨ad.os, ad.tape, ad.output, ad.size, fun k hk => ad.keep k hk (fun _ e => by cases e)⟩, g1, g2, e2, q5, q6, ?_, fun i el j x a1 a2 => ?_⟩
    · simpa [World.shape?, e2] using q7
    · obtain ⟨v, p1, p2, p3⟩ := e4 i el j x a1 a2
      exact ⟨v, p1, p2.simple ((hs el (List.mem_of_getElem? a1)).2 x (List.mem_of_getElem? a2))⟩
theorem NCall.intro {P : Program} {f : FuncId} {n : Nat} {ir : IR} {rs : List RV1} (t : Text P f n ir rs) {xs : List AV} (hl : xs.length ≤ n) {e sz : Nat} {els : List (List AV)} (hs : ∀ el, el ∈ els → el.length = sz ∧ ∀ x, x ∈ el → x.simple = true)
    (h : awp P ir (fnPost rs fun x H' => NOut H' x e sz els) (argsEnv 0 xs) []) : NCall P f xs e sz els :=
  ACall.ncall hs (ACall.intro t hl h)
theorem awpOps_mono {P : Program} : ∀ (l : List IStmt) {K K' : AEnv → AHeap → Prop} (_ : ∀ e h, K e h → K' e h) {env : AEnv} {H : AHeap}, awpOps P l K env H → awpOps P l K' env H := by
  have acm : ∀ (io : IOp) {K K' : AV → AHeap → Prop} (hk : ∀ e h, K e h → K' e h) {env : AEnv} {H : AHeap}, acall P io env H K → acall P io env H K' := by
    intro io K K' hk env H h
    unfold acall at h ⊢
    split at h
    · split at h
      · exact h.mono hk
      · exact h
    · split at h
      · exact h.mono hk
      · exact h
    · split at h
      · split at h
        · split at h
          · rename_i h0; simp only [if_pos h0]; exact hk _ _ h
          · rename_i h0; simp only [if_neg h0]; exact fun b => hk _ _ (h b)
        · exact h
      · exact h
    · exact hk _ _ h
    · split at h
      · split at h
        · exact h.mono hk
        · exact h
      · exact h
    · split at h
      · exact hk _ _ h
      · exact hk _ _ h
      · exact h
  intro l
  induction l with
  | nil => intro K K' hk env H h; exact hk _ _ h
  | cons s r ih =>
    intro K K' hk env H h
    simp only [awpOps] at h ⊢
    split at h
    · exact acm _ (fun x H' h => ih hk h) h
    · rename_i g want hg
      split at h
      · rename_i c hc; try simp only [hc]
        exact ⟨fun e => acm _ (fun x H' h => ih hk h) (h.1 e), fun e => ih hk (h.2 e)⟩
      · rename_i hc; try simp only [hc]
        exact ih hk h
      · exact h.elim
theorem awpD1_mono {P : Program} : ∀ (l : List IStmt) {L : List (IOp × AEnv × AV)} {K K' : List (IOp × AEnv × AV) → AEnv → AHeap → Prop} (_ : ∀ L e h, K L e h → K' L e h) {env : AEnv} {H : AHeap}, awpD1 P l L K env H → awpD1 P l L K' env H
  | [], L, K, K', hk, env, H, h => hk _ _ _ h
  | s :: r, L, K, K', hk, env, H, h => by
    have gm : ∀ {g : Option (Nat × Bool)} {on off on' off' : AEnv → Prop} {env : AEnv}, (∀ e, on e → on' e) → (∀ e, off e → off' e) → guardD g env on off → guardD g env on' off' := by
      intro g on off on' off' env h1 h2 h
      unfold guardD at h ⊢
      split at h
      · exact h1 _ h
      · split at h
        · exact ⟨fun e => h1 _ (h.1 e), fun e => h2 _ (h.2 e)⟩
        · exact h2 _ h
        · exact h
    simp only [awpD1] at h ⊢
    refine gm (fun e h => ?_) (fun e h => awpD1_mono r hk h) h
    split at h
    · split at h
      · exact awpD1_mono r hk h
      · exact h
    · split at h
      · exact awpD1_mono r hk h
      · exact h
    · split at h
      · exact awpD1_mono r hk h
      · exact awpD1_mono r hk h
      · exact h
    · split at h
      · rcases h with ⟨ys, q, h1, h2, h3⟩ | ⟨ys, e', sz, els, h1, h2, h3⟩
        · exact .inl ⟨ys, q, h1, h2, awpD1_mono r hk h3⟩
        · exact .inr ⟨ys, e', sz, els, h1, h2, awpD1_mono r hk h3⟩
      · exact h
    · exact h
theorem awpD2_mono : ∀ (l : List IStmt) {L : List (IOp × AEnv × AV)} {Ps : List AHeap} {K K' : AEnv → AHeap → Prop} (_ : ∀ e h, K e h → K' e h) {env : AEnv} {H : AHeap}, awpD2 l L Ps K env H → awpD2 l L Ps K' env H
  | [], L, Ps, K, K', hk, env, H, h => hk _ _ h
  | s :: r, L, Ps, K, K', hk, env, H, h => by
    simp only [awpD2] at h ⊢
    split at h
    · split at h
      · exact awpD2_mono r hk h
      · exact h
    · split at h
      · exact ⟨h.1, awpD2_mono r hk h.2⟩
      · exact h
    · split at h
      · exact ⟨h.1, awpD2_mono r hk h.2⟩
      · exact h
    · exact h.elim
theorem acall_mono {P : Program} {io : IOp} {K K' : AV → AHeap → Prop} (hk : ∀ e h, K e h → K' e h) {env : AEnv} {H : AHeap} (h : acall P io env H K) : acall P io env H K' := by
  unfold acall at h ⊢
  split at h
  · split at h
    · exact h.mono hk
    · exact h
  · split at h
    · exact h.mono hk
    · exact h
  · split at h
    · split at h
      · split at h
        · rename_i h0; simp only [if_pos h0]; exact hk _ _ h
        · rename_i h0; simp only [if_neg h0]; exact fun b => hk _ _ (h b)
      · exact h
    · exact h
  · exact hk _ _ h
  · split at h
    · split at h
      · exact h.mono hk
      · exact h
    · exact h
  · split at h
    · exact hk _ _ h
    · exact hk _ _ h
    · exact h
theorem awpT_mono {P : Program} {K K' : AEnv → AHeap → Prop} (hk : ∀ e h, K e h → K' e h) : ∀ (t : AT) {L : LL} {env : AEnv} {H : AHeap}, awpT P K t L env H → awpT P K' t L env H
  | .fin, L, env, H, h => hk _ _ h
  | .pure s k, L, env, H, h => by
    simp only [awpT] at h ⊢
    split at h
    · exact awpT_mono hk k h
    · exact h
  | .load i s k, L, env, H, h => by
    simp only [awpT] at h ⊢
    split at h
    · exact awpT_mono hk k h
    · exact h
  | .stop, L, env, H, h => h
  | .alt s rc k r, L, env, H, h => ⟨acall_mono (fun x H' ⟨h1, h2⟩ => ⟨h1, awpT_mono hk k h2⟩) h.1, awpT_mono hk r h.2⟩
theorem awp_mono {P : Program} {c : IR} : ∀ {Q Q' : AX → AEnv → AHeap → Prop} (_ : ∀ x e h, Q x e h → Q' x e h) {env : AEnv} {H : AHeap}, awp P c Q env H → awp P c Q' env H := by
  induction c with
  | skip => intro Q Q' hq env H h; exact hq _ _ _ h
  | ops l => intro Q Q' hq env H h; exact awpOps_mono l (hq .normal) h
  | opsD pre post tl => intro Q Q' hq env H h; exact awpD1_mono pre (fun L e h => awpD2_mono post fun e h => awpOps_mono tl (hq .normal)) h
  | opsA t tl => intro Q Q' hq env H h; exact awpT_mono (fun e h => awpOps_mono tl (hq .normal)) t h
  | trim k => intro Q Q' hq env H h; exact hq _ _ _ h
  | seq a b iha ihb =>
    intro Q Q' hq env H h
    refine iha (fun x e h hx => ?_) h
    cases x with
    | normal => exact ihb hq hx
    | _ => exact hq _ _ _ hx
  | cond c a b iha ihb =>
    intro Q Q' hq env H h
    simp only [awp] at h ⊢
    split at h
    · exact ⟨fun e => iha hq (h.1 e), fun e => ihb hq (h.2 e)⟩
    · exact h
  | block id a ih =>
    intro Q Q' hq env H h
    refine ih (fun x e h hx => ?_) h
    cases x with
    | exit i =>
      simp only at hx ⊢
      split at hx
      · rename_i hi; rw [if_pos hi]; exact hq _ _ _ hx
      · rename_i hi; rw [if_neg hi]; exact hq _ _ _ hx
    | _ => exact hq _ _ _ hx
  | loop a ih =>
    intro Q Q' hq env H ⟨I, k0, h0, hr⟩
    refine ⟨I, k0, h0, fun k e h hI => ih (fun x e h hx => ?_) (hr k e h hI)⟩
    cases x with
    | normal => exact hx
    | _ => exact hq _ _ _ hx
  | exit id => intro Q Q' hq env H h; exact hq _ _ _ h
  | ret => intro Q Q' hq env H h; exact hq _ _ _ h
  | label l => intro Q Q' hq env H h; exact hq _ _ _ h
  | goto l => intro Q Q' hq env H h; exact hq _ _ _ h
  | scope a l r iha ihr =>
    intro Q Q' hq env H ⟨I, h0, hr⟩
    refine ⟨I, iha (fun x e h hx => ?_) h0, fun k e h hI => ihr (fun x e h hx => ?_) (hr k e h hI)⟩
    · cases x with
      | goto l' =>
        simp only at hx ⊢
        split at hx
        · rename_i hi; rw [if_pos hi]; exact hx
        · rename_i hi; rw [if_neg hi]; exact hq _ _ _ hx
      | _ => exact hq _ _ _ hx
    · cases x with
      | goto l' =>
        simp only at hx ⊢
        split at hx
        · rename_i hi; rw [if_pos hi]; exact hx
        · rename_i hi; rw [if_neg hi]; exact hq _ _ _ hx
      | _ => exact hq _ _ _ hx
  | fail => intro Q Q' hq env H h; exact h
end Go.Awp
