/- Regions that draw their order, part 5: the theorem. Generic in the program. -/
import Derived.Test.YtepnijjgdhldeaaLsd
namespace Go.Awp
section
variable {P : Program} {n : Nat} {lt : List Nat} {ops : List Oper} {ss : List IStmt} {wS : World} {mS : AMap} {HS : AHeap} {B : Nat} {aS : Act} {envS envF : AEnv} {G : Nat → AHeap} {V : Nat → AV} {hd : Nat → Option Nat}

theorem any_order {k : Nat} (hk : k < ops.length) (hlen : ss.length = k) (bd : Body P n lt ops ss) (pl : Plan P ss envS HS envF G V hd) (fr : FR n wS mS HS B envS aS) (hs : Region.sinkB .any ops.toArray k = true) (hc : Region.chainB .any ops.toArray k = true) (hq : Region.seqB .any ops.toArray (ops.length - k) k (doneArr ops.length k) = true)
    (hback : ∀ i o, i < k → ops[i]? = some o → ∀ e, e ∈ o.after → Region.binds .any e = true → e.on < i) {Q : Exit → Act → World → Prop}
    (hfin : ∀ a w m, Mid P n ss wS mS HS B aS envF G V hd (fun i => i < k) a w (nW ss) m → wpList P ops.toArray Q (ops.drop k) a w) :
    ∀ (c : Nat) (listed : Array Bool) (a : Act) (w : World) (p : Nat) (m : AMap), (List.range k).countP (fun i => !listed.getD i true) = c → HeadInv .any ops.toArray k listed → Mid P n ss wS mS HS B aS envF G V hd (fun i => i < k ∧ listed.getD i false = true) a w p m →
      wpAny P .any ops.toArray Q (c + (ops.length - k)) listed a w
  | 0, listed, a, w, p, m, hcount, inv, md => by
    have hall : ∀ i, i < k → listed.getD i true = true := by
      intro i hi
      have := List.countP_eq_zero.1 hcount i (List.mem_range.2 hi)
      simpa using this
    have hsz : listed.size = ops.length := by rw [inv.size]; simp
    have hget : ∀ i, i < k → listed.getD i false = true := by
      intro i hi
      have := hall i hi
      have hlt : i < listed.size := by omega
      simp [hlt] at this ⊢; exact this
    have hd' : listed = doneArr ops.length k := by
      apply Array.ext
      · simp [doneArr, hsz]
      · intro i h1 h2
        have e1 : (doneArr ops.length k)[i] = decide (i < k) := by simp [doneArr]
        rw [e1]
        by_cases hi : i < k
        · have := hget i hi
          simp [h1] at this
          simp [hi, this]
        · have := inv.tail i (by omega) (by simp; omega)
          simp [h1] at this
          simp [hi, this]
    rw [Nat.zero_add]
    have hp : p = nW ss := by
      rcases Nat.lt_or_ge p (nW ss) with h | h
      · obtain ⟨j, s, h1, h2, h3, h4⟩ := nW_find (ss := ss) ss.length p (by rw [List.take_length]; exact h)
        have := (md.ph j s h2 h3).1 ⟨by omega, hget j (by omega)⟩
        omega
      · have := md.phle; omega
    subst hp
    have hm : Mid P n ss wS mS HS B aS envF G V hd (fun i => i < k) a w (nW ss) m := by
      have e : (fun i => i < k ∧ listed.getD i false = true) = fun i => i < k := by
        funext i
        exact propext ⟨fun h => h.1, fun h => ⟨h, hget i h⟩⟩
      rw [e] at md; exact md
    have hdl : (ops.drop k).length = ops.length - k := by simp
    rw [← hdl]
    refine wpAny_of_seq (ops.drop k) k listed a w (fun j => by simp [List.getElem?_drop]) ?_ (hfin a w m hm)
    rw [hdl, hd']; exact hq
  | c + 1, listed, a, w, p, m, hcount, inv, md => by
    have hsz : listed.size = ops.length := by rw [inv.size]; simp
    -- there is one that is not done
    obtain ⟨u, hu1, hu2⟩ : ∃ u, u < k ∧ listed.getD u true = false := by
      have : 0 < (List.range k).countP (fun i => !listed.getD i true) := by omega
      obtain ⟨u, h1, h2⟩ := List.countP_pos_iff.1 this
      exact ⟨u, List.mem_range.1 h1, by simpa using h2⟩
    have hready : ∀ t, t ∈ Region.ready .any ops.toArray listed → t < k := by
      intro t ht
      rcases Nat.lt_or_ge t k with h | h
      · exact h
      · exact absurd ht (tail_waits hs hc (by simpa using hk) inv _ u rfl hu1 hu2 t h)
    have hne : Region.ready .any ops.toArray listed ≠ [] := by
      -- the least that is not done is ready
      have key : ∀ d u, u ≤ d → u < k → listed.getD u true = false → ∃ t, t ∈ Region.ready .any ops.toArray listed := by
        intro d
        induction d with
        | zero =>
          intro u hu hk' hn
          have hu0 : u = 0 := by omega
          subst hu0
          have ho : ops[0]? = some (ops[0]'(by omega)) := List.getElem?_eq_getElem _
          exact ⟨0, mem_ready.2 ⟨hn, _, by simp, fun e he hb => absurd (hback 0 _ hk' ho e he hb) (Nat.not_lt_zero _)⟩⟩
        | succ d ih =>
          intro u hu hk' hn
          have ho : ops[u]? = some (ops[u]'(by omega)) := List.getElem?_eq_getElem _
          by_cases hall : ∀ e, e ∈ (ops[u]'(by omega)).after → Region.binds .any e = true → listed.getD e.on false = true
          · exact ⟨u, mem_ready.2 ⟨hn, _, by simp, hall⟩⟩
          · obtain ⟨e, he⟩ := Classical.not_forall.1 hall
            obtain ⟨he1, he2⟩ := Classical.not_imp.1 he
            obtain ⟨he3, he4⟩ := Classical.not_imp.1 he2
            have hlt := hback u _ hk' ho e he1 he3
            have : listed.getD e.on false = false := by simpa using he4
            exact ih e.on (by omega) (by omega) (getD_in (by omega) this)
      obtain ⟨t, ht⟩ := key u u (Nat.le_refl _) hu1 hu2
      intro e; rw [e] at ht; cases ht
    rw [show c + 1 + (ops.length - k) = (c + (ops.length - k)) + 1 by omega]
    refine ⟨fun e => absurd e hne, fun i hi => ?_⟩
    have hik := hready i hi
    obtain ⟨hn, oi, hoi, hafter⟩ := mem_ready.1 hi
    have hoi' : ops[i]? = some oi := by simpa using hoi
    have hsi : ss[i]? = some (ss[i]'(by omega)) := List.getElem?_eq_getElem _
    obtain ⟨o', ho', htr⟩ := bd.tr i _ hsi
    rw [hoi'] at ho'; cases ho'
    have hnd : ¬ (i < k ∧ listed.getD i false = true) := fun h => by
      have := getD_both hn; rw [this] at h; cases h.2
    have hon : ∀ e, e ∈ oi.after → Region.binds .any e = true → e.on < k ∧ listed.getD e.on false = true := fun e he hb => ⟨Nat.lt_trans (hback i oi hik hoi' e he hb) hik, hafter e he hb⟩
    refine Mid.go bd pl fr md hsi hoi' htr hnd hon (fun x hx j hj => ?_) fun v w' p' m' md' => ?_
    · have hcl : ∀ j, (j < k ∧ listed.getD j false = true) → Listed ops (fun j => j < k ∧ listed.getD j false = true) j := by
        intro j ⟨h1, h2⟩ o ho e he hb
        exact ⟨Nat.lt_trans (hback j o h1 ho e he hb) h1, inv.closed j o (by simpa using ho) h2 e he hb⟩
      exact ancs_spec ops (fun j => j < k ∧ listed.getD j false = true) hcl ops [] (fun j => by simp) (by simp) i x hx j hj (fun o ho e he hb => by
        rw [hoi'] at ho; cases ho
        exact hon e he hb)
    · have inv' := inv.set hi hik
      have hcount' : (List.range k).countP (fun j => !(listed.setIfInBounds i true).getD j true) = c := by
        have := countP_upd (p := fun j => !listed.getD j true) (q := fun j => !(listed.setIfInBounds i true).getD j true) (i := i) (List.range k) List.nodup_range (List.mem_range.2 hik) (by simp only [hn]; rfl) (by
          have hlt : i < listed.size := by omega
          simp [hlt]) (fun j hj => by rw [getD_set_ne true (Ne.symm hj)])
        omega
      have hdone : (fun j => (j < k ∧ listed.getD j false = true) ∨ j = i) = fun j => j < k ∧ (listed.setIfInBounds i true).getD j false = true := by
        funext j
        apply propext
        by_cases hji : j = i
        · subst hji
          have hlt : j < listed.size := by omega
          simp [hlt, hik]
        · rw [getD_set_ne false (Ne.symm hji)]
          exact ⟨fun h => h.resolve_right hji, .inl⟩
      rw [hdone] at md'
      exact any_order hk hlen bd pl fr hs hc hq hback hfin c _ _ _ p' m' hcount' inv' md'

theorem draw_sound (hmix : P.follows .mixedOrders = true) {k np : Nat} {tl : List IStmt} {id : Nat} {H : AHeap} {env : AEnv} {w0 : World} {m0 : AMap} {H0 : AHeap} {a : Act} {w : World} {K : AEnv → AHeap → Prop} {Q : Exit → Act → World → Prop} (htr : trStmts P n (some lt) ops (ops.take k) = some ss) (htl : trStmts P n none ops (ops.drop k) = some tl) (hchk : drawChk ops ss k np = true)
    (rel : Rel n w0 m0 H0 B env H a w) (h : awpD1 P (ss.take np) [] (fun L env H => awpD2 (ss.drop np) L [] (fun env H => awpOps P tl K env H) env H) env H) (hq : ∀ env' H' a' w', K env' H' → Rel n w0 m0 H0 B env' H' a' w' → Q .normal a' w') : (Code.region id ops.toArray true).wp P Q a w := by
  have hchk' := hchk
  simp only [drawChk, Bool.and_eq_true, decide_eq_true_eq] at hchk'
  obtain ⟨⟨⟨⟨⟨⟨⟨⟨⟨⟨h0, h1⟩, h2⟩, h3⟩, h4⟩, h5⟩, h6⟩, h7⟩, h8⟩, h9⟩, h10⟩ := hchk'
  obtain ⟨bd, hback⟩ := body_of (Nat.le_of_lt h0) htr hchk
  obtain ⟨hl, _⟩ := trStmts_get _ _ htr
  have hlen : ss.length = k := by rw [hl, List.length_take]; omega
  have hpre : ∀ s, s ∈ ss.take np → isW s = false := fun s hs => by
    have := List.all_eq_true.1 h6 s hs
    simpa using this
  obtain ⟨envF, G, V, hd, pl, hK⟩ := plan_of (pre := ss.take np) (post := ss.drop np) (by rw [List.take_append_drop]; exact h4) hpre h
  rw [List.take_append_drop] at pl hK
  obtain ⟨m, fr, st, ad⟩ := rel
  -- the draw itself
  have adr : Adv w m H { w with drawn := w.drawn + 1 } m H := ⟨rfl, rfl, rfl, Nat.le_refl _, fun _ _ _ => rfl, fun _ _ e => .inl e, Nat.le_refl _, fun _ o' _ e => ⟨o', e, rfl, rfl, Nat.le_refl _, fun _ b hb => ⟨hb, rfl⟩⟩⟩
  have str : St { w with drawn := w.drawn + 1 } m H B := ⟨st.base, fun k b e => by
    obtain ⟨p1, p2, o1, cs, p3, p4, p5, p6⟩ := st.dom k b e
    exact ⟨p1, p2, o1, cs, p3, p4, p5, fun i el j x a1 a2 => by
      obtain ⟨v, q1, q2, q3⟩ := p6 i el j x a1 a2
      exact ⟨v, q1, q2.mono adr, q3⟩⟩, st.inj⟩
  have frr := fr.mono adr
  refine wp_region_any hmix ?_
  obtain ⟨X, hX⟩ := pl.g0
  obtain ⟨s1, s2⟩ := str.push X
  have hcount : (List.range k).countP (fun i => !(Array.replicate ops.toArray.size false).getD i true) = k := by
    have : (List.range k).countP (fun i => !(Array.replicate ops.toArray.size false).getD i true) = (List.range k).length := by
      rw [List.countP_eq_length]
      intro i hi
      have : i < ops.length := by have := List.mem_range.1 hi; omega
      simp [this]
    rw [this, List.length_range]
  have inv0 : HeadInv .any ops.toArray k (Array.replicate ops.toArray.size false) :=
    ⟨by simp, fun j oj _ hl => (by rw [getD_replicate_false] at hl; cases hl), fun t _ ht => getD_in (by simpa using ht) (getD_replicate_false _ _)⟩
  have hnone : ∀ i, ¬ (i < k ∧ (Array.replicate ops.toArray.size false).getD i false = true) := fun i h => by rw [getD_replicate_false] at h; cases h.2
  have md0 : Mid P n ss { w with drawn := w.drawn + 1 } m H B a envF G V hd (fun i => i < k ∧ (Array.replicate ops.toArray.size false).getD i false = true) a { w with drawn := w.drawn + 1 } 0 m := by
    refine ⟨by rw [hX]; exact s1, by rw [hX]; exact s2, fr.defers, fr.size, fun i s d _ hdn _ => absurd hdn (hnone i), fun t _ => rfl, fun i h hi _ hh => ?_, Nat.zero_le _, fun k' s hk' hw => ⟨fun hdn => absurd hdn (hnone k'), fun h => absurd h (Nat.not_lt_zero _)⟩, fun h => absurd h (Nat.lt_irrefl _)⟩
    have := pl.fresh i h hh
    cases hm : m h with
    | none => rfl
    | some b => exact absurd (st.mlt hm) (by omega)
  have := any_order h0 hlen bd pl frr h1 h2 h3 hback (Q := Q) (fun a' w' m' md => ?_) k _ a _ 0 m hcount inv0 md0
  · rw [show k + (ops.length - k) = ops.toArray.size by simp; omega] at this
    exact this
  · refine awpOps_sound (w0 := w0) (m0 := m0) (H0 := H0) (B := B) (n := n) (ops := ops) (ops.drop k) tl htl envF _ a' w' ?_ hK hq
    refine ⟨m', ⟨md.defers, md.size, fun t x hx => md.frame pl frr hx fun j sj hj _ => ?_⟩, md.st, (ad.trans adr).trans md.ad⟩
    rw [← hlen]; exact (List.getElem?_eq_some_iff.1 hj).1
end
end Go.Awp
