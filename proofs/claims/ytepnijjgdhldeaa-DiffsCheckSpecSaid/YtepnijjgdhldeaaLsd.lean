/- Regions that draw their order, part 4: the whole region. Generic in the program. -/
import Derived.Test.YtepnijjgdhldeaaLsc
namespace Go.Awp

theorem nW_append (x y : List IStmt) : nW (x ++ y) = nW x + nW y := by simp [nW]

theorem ssa_append : ∀ (x y : List IStmt), ssa (x ++ y) = true → ssa x = true ∧ ssa y = true ∧ (∀ s, s ∈ x → ∀ t, t ∈ slotsOf s → t ∉ dstsOf y) ∧ (∀ d, d ∈ dstsOf x → d ∉ dstsOf y)
  | [], y, h => ⟨rfl, h, by simp, by simp [dstsOf]⟩
  | s :: x, y, h => by
    simp only [List.cons_append, ssa, Bool.and_eq_true] at h ⊢
    obtain ⟨⟨h1, h2⟩, h3⟩ := h
    obtain ⟨p1, p2, p3, p4⟩ := ssa_append x y h3
    have hds : dstsOf (x ++ y) = dstsOf x ++ dstsOf y := by simp [dstsOf]
    have h1' : ∀ t, t ∈ slotsOf s → s.dst ≠ some t ∧ t ∉ dstsOf x ∧ t ∉ dstsOf y := fun t ht => by
      have := List.all_eq_true.1 h1 t ht
      rw [hds] at this
      simpa using this
    have h2' : ∀ d, s.dst = some d → d ∉ dstsOf x ∧ d ∉ dstsOf y := fun d e => by
      rw [e] at h2
      simp only [hds] at h2
      simpa using h2
    refine ⟨⟨⟨List.all_eq_true.2 fun t ht => ?_, ?_⟩, p1⟩, p2, fun s' hs' t ht => ?_, fun d hd => ?_⟩
    · have := h1' t ht
      simp [this.1, this.2.1]
    · cases hd : s.dst with
      | none => rfl
      | some d => simp [(h2' d hd).1]
    · rcases List.mem_cons.1 hs' with rfl | hs'
      · exact (h1' t ht).2.2
      · exact p3 s' hs' t ht
    · cases hsd : s.dst with
      | none =>
        have : dstsOf (s :: x) = dstsOf x := by simp [dstsOf, hsd]
        rw [this] at hd; exact p4 d hd
      | some d' =>
        have : dstsOf (s :: x) = d' :: dstsOf x := by simp [dstsOf, hsd]
        rw [this] at hd
        rcases List.mem_cons.1 hd with rfl | hd
        · exact (h2' d hsd).2
        · exact p4 d hd

theorem plan_of {P : Program} {pre post : List IStmt} {env : AEnv} {H : AHeap} {K : AEnv → AHeap → Prop} (hssa : ssa (pre ++ post) = true) (hpre : ∀ s, s ∈ pre → isW s = false) (h : awpD1 P pre [] (fun L env H => awpD2 post L [] K env H) env H) :
    ∃ envF G V hd, Plan P (pre ++ post) env H envF G V hd ∧ K envF (G (nW (pre ++ post))) := by
  obtain ⟨a1, a2, a3, a4⟩ := ssa_append pre post hssa
  obtain ⟨L', env1, X, Vs1, hs, e1⟩ := awpD1_ext pre _ _ _ _ a1 h
  obtain ⟨envF, G, Vs2, e2⟩ := awpD2_ext post _ _ _ _ _ a2 e1.post
  have hn0 : nW pre = 0 := by
    unfold nW
    rw [List.filter_eq_nil_iff.2 (fun s hs => by simp [hpre s hs])]; rfl
  have hn : nW (pre ++ post) = nW post := by rw [nW_append, hn0, Nat.zero_add]
  refine ⟨envF, G, fun i => ((Vs1 ++ Vs2)[i]?).getD (.tuple []), fun i => ((hs[i]?).getD none), ⟨⟨X, e2.start⟩, fun t ht => ?_, fun i s d hi hd => ?_, fun i s hi => ?_, fun i h hh => ?_, fun i j h hi hj h1 h2 => ?_⟩, by rw [hn]; exact e2.post⟩
  · have : dstsOf (pre ++ post) = dstsOf pre ++ dstsOf post := by simp [dstsOf]
    rw [this] at ht
    simp only [List.mem_append, not_or] at ht
    rw [e2.other t ht.2, e1.other t ht.1]
  · rcases Nat.lt_or_ge i pre.length with hl | hl
    · rw [List.getElem?_append_left hl] at hi
      have h1 : Vs1[i]? = some (Vs1[i]'(by rw [e1.lenV]; exact hl)) := List.getElem?_eq_getElem _
      have h2 : hs[i]? = some (hs[i]'(by rw [e1.lenh]; exact hl)) := List.getElem?_eq_getElem _
      have := (e1.info i s _ _ hi h1 h2).1 d hd
      rw [List.getElem?_append_left (by rw [e1.lenV]; exact hl), h1]
      rw [e2.other d (a4 d (List.mem_filterMap.2 ⟨s, List.mem_of_getElem? hi, hd⟩))]
      exact this
    · rw [List.getElem?_append_right hl] at hi
      have hlt := (List.getElem?_eq_some_iff.1 hi).1
      have h1 : Vs2[i - pre.length]? = some (Vs2[i - pre.length]'(by rw [e2.lenV]; exact hlt)) := List.getElem?_eq_getElem _
      have := (e2.info _ s _ hi h1).1 d hd
      rw [List.getElem?_append_right (by rw [e1.lenV]; exact hl), e1.lenV, h1]
      exact this
  · rcases Nat.lt_or_ge i pre.length with hl | hl
    · rw [List.getElem?_append_left hl] at hi
      have h1 : Vs1[i]? = some (Vs1[i]'(by rw [e1.lenV]; exact hl)) := List.getElem?_eq_getElem _
      have h2 : hs[i]? = some (hs[i]'(by rw [e1.lenh]; exact hl)) := List.getElem?_eq_getElem _
      have hinf := ((e1.info i s _ _ hi h1 h2).2).congr (e' := envF) (fun t ht => e2.other t (a3 s (List.mem_of_getElem? hi) t ht))
      have hV : ((Vs1 ++ Vs2)[i]?).getD (.tuple []) = Vs1[i]'(by rw [e1.lenV]; exact hl) := by
        rw [List.getElem?_append_left (by rw [e1.lenV]; exact hl), h1]; rfl
      have hH : ((hs[i]?).getD none) = hs[i]'(by rw [e1.lenh]; exact hl) := by rw [h2]; rfl
      simp only [hV, hH]
      rcases hinf with ⟨g1, g2, g3⟩ | ⟨g1, g2⟩
      · exact .inl ⟨g1, g2, g3, hpre s (List.mem_of_getElem? hi)⟩
      · refine .inr ⟨g1, ?_⟩
        cases hc : cls s.op <;> rw [hc] at g2
        · exact g2
        · refine ⟨g2.1, fun p hp hor => ?_⟩
          rcases Nat.eq_zero_or_pos p with h0 | h0
          · subst h0; rw [e2.start]; exact g2.2.1
          · exact e2.lok p h0 (by rw [hn] at hp; exact hp) _ (g2.2.2 (hor.resolve_right (by omega)))
        · rw [e2.start]; exact g2
        · rw [e2.start]; exact g2
        · exact g2.elim
    · rw [List.getElem?_append_right hl] at hi
      have hlt := (List.getElem?_eq_some_iff.1 hi).1
      have h1 : Vs2[i - pre.length]? = some (Vs2[i - pre.length]'(by rw [e2.lenV]; exact hlt)) := List.getElem?_eq_getElem _
      obtain ⟨_, hg, hinf⟩ := e2.info _ s _ hi h1
      have hV : ((Vs1 ++ Vs2)[i]?).getD (.tuple []) = Vs2[i - pre.length]'(by rw [e2.lenV]; exact hlt) := by
        rw [List.getElem?_append_right (by rw [e1.lenV]; exact hl), e1.lenV, h1]; rfl
      have hH : ((hs[i]?).getD none) = none := by rw [List.getElem?_eq_none (by rw [e1.lenh]; exact hl)]; rfl
      have hph : nW ((pre ++ post).take i) = nW (post.take (i - pre.length)) := by
        rw [List.take_append, List.take_of_length_le hl, nW_append, hn0, Nat.zero_add]
      simp only [hV, hH]
      refine .inr ⟨(fun q want e => by rw [hg] at e; cases e), ?_⟩
      cases hc : cls s.op <;> rw [hc] at hinf
      · exact ⟨trivial, hinf⟩
      · exact ⟨trivial, fun p hp _ => hinf.2 p (by rw [hn] at hp; exact hp)⟩
      · exact hinf.elim
      · exact hinf.elim
      · rw [hph]; exact ⟨trivial, hinf⟩
  · cases hx : hs[i]? with
    | none => rw [hx] at hh; cases hh
    | some y =>
      rw [hx] at hh
      simp only [Option.getD_some] at hh
      subst hh
      exact e1.fresh i h hx
  · have e : ∀ (k : Nat), ((hs[k]?).getD none) = some h → hs[k]? = some (some h) := by
      intro k hk
      cases hx : hs[k]? with
      | none => rw [hx] at hk; cases hk
      | some y => rw [hx] at hk; simp only [Option.getD_some] at hk; rw [hk]
    exact e1.inj i j h (e i h1) (e j h2)


/-- The order of the tail, all of the body done. -/
def doneArr (n k : Nat) : Array Bool := ((List.range n).map fun i => decide (i < k)).toArray

/-- The static look at a region that draws: its first so many operations in any order, the others behind them. -/
def drawChk (ops : List Oper) (ss : List IStmt) (k : Nat) (np : Nat) : Bool :=
  decide (k < ops.length) && Region.sinkB .any ops.toArray k && Region.chainB .any ops.toArray k && Region.seqB .any ops.toArray (ops.length - k) k (doneArr ops.length k) &&
  ssa ss && decide (np ≤ ss.length) && ((ss.take np).all fun s => !isW s) && ((ss.drop np).all fun s => !isAC s) &&
  ((List.range k).all fun i => ((ops[i]?).map fun o => o.after.all fun e => !Region.binds .any e || decide (e.on < i)).getD false) &&
  ((List.range k).all fun i => ((List.range k).all fun j => match ops[i]?, ss[i]?, ss[j]? with
    | some o, some s, some sj => (match sj.dst with
      | some t => !(slotsOf s).contains t || o.after.any fun e => Region.binds .any e && e.on == j
      | none => true)
    | _, _, _ => false)) &&
  ((List.range k).all fun i => match ss[i]? with
    | some s => !isW s || ((List.range k).all fun j => match ss[j]?, (ancs [] ops)[i]? with
      | some sj, some x => !(isAC sj || isW sj && decide (j < i)) || x.testBit j
      | _, _ => false)
    | none => false)

theorem countP_upd {p q : Nat → Bool} {i : Nat} : ∀ (l : List Nat), l.Nodup → i ∈ l → p i = true → q i = false → (∀ j, j ≠ i → q j = p j) → l.countP p = l.countP q + 1
  | [], _, h, _, _, _ => by simp at h
  | x :: l, hn, h, hp, hq, he => by
    rw [List.nodup_cons] at hn
    by_cases hx : x = i
    · subst hx
      have : l.countP p = l.countP q := by
        apply List.countP_congr
        intro j hj
        rw [he j (fun e => hn.1 (by rw [← e]; exact hj))]
      rw [List.countP_cons_of_pos hp, List.countP_cons_of_neg (by simp [hq]), this]
    · have hi : i ∈ l := by
        rcases List.mem_cons.1 h with e | e
        · exact absurd e.symm hx
        · exact e
      have ih := countP_upd l hn.2 hi hp hq he
      rw [List.countP_cons, List.countP_cons, he x hx, ih]; omega

section
variable {P : Program} {n : Nat} {lt : List Nat} {ops : List Oper} {ss : List IStmt}

theorem trStmts_get {u : Option (List Nat)} : ∀ (l : List Oper) (ss : List IStmt), trStmts P n u ops l = some ss → ss.length = l.length ∧ ∀ (i : Nat) (s : IStmt), ss[i]? = some s → ∃ o, l[i]? = some o ∧ trStmt P n u ops o = some s
  | [], ss, h => by cases h; exact ⟨rfl, by simp⟩
  | o :: l, ss, h => by
    simp only [trStmts] at h
    split at h
    · rename_i s r hs hr
      cases h
      obtain ⟨q1, q2⟩ := trStmts_get l r hr
      refine ⟨by simp [q1], fun i s' e => ?_⟩
      cases i with
      | zero => simp at e; subst e; exact ⟨o, rfl, hs⟩
      | succ i => exact q2 i s' (by simpa using e)
    · cases h

theorem body_of {k np : Nat} (hk : k ≤ ops.length) (htr : trStmts P n (some lt) ops (ops.take k) = some ss) (h : drawChk ops ss k np = true) : Body P n lt ops ss ∧ (∀ i o, i < k → ops[i]? = some o → ∀ e, e ∈ o.after → Region.binds .any e = true → e.on < i) := by
  obtain ⟨hl, hg⟩ := trStmts_get _ _ htr
  have hlen : ss.length = k := by rw [hl, List.length_take]; omega
  simp only [drawChk, Bool.and_eq_true] at h
  obtain ⟨⟨⟨⟨⟨⟨⟨⟨⟨⟨h0, h1⟩, h2⟩, h3⟩, h4⟩, h5⟩, h6⟩, h7⟩, h8⟩, h9⟩, h10⟩ := h
  have hlt : ∀ {i : Nat} {s : IStmt}, ss[i]? = some s → i < k := fun hi => by rw [← hlen]; exact (List.getElem?_eq_some_iff.1 hi).1
  refine ⟨⟨fun i s hi => ?_, fun i s hi t ht j sj hj hd => ?_, fun i j si sj d hi hj hdi hdj => ?_, fun i s hi hw j sj hj hcase => ?_⟩, fun i o hi ho e he hb => ?_⟩
  · obtain ⟨o, ho, ht⟩ := hg i s hi
    rw [List.getElem?_take_of_lt (hlt hi)] at ho
    exact ⟨o, ho, ht⟩
  · have := List.all_eq_true.1 (List.all_eq_true.1 h9 i (List.mem_range.2 (hlt hi))) j (List.mem_range.2 (hlt hj))
    obtain ⟨o, ho, _⟩ := hg i s hi
    rw [List.getElem?_take_of_lt (hlt hi)] at ho
    simp only [ho, hi, hj, hd, Bool.or_eq_true, Bool.not_eq_true'] at this
    refine ⟨o, ho, ?_⟩
    rcases this with h | h
    · have : (slotsOf s).contains t = true := by simpa using ht
      rw [this] at h; cases h
    · obtain ⟨e, he, hb⟩ := Array.any_eq_true'.1 h
      simp only [Bool.and_eq_true, beq_iff_eq] at hb
      exact ⟨e, he, hb.1, hb.2⟩
  · have key : ∀ (l : List IStmt), ssa l = true → ∀ (i j : Nat) si sj, i < j → l[i]? = some si → l[j]? = some sj → si.dst = some d → sj.dst = some d → False := by
      intro l
      induction l with
      | nil => intro _ i j si sj _ h; simp at h
      | cons s l ih =>
        intro hs i j si sj hij hi hj hdi hdj
        simp only [ssa, Bool.and_eq_true] at hs
        cases j with
        | zero => omega
        | succ j =>
          cases i with
          | zero =>
            simp at hi hj; subst hi
            have h2 := hs.1.2
            rw [hdi] at h2
            have : d ∈ dstsOf l := List.mem_filterMap.2 ⟨sj, List.mem_of_getElem? hj, hdj⟩
            simp [this] at h2
          | succ i => exact ih hs.2 i j si sj (by omega) (by simpa using hi) (by simpa using hj) hdi hdj
    rcases Nat.lt_trichotomy i j with hij | hij | hij
    · exact (key ss h4 i j si sj hij hi hj hdi hdj).elim
    · exact hij
    · exact (key ss h4 j i sj si hij hj hi hdj hdi).elim
  · have := List.all_eq_true.1 h10 i (List.mem_range.2 (hlt hi))
    simp only [hi, hw, Bool.not_true, Bool.false_or] at this
    have := List.all_eq_true.1 this j (List.mem_range.2 (hlt hj))
    split at this
    · rename_i sj' x hj' hx
      rw [hj] at hj'; cases hj'
      refine ⟨x, hx, ?_⟩
      simp only [Bool.or_eq_true, Bool.not_eq_true', Bool.or_eq_false_iff, Bool.and_eq_false_iff] at this
      rcases this with ⟨h1, h2⟩ | h
      · rcases hcase with hc | ⟨hc1, hc2⟩
        · rw [hc] at h1; cases h1
        · rcases h2 with h2 | h2
          · rw [hc1] at h2; cases h2
          · simp [hc2] at h2
      · exact h
    · cases this
  · have := List.all_eq_true.1 h8 i (List.mem_range.2 hi)
    rw [ho] at this
    simp only [Option.map_some, Option.getD_some] at this
    have := Array.all_eq_true_iff_forall_mem.1 this e he
    simpa [hb] using this
end
end Go.Awp
