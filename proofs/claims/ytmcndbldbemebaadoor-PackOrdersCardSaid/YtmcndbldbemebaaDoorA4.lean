/- Regions that draw their order: what is owed of them, part 2: what the walk in the text's order tells of each statement. Generic in the program. -/
import Derived.Test.YtmcndbldbemebaaDoorA3
set_option linter.unusedVariables false
set_option linter.unusedSimpArgs false
set_option linter.unusedSectionVars false
namespace Go.Awp
set_option linter.unusedSectionVars false
variable [Fx]
def slotsOf (s : IStmt) : List Nat := s.uses ++ (match s.guard with | some (g, _) => [g] | none => [])
def dstsOf (ss : List IStmt) : List Nat := ss.filterMap (·.dst)
def ssa : List IStmt → Bool
  | [] => true
  | s :: r => ((slotsOf s).all fun t => decide (s.dst ≠ some t) && !(dstsOf r).contains t) && (match s.dst with | some d => !(dstsOf r).contains d | none => true) && ssa r
theorem trim_congr {e e' : AEnv} : ∀ (k : List Nat), (∀ t, t ∈ k → AEnv.get e t = AEnv.get e' t) → AEnv.trim e k = AEnv.trim e' k
  | [], _ => rfl
  | t :: k, h => by
    simp only [AEnv.trim, h t (by simp), trim_congr k (fun t ht => h t (by simp [ht]))]
theorem get_envput_ne {d : Option Nat} {x : AV} {env : AEnv} {t : Nat} (h : d ≠ some t) : AEnv.get (envput d x env) t = AEnv.get env t := by
  cases d with
  | none => rfl
  | some d =>
    simp only [envput, AEnv.get]
    rw [if_neg (fun e => h (by rw [e]))]
theorem get_envput_eq {d : Nat} {x : AV} {env : AEnv} : AEnv.get (envput (some d) x env) d = some x := by simp [envput, AEnv.get]
def GOn (g : Option (Nat × Bool)) (env : AEnv) : Prop := ∀ s want, g = some (s, want) → AEnv.get env s = some (.bool want)
def GOff (g : Option (Nat × Bool)) (env : AEnv) : Prop := ∃ s want, g = some (s, want) ∧ (AEnv.get env s = some (.bool (!want)) ∨ AEnv.get env s = some (.tuple []))
theorem guardD_cases {g : Option (Nat × Bool)} {env : AEnv} {on off : AEnv → Prop} (h : guardD g env on off) : ∃ env1 : AEnv, (∀ t, AEnv.get env1 t = AEnv.get env t) ∧ (GOn g env1 ∧ on env1 ∨ GOff g env1 ∧ off env1) := by
  have over : ∀ (s : Nat) (x : AV), AEnv.get env s = some x → ∀ t, AEnv.get ((s, x) :: env) t = AEnv.get env t := by
    intro s x hx t
    simp only [AEnv.get]
    split
    · rename_i h; subst h; exact hx.symm
    · rfl
  unfold guardD at h
  split at h
  · exact ⟨env, fun _ => rfl, .inl ⟨(fun _ _ e => by cases e), h⟩⟩
  · rename_i s want
    split at h
    · rename_i c hc
      by_cases hw : c = want
      · subst hw
        exact ⟨_, over s _ hc, .inl ⟨(fun _ _ e => by cases e; simp [AEnv.get]), h.1 rfl⟩⟩
      · have hw' : c = !want := by cases c <;> cases want <;> simp_all
        subst hw'
        exact ⟨_, over s _ hc, .inr ⟨⟨s, want, rfl, .inl (by simp [AEnv.get])⟩, h.2 rfl⟩⟩
    · rename_i hc
      exact ⟨env, fun _ => rfl, .inr ⟨⟨s, want, rfl, .inr hc⟩, h⟩⟩
    · exact h.elim
/-- What is known of a statement ahead of the first write. -/
def Info1 (P : Program) (s : IStmt) (envF : AEnv) (G : AHeap) (L : List (IOp × AEnv × AV)) (V : AV) (hd : Option Nat) : Prop :=
  (GOff s.guard envF ∧ V = .tuple [] ∧ hd = none) ∨ (GOn s.guard envF ∧ match cls s.op with
    | .pure => hd = none ∧ ∀ H, qstep s.op (AEnv.trim envF s.uses) H = some (.val V)
    | .load => hd = none ∧ qstep s.op (AEnv.trim envF s.uses) G = some (.val V) ∧ (s.late = true → (s.op, AEnv.trim envF s.uses, V) ∈ L)
    | .alloc => ∃ h, hd = some h ∧ ((∃ e sz cells, qstep s.op (AEnv.trim envF s.uses) G = some (.box e sz cells) ∧ AHeap.obj G h = some ⟨e, sz, [cells]⟩ ∧ V = .ptr h 1 0 0) ∨
        (∃ e sz els, qstep s.op (AEnv.trim envF s.uses) G = some (.arr e sz els) ∧ AHeap.obj G h = some ⟨e, sz, els⟩ ∧ V = .own h els.length 0 els.length))
    | .call => (hd = none ∧ ∃ f vs ys, target P s.op (AEnv.trim envF s.uses) = some (f, vs) ∧ FrzL G vs ys ∧ PCall P f ys V) ∨
        (∃ h, hd = some h ∧ ∃ f vs ys e sz els, target P s.op (AEnv.trim envF s.uses) = some (f, vs) ∧ FrzL G vs ys ∧ NCall P f ys e sz els ∧ AHeap.obj G h = some ⟨e, sz, els⟩ ∧ V = .own h els.length 0 els.length)
    | .write => False)
theorem GOn.congr {g : Option (Nat × Bool)} {e e' : AEnv} (h : GOn g e) (he : ∀ s want, g = some (s, want) → AEnv.get e' s = AEnv.get e s) : GOn g e' := fun s want hg => (he s want hg).trans (h s want hg)
theorem GOff.congr {g : Option (Nat × Bool)} {e e' : AEnv} (h : GOff g e) (he : ∀ s want, g = some (s, want) → AEnv.get e' s = AEnv.get e s) : GOff g e' := by
  obtain ⟨s, want, hg, hh⟩ := h
  exact ⟨s, want, hg, by rw [he s want hg]; exact hh⟩
theorem Info1.congr {P s e e' G L V hd} (h : Info1 P s e G L V hd) (he : ∀ t, t ∈ slotsOf s → AEnv.get e' t = AEnv.get e t) : Info1 P s e' G L V hd := by
  have hg : ∀ q want, s.guard = some (q, want) → AEnv.get e' q = AEnv.get e q := fun q want hq => he q (by simp [slotsOf, hq])
  have ht : AEnv.trim e' s.uses = AEnv.trim e s.uses := trim_congr _ fun t ht => he t (by simp [slotsOf, ht])
  rcases h with ⟨h1, h2⟩ | ⟨h1, h2⟩
  · exact .inl ⟨h1.congr hg, h2⟩
  · exact .inr ⟨h1.congr hg, by rw [ht]; exact h2⟩
structure Ext1 (P : Program) (ss : List IStmt) (L : List (IOp × AEnv × AV)) (K : List (IOp × AEnv × AV) → AEnv → AHeap → Prop) (env : AEnv) (H : AHeap) (L' : List (IOp × AEnv × AV)) (envF : AEnv) (X : AHeap) (Vs : List AV) (hs : List (Option Nat)) : Prop where
  post : K L' envF (H ++ X)
  sub : ∀ t, t ∈ L → t ∈ L'
  lenV : Vs.length = ss.length
  lenh : hs.length = ss.length
  other : ∀ t, t ∉ dstsOf ss → AEnv.get envF t = AEnv.get env t
  info : ∀ (i : Nat) s V hd, ss[i]? = some s → Vs[i]? = some V → hs[i]? = some hd → (∀ d, s.dst = some d → AEnv.get envF d = some V) ∧ Info1 P s envF (H ++ X) L' V hd
  fresh : ∀ (i h : Nat), hs[i]? = some (some h) → H.length ≤ h
  inj : ∀ (i j h : Nat), hs[i]? = some (some h) → hs[j]? = some (some h) → i = j
  lok : ∀ t, t ∈ L' → t ∈ L ∨ qstep t.1 t.2.1 (H ++ X) = some (.val t.2.2)
theorem mem_dsts {s : IStmt} {r : List IStmt} {t : Nat} : t ∉ dstsOf (s :: r) ↔ s.dst ≠ some t ∧ t ∉ dstsOf r := by
  unfold dstsOf
  cases hd : s.dst with
  | none => simp [hd]
  | some d => simp [hd, eq_comm]
theorem awpD1_ext {P : Program} : ∀ (ss : List IStmt) (L : List (IOp × AEnv × AV)) (K : List (IOp × AEnv × AV) → AEnv → AHeap → Prop) (env : AEnv) (H : AHeap), ssa ss = true → awpD1 P ss L K env H → ∃ L' envF X Vs hs, Ext1 P ss L K env H L' envF X Vs hs
  | [], L, K, env, H, _, h => ⟨L, env, [], [], [], by rw [List.append_nil]; exact h, fun _ h => h, rfl, rfl, fun _ _ => rfl, by simp, by simp, by simp, fun t ht => .inl ht⟩
  | s :: r, L, K, env, H, hssa, h => by
    simp only [ssa, Bool.and_eq_true] at hssa
    obtain ⟨⟨hu, hd⟩, hr⟩ := hssa
    have huse : ∀ t, t ∈ slotsOf s → s.dst ≠ some t ∧ t ∉ dstsOf r := fun t ht => by
      have := List.all_eq_true.1 hu t ht
      simpa using this
    have hdst : ∀ d, s.dst = some d → d ∉ dstsOf r := fun d e => by rw [e] at hd; simpa using hd
    -- one step, and the rest
    have step : ∀ (env1 : AEnv) (V : AV) (hd : Option Nat) (L1 : List (IOp × AEnv × AV)) (X1 : AHeap), (∀ t, AEnv.get env1 t = AEnv.get env t) → (∀ t, t ∈ L → t ∈ L1) → awpD1 P r L1 K (envput s.dst V env1) (H ++ X1) →
        (∀ envF X L', (∀ t, t ∈ slotsOf s → AEnv.get envF t = AEnv.get env1 t) → (∀ t, t ∈ L1 → t ∈ L') → Info1 P s envF (H ++ X1 ++ X) L' V hd) → (∀ h, hd = some h → H.length ≤ h ∧ h < (H ++ X1).length) →
        (∀ t, t ∈ L1 → t ∈ L ∨ ∀ X, qstep t.1 t.2.1 (H ++ X1 ++ X) = some (.val t.2.2)) →
        ∃ L' envF X Vs hs, Ext1 P (s :: r) L K env H L' envF X Vs hs := by
      intro env1 V hd L1 X1 he1 hsub hrest hinfo hfr hlok
      obtain ⟨L', envF, X, Vs, hs, ex⟩ := awpD1_ext r L1 K _ _ hr hrest
      have hget : ∀ t, t ∈ slotsOf s → AEnv.get envF t = AEnv.get env1 t := fun t ht => by
        rw [ex.other t (huse t ht).2, get_envput_ne (huse t ht).1]
      refine ⟨L', envF, X1 ++ X, V :: Vs, hd :: hs, ?_, fun t ht => ex.sub t (hsub t ht), by simp [ex.lenV], by simp [ex.lenh], fun t ht => ?_, fun i s' V' hd' a1 a2 a3 => ?_, fun i h a1 => ?_, fun i j h a1 a2 => ?_, fun t ht => ?_⟩
      · have := ex.post; rwa [List.append_assoc] at this
      · obtain ⟨h1, h2⟩ := mem_dsts.1 ht
        rw [ex.other t h2, get_envput_ne h1, he1]
      · cases i with
        | zero =>
          simp at a1 a2 a3; subst a1; subst a2; subst a3
          refine ⟨fun d e => ?_, ?_⟩
          · rw [ex.other d (hdst d e), e, get_envput_eq]
          · have := hinfo envF X L' hget ex.sub
            rwa [List.append_assoc] at this
        | succ i =>
          have := ex.info i s' V' hd' (by simpa using a1) (by simpa using a2) (by simpa using a3)
          rwa [List.append_assoc] at this
      · cases i with
        | zero => simp at a1; exact (hfr h a1).1
        | succ i =>
          have := ex.fresh i h (by simpa using a1)
          simp at this; omega
      · cases i with
        | zero =>
          cases j with
          | zero => rfl
          | succ j =>
            simp at a1
            have h1 := (hfr h a1).2
            have h2 := ex.fresh j h (by simpa using a2)
            omega
        | succ i =>
          cases j with
          | zero =>
            simp at a2
            have h1 := (hfr h a2).2
            have h2 := ex.fresh i h (by simpa using a1)
            omega
          | succ j => have := ex.inj i j h (by simpa using a1) (by simpa using a2); omega
      · rcases ex.lok t ht with h1 | h1
        · rcases hlok t h1 with h2 | h2
          · exact .inl h2
          · have := h2 X; rw [List.append_assoc] at this; exact .inr this
        · rw [List.append_assoc] at h1; exact .inr h1
    simp only [awpD1] at h
    obtain ⟨env1, he1, ⟨hg, h⟩ | ⟨hg, h⟩⟩ := guardD_cases h
    · have tr : ∀ envF : AEnv, (∀ t, t ∈ slotsOf s → AEnv.get envF t = AEnv.get env1 t) → AEnv.trim envF s.uses = AEnv.trim env1 s.uses ∧ GOn s.guard envF := fun envF hge =>
        ⟨trim_congr _ fun t ht => hge t (by simp [slotsOf, ht]), hg.congr fun q want hq => hge q (by simp [slotsOf, hq])⟩
      split at h
      · rename_i hc
        split at h
        · rename_i v hv
          refine step env1 v none L [] he1 (fun _ h => h) (by simpa using h) (fun envF X L' hge hsub => .inr ⟨(tr envF hge).2, ?_⟩) (by simp) (fun t ht => .inl ht)
          rw [hc, (tr envF hge).1]
          exact ⟨rfl, fun H' => by rw [qstep_indep (.inl hc) _ H' H]; exact hv⟩
        · exact h.elim
      · rename_i hc
        split at h
        · rename_i v hv
          refine step env1 v none (if s.late then (s.op, AEnv.trim env1 s.uses, v) :: L else L) [] he1 (fun _ h => by split <;> simp [h]) (by simpa using h) (fun envF X L' hge hsub => .inr ⟨(tr envF hge).2, ?_⟩) (by simp) (fun t ht => ?_)
          · rw [hc, (tr envF hge).1]
            exact ⟨rfl, by rw [List.append_nil]; exact qstep_push hc hv X, fun hl => hsub _ (by simp [hl])⟩
          · split at ht
            · rcases List.mem_cons.1 ht with rfl | ht
              · exact .inr fun X => by rw [List.append_nil]; exact qstep_push hc hv X
              · exact .inl ht
            · exact .inl ht
        · exact h.elim
      · rename_i hc
        split at h
        · rename_i e sz cells hv
          refine step env1 _ (some H.length) L [some ⟨e, sz, [cells]⟩] he1 (fun _ h => h) h (fun envF X L' hge hsub => .inr ⟨(tr envF hge).2, ?_⟩) (fun h' e => by cases e; simp) (fun t ht => .inl ht)
          rw [hc, (tr envF hge).1]
          exact ⟨_, rfl, .inl ⟨e, sz, cells, by rw [qstep_indep (.inr hc) _ _ H]; exact hv, by rw [AHeap.obj_push_lt (by simp)]; exact AHeap.obj_push_eq, rfl⟩⟩
        · rename_i e sz els hv
          refine step env1 _ (some H.length) L [some ⟨e, sz, els⟩] he1 (fun _ h => h) h (fun envF X L' hge hsub => .inr ⟨(tr envF hge).2, ?_⟩) (fun h' e => by cases e; simp) (fun t ht => .inl ht)
          rw [hc, (tr envF hge).1]
          exact ⟨_, rfl, .inr ⟨e, sz, els, by rw [qstep_indep (.inr hc) _ _ H]; exact hv, by rw [AHeap.obj_push_lt (by simp)]; exact AHeap.obj_push_eq, rfl⟩⟩
        · exact h.elim
      · rename_i hc
        split at h
        · rename_i f vs hv
          rcases h with ⟨ys, r', hf, hp, h⟩ | ⟨ys, e, sz, els, hf, hp, h⟩
          · refine step env1 r' none L [] he1 (fun _ h => h) (by simpa using h) (fun envF X L' hge hsub => .inr ⟨(tr envF hge).2, ?_⟩) (by simp) (fun t ht => .inl ht)
            rw [hc, (tr envF hge).1]
            exact .inl ⟨rfl, f, vs, ys, hv, by rw [List.append_nil]; exact hf X, hp⟩
          · refine step env1 _ (some H.length) L [some ⟨e, sz, els⟩] he1 (fun _ h => h) h (fun envF X L' hge hsub => .inr ⟨(tr envF hge).2, ?_⟩) (fun h' e => by cases e; simp) (fun t ht => .inl ht)
            rw [hc, (tr envF hge).1]
            exact .inr ⟨_, rfl, f, vs, ys, e, sz, els, hv, by rw [List.append_assoc]; exact hf _, hp, by rw [AHeap.obj_push_lt (by simp)]; exact AHeap.obj_push_eq, rfl⟩
        · exact h.elim
      · exact h.elim
    · refine step env1 (.tuple []) none L [] he1 (fun _ h => h) (by simpa using h) (fun envF X L' hge hsub => .inl ⟨hg.congr fun q want hq => hge q (by simp [slotsOf, hq]), rfl, rfl⟩) (by simp) (fun t ht => .inl ht)
/-- What is known of a statement from the first write on. -/
def Info2 (s : IStmt) (envF : AEnv) (Ps : List AHeap) (N : Nat) (G : Nat → AHeap) (ph : Nat) (V : AV) : Prop :=
  s.guard = none ∧ match cls s.op with
    | .pure => ∀ H, qstep s.op (AEnv.trim envF s.uses) H = some (.val V)
    | .load => (∀ H, H ∈ Ps → qstep s.op (AEnv.trim envF s.uses) H = some (.val V)) ∧ ∀ p, p ≤ N → qstep s.op (AEnv.trim envF s.uses) (G p) = some (.val V)
    | .write => ∃ x, sstep s.op (AEnv.trim envF s.uses) (G ph) = some (x, G (ph + 1)) ∧ V = x.getD (.tuple [])
    | _ => False
def isW (s : IStmt) : Bool := match cls s.op with | .write => true | _ => false
def nW (ss : List IStmt) : Nat := (ss.filter isW).length
structure Ext2 (ss : List IStmt) (L : List (IOp × AEnv × AV)) (Ps : List AHeap) (K : AEnv → AHeap → Prop) (env : AEnv) (H : AHeap) (envF : AEnv) (G : Nat → AHeap) (Vs : List AV) : Prop where
  start : G 0 = H
  post : K envF (G (nW ss))
  lenV : Vs.length = ss.length
  other : ∀ t, t ∉ dstsOf ss → AEnv.get envF t = AEnv.get env t
  info : ∀ (i : Nat) s V, ss[i]? = some s → Vs[i]? = some V → (∀ d, s.dst = some d → AEnv.get envF d = some V) ∧ Info2 s envF Ps (nW ss) G (nW (ss.take i)) V
  lok : ∀ p, 0 < p → p ≤ nW ss → ∀ t, t ∈ L → qstep t.1 t.2.1 (G p) = some (.val t.2.2)
theorem Info2.congr {s e e' Ps N G ph V} (h : Info2 s e Ps N G ph V) (he : ∀ t, t ∈ s.uses → AEnv.get e' t = AEnv.get e t) : Info2 s e' Ps N G ph V := by
  unfold Info2 at *
  rw [trim_congr (e := e') (e' := e) _ he]
  exact h
theorem awpD2_ext : ∀ (ss : List IStmt) (L : List (IOp × AEnv × AV)) (Ps : List AHeap) (K : AEnv → AHeap → Prop) (env : AEnv) (H : AHeap), ssa ss = true → awpD2 ss L Ps K env H → ∃ envF G Vs, Ext2 ss L Ps K env H envF G Vs
  | [], L, Ps, K, env, H, _, h => ⟨env, fun _ => H, [], rfl, h, rfl, fun _ _ => rfl, by simp, fun p h1 h2 => by simp [nW] at h2; omega⟩
  | s :: r, L, Ps, K, env, H, hssa, h => by
    simp only [ssa, Bool.and_eq_true] at hssa
    obtain ⟨⟨hu, hd⟩, hr⟩ := hssa
    have huse : ∀ t, t ∈ s.uses → s.dst ≠ some t ∧ t ∉ dstsOf r := fun t ht => by
      have := List.all_eq_true.1 hu t (by simp [slotsOf, ht])
      simpa using this
    have hdst : ∀ d, s.dst = some d → d ∉ dstsOf r := fun d e => by rw [e] at hd; simpa using hd
    simp only [awpD2] at h
    split at h
    · rename_i hg hc
      split at h
      · rename_i v hv
        obtain ⟨envF, G, Vs, ex⟩ := awpD2_ext r L Ps K _ _ hr h
        have hW : isW s = false := by unfold isW; rw [hc]
        have hget : ∀ t, t ∈ s.uses → AEnv.get envF t = AEnv.get env t := fun t ht => by
          rw [ex.other t (huse t ht).2, get_envput_ne (huse t ht).1]
        have hn : ∀ l, nW (s :: l) = nW l := fun l => by simp [nW, hW]
        refine ⟨envF, G, v :: Vs, ex.start, by rw [hn]; exact ex.post, by simp [ex.lenV], fun t ht => ?_, fun i s' V' a1 a2 => ?_, by rw [hn]; exact ex.lok⟩
        · obtain ⟨h1, h2⟩ := mem_dsts.1 ht
          rw [ex.other t h2, get_envput_ne h1]
        · cases i with
          | zero =>
            simp at a1 a2; subst a1; subst a2
            refine ⟨fun d e => by rw [ex.other d (hdst d e), e, get_envput_eq], hg, ?_⟩
            rw [hc, trim_congr _ hget]
            exact fun H' => by rw [qstep_indep (.inl hc) _ H' H]; exact hv
          | succ i =>
            rw [List.take_succ_cons, hn, hn]
            exact ex.info i s' V' (by simpa using a1) (by simpa using a2)
      · exact h.elim
    · rename_i hg hc
      split at h
      · rename_i v hv
        obtain ⟨envF, G, Vs, ex⟩ := awpD2_ext r ((s.op, AEnv.trim env s.uses, v) :: L) Ps K _ _ hr h.2
        have hW : isW s = false := by unfold isW; rw [hc]
        have hget : ∀ t, t ∈ s.uses → AEnv.get envF t = AEnv.get env t := fun t ht => by
          rw [ex.other t (huse t ht).2, get_envput_ne (huse t ht).1]
        have hn : ∀ l, nW (s :: l) = nW l := fun l => by simp [nW, hW]
        refine ⟨envF, G, v :: Vs, ex.start, by rw [hn]; exact ex.post, by simp [ex.lenV], fun t ht => ?_, fun i s' V' a1 a2 => ?_, fun p h1 h2 t ht => ex.lok p h1 (by rw [hn] at h2; exact h2) t (by simp [ht])⟩
        · obtain ⟨h1, h2⟩ := mem_dsts.1 ht
          rw [ex.other t h2, get_envput_ne h1]
        · cases i with
          | zero =>
            simp at a1 a2; subst a1; subst a2
            refine ⟨fun d e => by rw [ex.other d (hdst d e), e, get_envput_eq], hg, ?_⟩
            rw [hc, trim_congr _ hget]
            refine ⟨h.1, fun p hp => ?_⟩
            rw [hn] at hp
            cases p with
            | zero => rw [ex.start]; exact hv
            | succ p => exact ex.lok (p + 1) (by omega) hp (s.op, AEnv.trim env s.uses, v) (by simp)
          | succ i =>
            rw [List.take_succ_cons, hn, hn]
            exact ex.info i s' V' (by simpa using a1) (by simpa using a2)
      · exact h.elim
    · rename_i hg hc
      split at h
      · rename_i x H' hv
        obtain ⟨envF, G, Vs, ex⟩ := awpD2_ext r L (H :: Ps) K _ _ hr h.2
        have hW : isW s = true := by unfold isW; rw [hc]
        have hget : ∀ t, t ∈ s.uses → AEnv.get envF t = AEnv.get env t := fun t ht => by
          rw [ex.other t (huse t ht).2, get_envput_ne (huse t ht).1]
        have hn : ∀ l, nW (s :: l) = nW l + 1 := fun l => by simp [nW, hW]
        let G' : Nat → AHeap := fun p => match p with | 0 => H | p + 1 => G p
        refine ⟨envF, G', (x.getD (.tuple [])) :: Vs, rfl, by rw [hn]; exact ex.post, by simp [ex.lenV], fun t ht => ?_, fun i s' V' a1 a2 => ?_, fun p h1 h2 t ht => ?_⟩
        · obtain ⟨h1, h2⟩ := mem_dsts.1 ht
          rw [ex.other t h2, get_envput_ne h1]
        · cases i with
          | zero =>
            simp at a1 a2; subst a1; subst a2
            refine ⟨fun d e => by rw [ex.other d (hdst d e), e, get_envput_eq], hg, ?_⟩
            rw [hc, trim_congr _ hget]
            exact ⟨x, by show sstep s.op _ H = some (x, G 0); rw [ex.start]; exact hv, rfl⟩
          | succ i =>
            rw [List.take_succ_cons, hn, hn]
            obtain ⟨j1, j2, j3⟩ := ex.info i s' V' (by simpa using a1) (by simpa using a2)
            refine ⟨j1, j2, ?_⟩
            generalize hcl : cls s'.op = cl at j3 ⊢
            cases cl with
            | pure => exact j3
            | load =>
              refine ⟨fun Q hQ => j3.1 Q (by simp [hQ]), fun p hp => ?_⟩
              cases p with
              | zero => exact j3.1 H (by simp)
              | succ p => exact j3.2 p (by omega)
            | alloc => exact j3
            | call => exact j3
            | write => exact j3
        · cases p with
          | zero => omega
          | succ p =>
            rw [hn] at h2
            show qstep t.1 t.2.1 (G p) = _
            cases p with
            | zero => rw [ex.start]; exact h.1 t ht
            | succ p => exact ex.lok (p + 1) (by omega) (by omega) t ht
      · exact h.elim
    · exact h.elim
end Go.Awp
/- Regions that draw their order, part 3: whatever the order. Generic in the program. -/
namespace Go.Awp
set_option linter.unusedSectionVars false
variable [Fx]
def isAC (s : IStmt) : Bool := match cls s.op with | .alloc | .call => true | .load => !s.late | _ => false
theorem nW_succ {ss : List IStmt} {i : Nat} {s : IStmt} (h : ss[i]? = some s) : nW (ss.take (i + 1)) = nW (ss.take i) + (if isW s then 1 else 0) := by
  have hlt : i < ss.length := (List.getElem?_eq_some_iff.1 h).1
  have he : ss[i] = s := (List.getElem?_eq_some_iff.1 h).2
  rw [List.take_succ_eq_append_getElem hlt, he]
  unfold nW
  rw [List.filter_append, List.length_append]
  cases hw : isW s <;> simp [hw]
theorem nW_mono (ss : List IStmt) : ∀ (d i : Nat), nW (ss.take i) ≤ nW (ss.take (i + d))
  | 0, i => Nat.le_refl _
  | d + 1, i => by
    refine Nat.le_trans (nW_mono ss d i) ?_
    cases h : ss[i + d]? with
    | some s => rw [← Nat.add_assoc, nW_succ h]; omega
    | none =>
      have := List.getElem?_eq_none_iff.1 h
      rw [List.take_of_length_le this, List.take_of_length_le (by omega)]
      exact Nat.le_refl _
theorem nW_lt {ss : List IStmt} {j k : Nat} {s : IStmt} (hj : ss[j]? = some s) (hw : isW s = true) (h : j < k) : nW (ss.take j) < nW (ss.take k) := by
  have h1 := nW_succ hj
  rw [if_pos hw] at h1
  have h2 := nW_mono ss (k - (j + 1)) (j + 1)
  rw [show j + 1 + (k - (j + 1)) = k by omega] at h2
  omega
theorem nW_find {ss : List IStmt} : ∀ (k q : Nat), q < nW (ss.take k) → ∃ j s, j < k ∧ ss[j]? = some s ∧ isW s = true ∧ nW (ss.take j) = q
  | 0, q, h => by simp [nW] at h
  | k + 1, q, h => by
    cases hk : ss[k]? with
    | none =>
      have := List.getElem?_eq_none_iff.1 hk
      rw [List.take_of_length_le (by omega)] at h
      obtain ⟨j, s, h1, h2⟩ := nW_find (ss := ss) k q (by rw [List.take_of_length_le this]; exact h)
      exact ⟨j, s, by omega, h2⟩
    | some s =>
      rw [nW_succ hk] at h
      by_cases hq : q < nW (ss.take k)
      · obtain ⟨j, s', h1, h2⟩ := nW_find (ss := ss) k q hq
        exact ⟨j, s', by omega, h2⟩
      · split at h
        · rename_i hw
          exact ⟨k, s, by omega, hk, hw, by omega⟩
        · omega
/-- What the walk in the text's order has told of all statements of a body. -/
structure Plan (P : Program) (ss : List IStmt) (envS : AEnv) (H : AHeap) (envF : AEnv) (G : Nat → AHeap) (V : Nat → AV) (hd : Nat → Option Nat) : Prop where
  g0 : ∃ X, G 0 = H ++ X
  other : ∀ t, t ∉ dstsOf ss → AEnv.get envF t = AEnv.get envS t
  dst : ∀ (i : Nat) (s : IStmt) (d : Nat), ss[i]? = some s → s.dst = some d → AEnv.get envF d = some (V i)
  info : ∀ (i : Nat) (s : IStmt), ss[i]? = some s → (GOff s.guard envF ∧ V i = .tuple [] ∧ hd i = none ∧ isW s = false) ∨ (GOn s.guard envF ∧ match cls s.op with
    | .pure => hd i = none ∧ ∀ H, qstep s.op (AEnv.trim envF s.uses) H = some (.val (V i))
    | .load => hd i = none ∧ ∀ p, p ≤ nW ss → (s.late = true ∨ p = 0) → qstep s.op (AEnv.trim envF s.uses) (G p) = some (.val (V i))
    | .alloc => ∃ h, hd i = some h ∧ ((∃ e sz cells, qstep s.op (AEnv.trim envF s.uses) (G 0) = some (.box e sz cells) ∧ AHeap.obj (G 0) h = some ⟨e, sz, [cells]⟩ ∧ V i = .ptr h 1 0 0) ∨
        (∃ e sz els, qstep s.op (AEnv.trim envF s.uses) (G 0) = some (.arr e sz els) ∧ AHeap.obj (G 0) h = some ⟨e, sz, els⟩ ∧ V i = .own h els.length 0 els.length))
    | .call => (hd i = none ∧ ∃ f vs ys, target P s.op (AEnv.trim envF s.uses) = some (f, vs) ∧ FrzL (G 0) vs ys ∧ PCall P f ys (V i)) ∨
        (∃ h, hd i = some h ∧ ∃ f vs ys e sz els, target P s.op (AEnv.trim envF s.uses) = some (f, vs) ∧ FrzL (G 0) vs ys ∧ NCall P f ys e sz els ∧ AHeap.obj (G 0) h = some ⟨e, sz, els⟩ ∧ V i = .own h els.length 0 els.length)
    | .write => hd i = none ∧ ∃ x, sstep s.op (AEnv.trim envF s.uses) (G (nW (ss.take i))) = some (x, G (nW (ss.take i) + 1)) ∧ V i = x.getD (.tuple []))
  fresh : ∀ i h, hd i = some h → H.length ≤ h
  inj : ∀ i j h, i < ss.length → j < ss.length → hd i = some h → hd j = some h → i = j
/-- The static look at a body. -/
structure Body (P : Program) (n : Nat) (lt : List Nat) (ops : List Oper) (ss : List IStmt) : Prop where
  tr : ∀ (i : Nat) (s : IStmt), ss[i]? = some s → ∃ o, ops[i]? = some o ∧ trStmt P n (some lt) ops o = some s
  avail : ∀ (i : Nat) (s : IStmt), ss[i]? = some s → ∀ t, t ∈ slotsOf s → ∀ (j : Nat) (sj : IStmt), ss[j]? = some sj → sj.dst = some t → ∃ o, ops[i]? = some o ∧ ∃ e, e ∈ o.after ∧ Region.binds .any e = true ∧ e.on = j
  dinj : ∀ (i j : Nat) (si sj : IStmt) (d : Nat), ss[i]? = some si → ss[j]? = some sj → si.dst = some d → sj.dst = some d → i = j
  word : ∀ (k : Nat) (sk : IStmt), ss[k]? = some sk → isW sk = true → ∀ (j : Nat) (sj : IStmt), ss[j]? = some sj → (isAC sj = true ∨ isW sj = true ∧ j < k) → ∃ x, (ancs [] ops)[k]? = some x ∧ x.testBit j = true
/-- What holds in the midst of a body, some statements done. -/
structure Mid (P : Program) (n : Nat) (ss : List IStmt) (wS : World) (mS : AMap) (HS : AHeap) (B : Nat) (aS : Act) (envF : AEnv) (G : Nat → AHeap) (V : Nat → AV) (hd : Nat → Option Nat) (done : Nat → Prop) (a : Act) (w : World) (p : Nat) (m : AMap) : Prop where
  st : St w m (G p) B
  ad : Adv wS mS HS w m (G p)
  defers : a.defers = []
  size : a.tmps.size = n
  vals : ∀ (i : Nat) (s : IStmt) (d : Nat), ss[i]? = some s → done i → s.dst = some d → ∃ v, a.tmps[d]? = some v ∧ RV w m (G p) B (V i) v
  rest : ∀ t, (∀ (i : Nat) (s : IStmt), ss[i]? = some s → done i → s.dst ≠ some t) → a.tmps[t]? = aS.tmps[t]?
  free : ∀ i h, i < ss.length → ¬ done i → hd i = some h → m h = none
  phle : p ≤ nW ss
  ph : ∀ (k : Nat) (s : IStmt), ss[k]? = some s → isW s = true → (done k ↔ nW (ss.take k) < p)
  late : 0 < p → ∀ (i : Nat) (s : IStmt), ss[i]? = some s → isAC s = true → done i
section
variable {P : Program} {n : Nat} {lt : List Nat} {ops : List Oper} {ss : List IStmt} {wS : World} {mS : AMap} {HS : AHeap} {B : Nat} {aS : Act} {envS envF : AEnv} {G : Nat → AHeap} {V : Nat → AV} {hd : Nat → Option Nat} {done : Nat → Prop} {a : Act} {w : World} {p : Nat} {m : AMap}
theorem Mid.frame (pl : Plan P ss envS HS envF G V hd) (fr : FR n wS mS HS B envS aS) (md : Mid P n ss wS mS HS B aS envF G V hd done a w p m) {t : Nat} {x : AV} (hx : AEnv.get envF t = some x) (hav : ∀ (j : Nat) (sj : IStmt), ss[j]? = some sj → sj.dst = some t → done j) :
    ∃ v, a.tmps[t]? = some v ∧ RV w m (G p) B x v := by
  by_cases ht : t ∈ dstsOf ss
  · obtain ⟨s, hs, hd'⟩ := List.mem_filterMap.1 ht
    obtain ⟨j, hj⟩ := List.mem_iff_getElem?.1 hs
    obtain ⟨v, h1, h2⟩ := md.vals j s t hj (hav j s hj hd') hd'
    have := pl.dst j s t hj hd'
    rw [this] at hx; cases hx
    exact ⟨v, h1, h2⟩
  · rw [pl.other t ht] at hx
    obtain ⟨v, h1, h2⟩ := fr.slots t x hx
    refine ⟨v, ?_, h2.mono md.ad⟩
    rw [md.rest t (fun i s hi _ e => ht (List.mem_filterMap.2 ⟨s, List.mem_of_getElem? hi, e⟩))]
    exact h1
/-- A value has come to a slot; the objects have gone on. -/
theorem Mid.step (bd : Body P n lt ops ss) (md : Mid P n ss wS mS HS B aS envF G V hd done a w p m) {i : Nat} {s : IStmt} (hi : ss[i]? = some s) (hdn : ¬ done i) {w' : World} {m' : AMap} {p' : Nat} {v : Value} (st : St w' m' (G p') B) (ad : Adv w m (G p) w' m' (G p')) (rv : RV w' m' (G p') B (V i) v) (hdst : ∀ d, s.dst = some d → d < n)
    (hfree : ∀ j h, j < ss.length → ¬ done j → j ≠ i → hd j = some h → m' h = none) (hple : p' ≤ nW ss) (hph : ∀ (k : Nat) (sk : IStmt), ss[k]? = some sk → isW sk = true → ((done k ∨ k = i) ↔ nW (ss.take k) < p')) (hlate : 0 < p' → ∀ (j : Nat) (sj : IStmt), ss[j]? = some sj → isAC sj = true → done j ∨ j = i) :
    Mid P n ss wS mS HS B aS envF G V hd (fun j => done j ∨ j = i) (a.put s.dst v) w' p' m' := by
  have hput : ∀ t, s.dst ≠ some t → (a.put s.dst v).tmps[t]? = a.tmps[t]? := by
    intro t ht
    cases hd' : s.dst with
    | none => rfl
    | some d =>
      have : d ≠ t := fun e => ht (by rw [hd', e])
      simp [Act.put, this]
  refine ⟨st, md.ad.trans ad, ?_, ?_, fun j sj d hj hdj hd' => ?_, fun t ht => ?_, fun j h hj hnd hh => hfree j h hj (fun e => hnd (.inl e)) (fun e => hnd (.inr e)) hh, hple, hph, hlate⟩
  · cases s.dst <;> exact md.defers
  · cases s.dst with
    | none => exact md.size
    | some d => simp [Act.put, md.size]
  · by_cases hji : j = i
    · subst hji
      rw [hi] at hj; cases hj
      rw [hd']
      exact ⟨v, by simp [Act.put, md.size, hdst d hd'], rv⟩
    · have hdone : done j := by
        rcases hdj with h | h
        · exact h
        · exact absurd h hji
      obtain ⟨u, h1, h2⟩ := md.vals j sj d hj hdone hd'
      refine ⟨u, ?_, h2.mono ad⟩
      rw [hput d (fun e => hji (bd.dinj j i sj s d hj hi hd' e))]
      exact h1
  · rw [hput t (ht i s hi (.inr rfl))]
    exact md.rest t fun j sj hj hdj => ht j sj hj (.inl hdj)
theorem wanted_on {s : IStmt} {o : Oper} {env : AEnv} (htr : trStmt P n (some lt) ops o = some s) (hg : GOn s.guard env) (hs : ∀ t x, t ∈ slotsOf s → AEnv.get env t = some x → ∃ v, a.tmps[t]? = some v ∧ RV w m (G p) B x v) : Region.wanted o (yielded ops.toArray a.tmps) = true := by
  unfold trStmt at htr
  split at htr
  · split at htr
    · rename_i h; simp [Region.wanted, h]
    · rename_i j want hgo
      split at htr
      · rename_i g hj
        cases htr
        have h1 := hg g want rfl
        obtain ⟨v, h2, h3⟩ := hs g _ (by simp [slotsOf]) h1
        cases h3
        simp only [Region.wanted, hgo, yielded_eq hj, h2]
        simp
      · cases htr
  · cases htr
theorem wanted_off {s : IStmt} {o : Oper} {env : AEnv} (htr : trStmt P n (some lt) ops o = some s) (hg : GOff s.guard env) (hs : ∀ t x, t ∈ slotsOf s → AEnv.get env t = some x → ∃ v, a.tmps[t]? = some v ∧ RV w m (G p) B x v) : Region.wanted o (yielded ops.toArray a.tmps) = false := by
  obtain ⟨g, want, hsg, hh⟩ := hg
  unfold trStmt at htr
  split at htr
  · split at htr
    · cases htr; cases hsg
    · rename_i j want' hgo
      split at htr
      · rename_i g' hj
        cases htr
        simp only [Option.some.injEq, Prod.mk.injEq] at hsg
        obtain ⟨rfl, rfl⟩ := hsg
        rcases hh with h1 | h1
        · obtain ⟨v, h2, h3⟩ := hs g' _ (by simp [slotsOf]) h1
          cases h3
          simp only [Region.wanted, hgo, yielded_eq hj, h2]
          cases want' <;> rfl
        · obtain ⟨v, h2, h3⟩ := hs g' _ (by simp [slotsOf]) h1
          cases h3
          simp only [Region.wanted, hgo, yielded_eq hj, h2]
          rfl
      · cases htr
  · cases htr
theorem trStmt_op {s : IStmt} {o : Oper} (htr : trStmt P n (some lt) ops o = some s) : trOp P o = some s.op ∧ s.dst = o.dst ∧ ∀ d, s.dst = some d → d < n := by
  unfold trStmt at htr
  split at htr
  · rename_i io hio hd
    have hdd : ∀ d, o.dst = some d → d < n := by
      intro d e
      rw [e] at hd
      simpa using hd
    split at htr
    · cases htr; exact ⟨hio, rfl, hdd⟩
    · split at htr
      · cases htr; exact ⟨hio, rfl, hdd⟩
      · cases htr
  · cases htr
theorem get_trim {env : AEnv} {t : Nat} {x : AV} : ∀ (k : List Nat), AEnv.get (AEnv.trim env k) t = some x → t ∈ k ∧ AEnv.get env t = some x
  | [], h => by cases h
  | s :: k, h => by
    simp only [AEnv.trim] at h
    split at h
    · rename_i y hy
      simp only [AEnv.get] at h
      by_cases hst : s = t
      · rw [if_pos hst] at h
        exact ⟨by simp [hst], by rw [← h, ← hst]; exact hy⟩
      · rw [if_neg hst] at h
        obtain ⟨h1, h2⟩ := get_trim k h
        exact ⟨by simp [h1], h2⟩
    · obtain ⟨h1, h2⟩ := get_trim k h
      exact ⟨by simp [h1], h2⟩
theorem target_run {o : Oper} {io : IOp} (htr : trOp P o = some io) {env : AEnv} {H : AHeap} {f : FuncId} {vs : List AV} (ht : target P io env = some (f, vs)) (fr : FR n w m H B env a) (hc : callable P f = true) : ∃ as, (execOp a.eval o).run P w = .ok (.enter f as) w ∧ Args w m H B vs as := by
  unfold target at ht
  split at ht
  · rename_i f' args
    split at ht
    · rename_i us hus
      cases ht
      obtain ⟨as, ts, ho, rfl⟩ := trOp_call htr
      obtain ⟨p1, p2⟩ := evs_sound fr _ _ hus
      exact ⟨as.map a.eval, by simp [execOp, ho, resolve, Act.eval, Deferred.ofValue, invoke, run_callFunc_ok hc], by simpa using p1, fun i x v a b => p2 i x v a (by simpa using b)⟩
    · cases ht
  · rename_i x args
    split at ht
    · rename_i f' first caps us hx hus
      cases ht
      obtain ⟨as, ts, ho, rfl⟩ := trOp_callv htr
      obtain ⟨p1, p2⟩ := evs_sound fr _ _ hus
      have hxv := ev_sound fr hx
      generalize he : a.eval x = u at hxv
      cases hxv with
      | func _ _ _ f' c' hf hcl h1 h2 =>
        refine ⟨f' ++ as.map a.eval ++ c', by simp [execOp, ho, resolve, he, Deferred.ofValue, invoke, run_callFunc_ok hc], by simp [hf, hcl, p1], fun i x v e1 e2 => ?_⟩
        have e2' : (f'.toList ++ as.toList.map a.eval ++ c'.toList)[i]? = some v := by
          have : (f' ++ as.map a.eval ++ c').toList[i]? = some v := by rw [Array.getElem?_toList]; exact e2
          rwa [Array.toList_append, Array.toList_append, Array.toList_map] at this
        have hpl : us.length = (as.toList.map a.eval).length := by simpa using p1
        have hfl : first.length = f'.toList.length := by simpa using hf
        rcases Nat.lt_or_ge i first.length with hi | hi
        · rw [List.append_assoc, List.getElem?_append_left hi] at e1
          rw [List.append_assoc, List.getElem?_append_left (by omega)] at e2'
          exact h1 i x v e1 (by simpa using e2')
        · rw [List.append_assoc, List.getElem?_append_right hi] at e1
          rw [List.append_assoc, List.getElem?_append_right (by omega)] at e2'
          rw [← hfl] at e2'
          rcases Nat.lt_or_ge (i - first.length) us.length with hj | hj
          · rw [List.getElem?_append_left hj] at e1
            rw [List.getElem?_append_left (by omega)] at e2'
            exact p2 _ x v e1 e2'
          · rw [List.getElem?_append_right hj] at e1
            rw [List.getElem?_append_right (by omega), ← hpl] at e2'
            exact h2 _ x v e1 (by simpa using e2')
    · cases ht
  · rename_i x name args
    split at ht
    · rename_i t v us hx hus
      split at ht
      · rename_i f' hmt
        cases ht
        obtain ⟨as, ts, ho, rfl⟩ := trOp_invoke htr
        obtain ⟨p1, p2⟩ := evs_sound fr _ _ hus
        have hxv := ev_sound fr hx
        generalize he : a.eval x = u at hxv
        cases hxv with
        | iface _ _ v' hv' =>
          refine ⟨#[v'] ++ as.map a.eval, ?_, by simp [p1, Nat.add_comm], fun i x v e1 e2 => ?_⟩
          · have hd : P.types.size + Made.depth = (P.types.size + Made.depth - 1) + 1 := by simp [Made.depth]
            simp only [execOp, ho, resolve, Sem.run_bind, Sem.run_pure, Result.andThen_ok, he, invoke]
            have hz : (#[Value.iface t v'] ++ Array.map a.eval as)[0]? = some (Value.iface t v') := by rw [Array.getElem?_append_left (show 0 < 1 from Nat.zero_lt_one)]; rfl
            have hxs : (#[Value.iface t v'] ++ Array.map a.eval as).extract 1 (#[Value.iface t v'] ++ Array.map a.eval as).size = Array.map a.eval as := by simp
            rw [hz]
            simp only [hxs, callMethod, Sem.run_bind, run_program, Result.andThen_ok]
            rw [hd, amethod_run hmt]
            simp only [Result.andThen_ok]
            exact run_callFunc_ok hc _ _
          · cases i with
            | zero =>
              have e3 : (#[v'] ++ Array.map a.eval as)[0]? = some v' := by rw [Array.getElem?_append_left (show 0 < 1 from Nat.zero_lt_one)]; rfl
              rw [e3] at e2
              cases e1; cases e2; exact hv'
            | succ i =>
              simp only [List.getElem?_cons_succ] at e1
              rw [Array.getElem?_append_right (by simp)] at e2
              exact p2 i x v e1 (by simpa using e2)
      · cases ht
    · cases ht
  · cases ht
/-- One statement that is ready, whichever. -/
theorem Mid.go (bd : Body P n lt ops ss) (pl : Plan P ss envS HS envF G V hd) (fr : FR n wS mS HS B envS aS) (md : Mid P n ss wS mS HS B aS envF G V hd done a w p m) {i : Nat} {s : IStmt} {o : Oper} (hi : ss[i]? = some s) (ho : ops[i]? = some o) (htr : trStmt P n (some lt) ops o = some s) (hdn : ¬ done i)
    (hready : ∀ e, e ∈ o.after → Region.binds .any e = true → done e.on) (hanc : ∀ x, (ancs [] ops)[i]? = some x → ∀ j, x.testBit j = true → done j) {K : Act → World → Prop} {Q : Exit → Act → World → Prop}
    (hK : ∀ v w' p' m', Mid P n ss wS mS HS B aS envF G V hd (fun j => done j ∨ j = i) (a.put o.dst v) w' p' m' → K (a.put o.dst v) w') : wpOp P ops.toArray Q i K a w := by
  obtain ⟨hio, hdo, hdlt⟩ := trStmt_op htr
  have slots : ∀ t x, t ∈ slotsOf s → AEnv.get envF t = some x → ∃ v, a.tmps[t]? = some v ∧ RV w m (G p) B x v := by
    intro t x ht hx
    refine md.frame pl fr hx fun j sj hj hdj => ?_
    obtain ⟨o', ho', e, he, hb, hon⟩ := bd.avail i s hi t ht j sj hj hdj
    rw [ho] at ho'; cases ho'
    rw [← hon]; exact hready e he hb
  have frt : FR n w m (G p) B (AEnv.trim envF s.uses) a := ⟨md.defers, md.size, fun t x e => by
    obtain ⟨h1, h2⟩ := get_trim _ e
    exact slots t x (by simp [slotsOf, h1]) h2⟩
  have sameph : isW s = false → ∀ k sk, ss[k]? = some sk → isW sk = true → ((done k ∨ k = i) ↔ nW (ss.take k) < p) := by
    intro hw k sk hk hsk
    have hki : k ≠ i := by
      intro e; subst e; rw [hi] at hk; cases hk; rw [hw] at hsk; cases hsk
    rw [← md.ph k sk hk hsk]
    exact ⟨fun h => h.resolve_right hki, .inl⟩
  have free0 : ∀ j h, j < ss.length → ¬ done j → j ≠ i → hd j = some h → m h = none := fun j h hj hnd _ hh => md.free j h hj hnd hh
  have late0 : 0 < p → ∀ j sj, ss[j]? = some sj → isAC sj = true → done j ∨ j = i := fun hp j sj hj hac => .inl (md.late hp j sj hj hac)
  unfold wpOp
  have hoa : ops.toArray[i]? = some o := by simpa using ho
  simp only [hoa]
  rcases pl.info i s hi with ⟨hg, hV, hh, hw⟩ | ⟨hg, hinfo⟩
  · rw [if_neg (by rw [wanted_off htr hg slots]; simp)]
    refine hK undef w p m ?_
    rw [← hdo]
    exact md.step bd hi hdn md.st (Adv.refl _ _ _) (by rw [hV]; exact .tuple [] #[] rfl (by simp)) hdlt free0 md.phle (sameph hw) late0
  · rw [if_pos (wanted_on htr hg slots)]
    refine .inl ?_
    -- values without a new object
    have valstep : isW s = false → qstep s.op (AEnv.trim envF s.uses) (G p) = some (.val (V i)) → o.wp P a w K Q := by
      intro hw hq
      obtain ⟨v, h1, h2⟩ := qstep_sound hio md.st frt hq
      unfold Oper.wp
      rw [h1, Oper.upon_value]
      refine hK v w p m ?_
      rw [← hdo]
      exact md.step bd hi hdn md.st (Adv.refl _ _ _) h2 hdlt free0 md.phle (sameph hw) late0
    cases hc : cls s.op with
    | pure =>
      rw [hc] at hinfo
      exact valstep (by simp [isW, hc]) (hinfo.2 _)
    | load =>
      rw [hc] at hinfo
      refine valstep (by simp [isW, hc]) (hinfo.2 p md.phle ?_)
      cases hl : s.late with
      | true => exact .inl rfl
      | false =>
        refine .inr ?_
        rcases Nat.eq_zero_or_pos p with h | h
        · exact h
        · exact absurd (md.late h i s hi (by simp [isAC, hc, hl])) hdn
    | alloc =>
      rw [hc] at hinfo
      have hw : isW s = false := by simp [isW, hc]
      have hp0 : p = 0 := by
        rcases Nat.eq_zero_or_pos p with h | h
        · exact h
        · exact absurd (md.late h i s hi (by simp [isAC, hc])) hdn
      subst hp0
      obtain ⟨h, hh, hcase⟩ := hinfo
      have hm : m h = none := md.free i h (List.getElem?_eq_some_iff.1 hi).1 hdn hh
      have free1 : ∀ j h', j < ss.length → ¬ done j → j ≠ i → hd j = some h' → AMap.upd m h w.heap.size h' = none := by
        intro j h' hj hnd hji hh'
        have hne : h' ≠ h := by
          intro e; subst e
          exact hji (pl.inj j i h' hj (List.getElem?_eq_some_iff.1 hi).1 hh' hh)
        simp [AMap.upd, hne, md.free j h' hj hnd hh']
      rcases hcase with ⟨e, sz, cells, hq, hob, hV⟩ | ⟨e, sz, els, hq, hob, hV⟩
      · obtain ⟨hl, vs, h1, h2, h3⟩ := qstep_sound hio md.st frt hq
        obtain ⟨q1, q2, q3⟩ := box_ok md.st hob hm hl (vs := vs) h3
        unfold Oper.wp
        rw [h1, Oper.upon_value]
        refine hK _ _ 0 (AMap.upd m h w.heap.size) ?_
        rw [← hdo]
        exact md.step bd hi hdn q1 q2 (by rw [hV]; exact q3) hdlt free1 md.phle (sameph hw) late0
      · obtain ⟨hu, vs, cap, h1, h2, h3, h4, h5⟩ := qstep_sound hio md.st frt hq
        obtain ⟨q1, q2, q3⟩ := arr_ok md.st hob hm hu (w1 := w) rfl rfl rfl rfl h2 h3 h4 h5
        unfold Oper.wp
        rw [h1, Oper.upon_value]
        refine hK _ _ 0 (AMap.upd m h w.heap.size) ?_
        rw [← hdo]
        exact md.step bd hi hdn q1 q2 (by rw [hV]; exact q3) hdlt free1 md.phle (sameph hw) late0
    | call =>
      rw [hc] at hinfo
      have hw : isW s = false := by simp [isW, hc]
      have hp0 : p = 0 := by
        rcases Nat.eq_zero_or_pos p with h | h
        · exact h
        · exact absurd (md.late h i s hi (by simp [isAC, hc])) hdn
      subst hp0
      rcases hinfo with ⟨_, f, vs, ys, ht, hf, hp⟩ | ⟨h, hh, f, vs, ys, e, sz, els, ht, hf, hp, hob, hV⟩
      · obtain ⟨as, hrun, hargs⟩ := target_run (w := w) hio ht frt hp.1
        refine upon_calls (hp.2 w as (md.st.fx.keep md.st.base fun _ _ => rfl) (hf.args md.st hargs)) (fun e w' ⟨v, he, hb, hr⟩ => ⟨v, he, ?_⟩) hrun
        obtain ⟨q1, q2⟩ := below_adv md.st hb
        refine hK v w' 0 m ?_
        rw [← hdo]
        exact md.step bd hi hdn q1 q2 (hr m (G 0) B md.st.base (fun k b e => (md.st.dom k b e).2.1)) hdlt free0 md.phle (sameph hw) late0
      · obtain ⟨as, hrun, hargs⟩ := target_run (w := w) hio ht frt hp.1
        have hm : m h = none := md.free i h (List.getElem?_eq_some_iff.1 hi).1 hdn hh
        refine upon_calls (hp.2.2 w as (md.st.fx.keep md.st.base fun _ _ => rfl) (hf.args md.st hargs)) (fun en w' ⟨b, cap, us, he, hb, h1, h2, h3, h4, h5, h6, hcc⟩ => ⟨_, he, ?_⟩) hrun
        obtain ⟨q1, q2⟩ := adopt_call md.st hb hob hm h1 h2 h3 hp.2.1 hcc
        refine hK _ w' 0 (AMap.upd m h b) ?_
        rw [← hdo]
        refine md.step bd hi hdn q1 q2 (by rw [hV]; exact adopt_own hob h3 h4 h5 h6) hdlt (fun j h' hj hnd hji hh' => ?_) md.phle (sameph hw) late0
        have hne : h' ≠ h := by
          intro e; subst e
          exact hji (pl.inj j i h' hj (List.getElem?_eq_some_iff.1 hi).1 hh' hh)
        simp [AMap.upd, hne, md.free j h' hj hnd hh']
    | write =>
      rw [hc] at hinfo
      have hw : isW s = true := by simp [isW, hc]
      obtain ⟨hh, x, hs, hV⟩ := hinfo
      have hanc' : ∀ j sj, ss[j]? = some sj → (isAC sj = true ∨ isW sj = true ∧ j < i) → done j := by
        intro j sj hj hcase
        obtain ⟨x, h1, h2⟩ := bd.word i s hi hw j sj hj hcase
        exact hanc x h1 j h2
      have hpi : p = nW (ss.take i) := by
        have h1 : ¬ nW (ss.take i) < p := fun h => hdn ((md.ph i s hi hw).2 h)
        rcases Nat.lt_or_ge p (nW (ss.take i)) with h | h
        · obtain ⟨j, sj, h2, h3, h4, h5⟩ := nW_find i p h
          have := (md.ph j sj h3 h4).1 (hanc' j sj h3 (.inr ⟨h4, h2⟩))
          omega
        · omega
      subst hpi
      obtain ⟨w', m', p1, p2, p3⟩ := sstep_sound hio md.st frt hs
      have fin : ∀ v, RV w' m' (G (nW (ss.take i) + 1)) B (V i) v → K (a.put o.dst v) w' := by
        intro v hv
        refine hK v w' (nW (ss.take i) + 1) m' ?_
        rw [← hdo]
        refine md.step bd hi hdn p1 p2 hv hdlt (fun j h' hj hnd hji hh' => ?_) ?_ (fun k sk hk hsk => ?_) (fun _ j sj hj hac => .inl (hanc' j sj hj (.inl hac)))
        · exfalso
          have hsj : ss[j]? = some ss[j] := List.getElem?_eq_getElem hj
          refine hnd (hanc' j _ hsj (.inl ?_))
          rcases pl.info j _ hsj with ⟨_, _, h, _⟩ | ⟨_, hinf⟩
          · rw [hh'] at h; cases h
          · unfold isAC
            cases hcj : cls ss[j].op <;> rw [hcj] at hinf
            all_goals (first | rfl | (rw [hh'] at hinf; exact absurd hinf.1 (by simp)))
        · have := nW_lt hi hw (show i < i + 1 by omega)
          have h2 := nW_mono ss (ss.length - (i + 1)) (i + 1)
          rw [show i + 1 + (ss.length - (i + 1)) = ss.length by have := (List.getElem?_eq_some_iff.1 hi).1; omega, List.take_length] at h2
          omega
        · by_cases hki : k = i
          · subst hki; exact ⟨fun _ => Nat.lt_succ_self _, fun _ => .inr rfl⟩
          · have hne : nW (ss.take k) ≠ nW (ss.take i) := by
              rcases Nat.lt_or_gt_of_ne hki with h | h
              · have := nW_lt hk hsk h; omega
              · have := nW_lt hi hw h; omega
            have := md.ph k sk hk hsk
            constructor
            · intro h
              have := this.1 (h.resolve_right hki); omega
            · intro h
              exact .inl (this.2 (by omega))
      cases x with
      | some x =>
        obtain ⟨v, h1, h2⟩ := p3
        unfold Oper.wp
        rw [h1, Oper.upon_value]
        exact fin v (by rw [hV]; exact h2)
      | none =>
        unfold Oper.wp
        rw [p3, Oper.upon_skip]
        exact fin undef (by rw [hV]; exact .tuple [] #[] rfl (by simp))
end
end Go.Awp
/- Regions that draw their order, part 4: the whole region. Generic in the program. -/
namespace Go.Awp
set_option linter.unusedSectionVars false
variable [Fx]
theorem nW_append (x y : List IStmt) : nW (x ++ y) = nW x + nW y := by simp [nW]
theorem ssa_append : ∀ (x y : List IStmt), ssa (x ++ y) = true → ssa x = true ∧ ssa y = true ∧ (∀ s, s ∈ x → ∀ t, t ∈ slotsOf s → t ∉ dstsOf y) ∧ (∀ d, d ∈ dstsOf x → d ∉ dstsOf y)
  | [], y, h => ⟨rfl, h, by simp, by simp [dstsOf]⟩
  | s :: x, y, h => by
    simp only [List.cons_append, ssa, Bool.and_eq_true] at h ⊢
    obtain ⟨⟨h1, h2⟩, h3⟩ := h
    obtain ⟨p1, p2, p3, p4⟩ := ssa_append x y h3
    have hds : dstsOf (x ++ y) = dstsOf x ++ dstsOf y := by simp [dstsOf]
    have h1' : ∀ t, t ∈ slotsOf s → s.dst ≠ some t ∧ t ∉ dstsOf x ∧ t ∉ dstsOf y := fun t ht => by
      have := List.all_eq_true.1 h1 t ht
      rw [hds] at this
      simpa using this
    have h2' : ∀ d, s.dst = some d → d ∉ dstsOf x ∧ d ∉ dstsOf y := fun d e => by
      rw [e] at h2
      simp only [hds] at h2
      simpa using h2
    refine ⟨⟨⟨List.all_eq_true.2 fun t ht => ?_, ?_⟩, p1⟩, p2, fun s' hs' t ht => ?_, fun d hd => ?_⟩
    · have := h1' t ht
      simp [this.1, this.2.1]
    · cases hd : s.dst with
      | none => rfl
      | some d => simp [(h2' d hd).1]
    · rcases List.mem_cons.1 hs' with rfl | hs'
      · exact (h1' t ht).2.2
      · exact p3 s' hs' t ht
    · cases hsd : s.dst with
      | none =>
        have : dstsOf (s :: x) = dstsOf x := by simp [dstsOf, hsd]
        rw [this] at hd; exact p4 d hd
      | some d' =>
        have : dstsOf (s :: x) = d' :: dstsOf x := by simp [dstsOf, hsd]
        rw [this] at hd
        rcases List.mem_cons.1 hd with rfl | hd
        · exact (h2' d hsd).2
        · exact p4 d hd
theorem plan_of {P : Program} {pre post : List IStmt} {env : AEnv} {H : AHeap} {K : AEnv → AHeap → Prop} (hssa : ssa (pre ++ post) = true) (hpre : ∀ s, s ∈ pre → isW s = false) (h : awpD1 P pre [] (fun L env H => awpD2 post L [] K env H) env H) :
    ∃ envF G V hd, Plan P (pre ++ post) env H envF G V hd ∧ K envF (G (nW (pre ++ post))) := by
  obtain ⟨a1, a2, a3, a4⟩ := ssa_append pre post hssa
  obtain ⟨L', env1, X, Vs1, hs, e1⟩ := awpD1_ext pre _ _ _ _ a1 h
  obtain ⟨envF, G, Vs2, e2⟩ := awpD2_ext post _ _ _ _ _ a2 e1.post
  have hn0 : nW pre = 0 := by
    unfold nW
    rw [List.filter_eq_nil_iff.2 (fun s hs => by simp [hpre s hs])]; rfl
  have hn : nW (pre ++ post) = nW post := by rw [nW_append, hn0, Nat.zero_add]
  refine ⟨envF, G, fun i => ((Vs1 ++ Vs2)[i]?).getD (.tuple []), fun i => ((hs[i]?).getD none), ⟨⟨X, e2.start⟩, fun t ht => ?_, fun i s d hi hd => ?_, fun i s hi => ?_, fun i h hh => ?_, fun i j h hi hj h1 h2 => ?_⟩, by rw [hn]; exact e2.post⟩
  · have : dstsOf (pre ++ post) = dstsOf pre ++ dstsOf post := by simp [dstsOf]
    rw [this] at ht
    simp only [List.mem_append, not_or] at ht
    rw [e2.other t ht.2, e1.other t ht.1]
  · rcases Nat.lt_or_ge i pre.length with hl | hl
    · rw [List.getElem?_append_left hl] at hi
      have h1 : Vs1[i]? = some (Vs1[i]'(by rw [e1.lenV]; exact hl)) := List.getElem?_eq_getElem _
      have h2 : hs[i]? = some (hs[i]'(by rw [e1.lenh]; exact hl)) := List.getElem?_eq_getElem _
      have := (e1.info i s _ _ hi h1 h2).1 d hd
      rw [List.getElem?_append_left (by rw [e1.lenV]; exact hl), h1]
      rw [e2.other d (a4 d (List.mem_filterMap.2 ⟨s, List.mem_of_getElem? hi, hd⟩))]
      exact this
    · rw [List.getElem?_append_right hl] at hi
      have hlt := (List.getElem?_eq_some_iff.1 hi).1
      have h1 : Vs2[i - pre.length]? = some (Vs2[i - pre.length]'(by rw [e2.lenV]; exact hlt)) := List.getElem?_eq_getElem _
      have := (e2.info _ s _ hi h1).1 d hd
      rw [List.getElem?_append_right (by rw [e1.lenV]; exact hl), e1.lenV, h1]
      exact this
  · rcases Nat.lt_or_ge i pre.length with hl | hl
    · rw [List.getElem?_append_left hl] at hi
      have h1 : Vs1[i]? = some (Vs1[i]'(by rw [e1.lenV]; exact hl)) := List.getElem?_eq_getElem _
      have h2 : hs[i]? = some (hs[i]'(by rw [e1.lenh]; exact hl)) := List.getElem?_eq_getElem _
      have hinf := ((e1.info i s _ _ hi h1 h2).2).congr (e' := envF) (fun t ht => e2.other t (a3 s (List.mem_of_getElem? hi) t ht))
      have hV : ((Vs1 ++ Vs2)[i]?).getD (.tuple []) = Vs1[i]'(by rw [e1.lenV]; exact hl) := by
        rw [List.getElem?_append_left (by rw [e1.lenV]; exact hl), h1]; rfl
      have hH : ((hs[i]?).getD none) = hs[i]'(by rw [e1.lenh]; exact hl) := by rw [h2]; rfl
      simp only [hV, hH]
      rcases hinf with ⟨g1, g2, g3⟩ | ⟨g1, g2⟩
      · exact .inl ⟨g1, g2, g3, hpre s (List.mem_of_getElem? hi)⟩
      · refine .inr ⟨g1, ?_⟩
        cases hc : cls s.op <;> rw [hc] at g2
        · exact g2
        · refine ⟨g2.1, fun p hp hor => ?_⟩
          rcases Nat.eq_zero_or_pos p with h0 | h0
          · subst h0; rw [e2.start]; exact g2.2.1
          · exact e2.lok p h0 (by rw [hn] at hp; exact hp) _ (g2.2.2 (hor.resolve_right (by omega)))
        · rw [e2.start]; exact g2
        · rw [e2.start]; exact g2
        · exact g2.elim
    · rw [List.getElem?_append_right hl] at hi
      have hlt := (List.getElem?_eq_some_iff.1 hi).1
      have h1 : Vs2[i - pre.length]? = some (Vs2[i - pre.length]'(by rw [e2.lenV]; exact hlt)) := List.getElem?_eq_getElem _
      obtain ⟨_, hg, hinf⟩ := e2.info _ s _ hi h1
      have hV : ((Vs1 ++ Vs2)[i]?).getD (.tuple []) = Vs2[i - pre.length]'(by rw [e2.lenV]; exact hlt) := by
        rw [List.getElem?_append_right (by rw [e1.lenV]; exact hl), e1.lenV, h1]; rfl
      have hH : ((hs[i]?).getD none) = none := by rw [List.getElem?_eq_none (by rw [e1.lenh]; exact hl)]; rfl
      have hph : nW ((pre ++ post).take i) = nW (post.take (i - pre.length)) := by
        rw [List.take_append, List.take_of_length_le hl, nW_append, hn0, Nat.zero_add]
      simp only [hV, hH]
      refine .inr ⟨(fun q want e => by rw [hg] at e; cases e), ?_⟩
      cases hc : cls s.op <;> rw [hc] at hinf
      · exact ⟨trivial, hinf⟩
      · exact ⟨trivial, fun p hp _ => hinf.2 p (by rw [hn] at hp; exact hp)⟩
      · exact hinf.elim
      · exact hinf.elim
      · rw [hph]; exact ⟨trivial, hinf⟩
  · cases hx : hs[i]? with
    | none => rw [hx] at hh; cases hh
    | some y =>
      rw [hx] at hh
      simp only [Option.getD_some] at hh
      subst hh
      exact e1.fresh i h hx
  · have e : ∀ (k : Nat), ((hs[k]?).getD none) = some h → hs[k]? = some (some h) := by
      intro k hk
      cases hx : hs[k]? with
      | none => rw [hx] at hk; cases hk
      | some y => rw [hx] at hk; simp only [Option.getD_some] at hk; rw [hk]
    exact e1.inj i j h (e i h1) (e j h2)
/-- The order of the tail, all of the body done. -/
def doneArr (n k : Nat) : Array Bool := ((List.range n).map fun i => decide (i < k)).toArray
/-- The static look at a region that draws: its first so many operations in any order, the others behind them. -/
def drawChk (ops : List Oper) (ss : List IStmt) (k : Nat) (np : Nat) : Bool :=
  decide (k < ops.length) && Region.sinkB .any ops.toArray k && Region.chainB .any ops.toArray k && Region.seqB .any ops.toArray (ops.length - k) k (doneArr ops.length k) &&
  ssa ss && decide (np ≤ ss.length) && ((ss.take np).all fun s => !isW s) && ((ss.drop np).all fun s => !isAC s) &&
  ((List.range k).all fun i => ((ops[i]?).map fun o => o.after.all fun e => !Region.binds .any e || decide (e.on < i)).getD false) &&
  ((List.range k).all fun i => ((List.range k).all fun j => match ops[i]?, ss[i]?, ss[j]? with
    | some o, some s, some sj => (match sj.dst with
      | some t => !(slotsOf s).contains t || o.after.any fun e => Region.binds .any e && e.on == j
      | none => true)
    | _, _, _ => false)) &&
  ((List.range k).all fun i => match ss[i]? with
    | some s => !isW s || ((List.range k).all fun j => match ss[j]?, (ancs [] ops)[i]? with
      | some sj, some x => !(isAC sj || isW sj && decide (j < i)) || x.testBit j
      | _, _ => false)
    | none => false)
theorem countP_upd {p q : Nat → Bool} {i : Nat} : ∀ (l : List Nat), l.Nodup → i ∈ l → p i = true → q i = false → (∀ j, j ≠ i → q j = p j) → l.countP p = l.countP q + 1
  | [], _, h, _, _, _ => by simp at h
  | x :: l, hn, h, hp, hq, he => by
    rw [List.nodup_cons] at hn
    by_cases hx : x = i
    · subst hx
      have : l.countP p = l.countP q := by
        apply List.countP_congr
        intro j hj
        rw [he j (fun e => hn.1 (by rw [← e]; exact hj))]
      rw [List.countP_cons_of_pos hp, List.countP_cons_of_neg (by simp [hq]), this]
    · have hi : i ∈ l := by
        rcases List.mem_cons.1 h with e | e
        · exact absurd e.symm hx
        · exact e
      have ih := countP_upd l hn.2 hi hp hq he
      rw [List.countP_cons, List.countP_cons, he x hx, ih]; omega
section
variable {P : Program} {n : Nat} {lt : List Nat} {ops : List Oper} {ss : List IStmt}
theorem trStmts_get {u : Option (List Nat)} : ∀ (l : List Oper) (ss : List IStmt), trStmts P n u ops l = some ss → ss.length = l.length ∧ ∀ (i : Nat) (s : IStmt), ss[i]? = some s → ∃ o, l[i]? = some o ∧ trStmt P n u ops o = some s
  | [], ss, h => by cases h; exact ⟨rfl, by simp⟩
  | o :: l, ss, h => by
    simp only [trStmts] at h
    split at h
    · rename_i s r hs hr
      cases h
      obtain ⟨q1, q2⟩ := trStmts_get l r hr
      refine ⟨by simp [q1], fun i s' e => ?_⟩
      cases i with
      | zero => simp at e; subst e; exact ⟨o, rfl, hs⟩
      | succ i => exact q2 i s' (by simpa using e)
    · cases h
theorem body_of {k np : Nat} (hk : k ≤ ops.length) (htr : trStmts P n (some lt) ops (ops.take k) = some ss) (h : drawChk ops ss k np = true) : Body P n lt ops ss ∧ (∀ i o, i < k → ops[i]? = some o → ∀ e, e ∈ o.after → Region.binds .any e = true → e.on < i) := by
  obtain ⟨hl, hg⟩ := trStmts_get _ _ htr
  have hlen : ss.length = k := by rw [hl, List.length_take]; omega
  simp only [drawChk, Bool.and_eq_true] at h
  obtain ⟨⟨⟨⟨⟨⟨⟨⟨⟨⟨h0, h1⟩, h2⟩, h3⟩, h4⟩, h5⟩, h6⟩, h7⟩, h8⟩, h9⟩, h10⟩ := h
  have hlt : ∀ {i : Nat} {s : IStmt}, ss[i]? = some s → i < k := fun hi => by rw [← hlen]; exact (List.getElem?_eq_some_iff.1 hi).1
  refine ⟨⟨fun i s hi => ?_, fun i s hi t ht j sj hj hd => ?_, fun i j si sj d hi hj hdi hdj => ?_, fun i s hi hw j sj hj hcase => ?_⟩, fun i o hi ho e he hb => ?_⟩
  · obtain ⟨o, ho, ht⟩ := hg i s hi
    rw [List.getElem?_take_of_lt (hlt hi)] at ho
    exact ⟨o, ho, ht⟩
  · have := List.all_eq_true.1 (List.all_eq_true.1 h9 i (List.mem_range.2 (hlt hi))) j (List.mem_range.2 (hlt hj))
    obtain ⟨o, ho, _⟩ := hg i s hi
    rw [List.getElem?_take_of_lt (hlt hi)] at ho
    simp only [ho, hi, hj, hd, Bool.or_eq_true, Bool.not_eq_true'] at this
    refine ⟨o, ho, ?_⟩
    rcases this with h | h
    · have : (slotsOf s).contains t = true := by simpa using ht
      rw [this] at h; cases h
    · obtain ⟨e, he, hb⟩ := Array.any_eq_true'.1 h
      simp only [Bool.and_eq_true, beq_iff_eq] at hb
      exact ⟨e, he, hb.1, hb.2⟩
  · have key : ∀ (l : List IStmt), ssa l = true → ∀ (i j : Nat) si sj, i < j → l[i]? = some si → l[j]? = some sj → si.dst = some d → sj.dst = some d → False := by
      intro l
      induction l with
      | nil => intro _ i j si sj _ h; simp at h
      | cons s l ih =>
        intro hs i j si sj hij hi hj hdi hdj
        simp only [ssa, Bool.and_eq_true] at hs
        cases j with
        | zero => omega
        | succ j =>
          cases i with
          | zero =>
            simp at hi hj; subst hi
            have h2 := hs.1.2
            rw [hdi] at h2
            have : d ∈ dstsOf l := List.mem_filterMap.2 ⟨sj, List.mem_of_getElem? hj, hdj⟩
            simp [this] at h2
          | succ i => exact ih hs.2 i j si sj (by omega) (by simpa using hi) (by simpa using hj) hdi hdj
    rcases Nat.lt_trichotomy i j with hij | hij | hij
    · exact (key ss h4 i j si sj hij hi hj hdi hdj).elim
    · exact hij
    · exact (key ss h4 j i sj si hij hj hi hdj hdi).elim
  · have := List.all_eq_true.1 h10 i (List.mem_range.2 (hlt hi))
    simp only [hi, hw, Bool.not_true, Bool.false_or] at this
    have := List.all_eq_true.1 this j (List.mem_range.2 (hlt hj))
    split at this
    · rename_i sj' x hj' hx
      rw [hj] at hj'; cases hj'
      refine ⟨x, hx, ?_⟩
      simp only [Bool.or_eq_true, Bool.not_eq_true', Bool.or_eq_false_iff, Bool.and_eq_false_iff] at this
      rcases this with ⟨h1, h2⟩ | h
      · rcases hcase with hc | ⟨hc1, hc2⟩
        · rw [hc] at h1; cases h1
        · rcases h2 with h2 | h2
          · rw [hc1] at h2; cases h2
          · simp [hc2] at h2
      · exact h
    · cases this
  · have := List.all_eq_true.1 h8 i (List.mem_range.2 hi)
    rw [ho] at this
    simp only [Option.map_some, Option.getD_some] at this
    have := Array.all_eq_true_iff_forall_mem.1 this e he
    simpa [hb] using this
end
end Go.Awp
/- Regions that draw their order, part 5: the theorem. Generic in the program. -/
namespace Go.Awp
set_option linter.unusedSectionVars false
variable [Fx]
section
variable {P : Program} {n : Nat} {lt : List Nat} {ops : List Oper} {ss : List IStmt} {wS : World} {mS : AMap} {HS : AHeap} {B : Nat} {aS : Act} {envS envF : AEnv} {G : Nat → AHeap} {V : Nat → AV} {hd : Nat → Option Nat}
theorem any_order {k : Nat} (hk : k < ops.length) (hlen : ss.length = k) (bd : Body P n lt ops ss) (pl : Plan P ss envS HS envF G V hd) (fr : FR n wS mS HS B envS aS) (hs : Region.sinkB .any ops.toArray k = true) (hc : Region.chainB .any ops.toArray k = true) (hq : Region.seqB .any ops.toArray (ops.length - k) k (doneArr ops.length k) = true)
    (hback : ∀ i o, i < k → ops[i]? = some o → ∀ e, e ∈ o.after → Region.binds .any e = true → e.on < i) {Q : Exit → Act → World → Prop}
    (hfin : ∀ a w m, Mid P n ss wS mS HS B aS envF G V hd (fun i => i < k) a w (nW ss) m → wpList P ops.toArray Q (ops.drop k) a w) :
    ∀ (c : Nat) (listed : Array Bool) (a : Act) (w : World) (p : Nat) (m : AMap), (List.range k).countP (fun i => !listed.getD i true) = c → HeadInv .any ops.toArray k listed → Mid P n ss wS mS HS B aS envF G V hd (fun i => i < k ∧ listed.getD i false = true) a w p m →
      wpAny P .any ops.toArray Q (c + (ops.length - k)) listed a w
  | 0, listed, a, w, p, m, hcount, inv, md => by
    have hall : ∀ i, i < k → listed.getD i true = true := by
      intro i hi
      have := List.countP_eq_zero.1 hcount i (List.mem_range.2 hi)
      simpa using this
    have hsz : listed.size = ops.length := by rw [inv.size]; simp
    have hget : ∀ i, i < k → listed.getD i false = true := by
      intro i hi
      have := hall i hi
      have hlt : i < listed.size := by omega
      simp [hlt] at this ⊢; exact this
    have hd' : listed = doneArr ops.length k := by
      apply Array.ext
      · simp [doneArr, hsz]
      · intro i h1 h2
        have e1 : (doneArr ops.length k)[i] = decide (i < k) := by simp [doneArr]
        rw [e1]
        by_cases hi : i < k
        · have := hget i hi
          simp [h1] at this
          simp [hi, this]
        · have := inv.tail i (by omega) (by simp; omega)
          simp [h1] at this
          simp [hi, this]
    rw [Nat.zero_add]
    have hp : p = nW ss := by
      rcases Nat.lt_or_ge p (nW ss) with h | h
      · obtain ⟨j, s, h1, h2, h3, h4⟩ := nW_find (ss := ss) ss.length p (by rw [List.take_length]; exact h)
        have := (md.ph j s h2 h3).1 ⟨by omega, hget j (by omega)⟩
        omega
      · have := md.phle; omega
    subst hp
    have hm : Mid P n ss wS mS HS B aS envF G V hd (fun i => i < k) a w (nW ss) m := by
      have e : (fun i => i < k ∧ listed.getD i false = true) = fun i => i < k := by
        funext i
        exact propext ⟨fun h => h.1, fun h => ⟨h, hget i h⟩⟩
      rw [e] at md; exact md
    have hdl : (ops.drop k).length = ops.length - k := by simp
    rw [← hdl]
    refine wpAny_of_seq (ops.drop k) k listed a w (fun j => by simp [List.getElem?_drop]) ?_ (hfin a w m hm)
    rw [hdl, hd']; exact hq
  | c + 1, listed, a, w, p, m, hcount, inv, md => by
    have hsz : listed.size = ops.length := by rw [inv.size]; simp
    -- there is one that is not done
    obtain ⟨u, hu1, hu2⟩ : ∃ u, u < k ∧ listed.getD u true = false := by
      have : 0 < (List.range k).countP (fun i => !listed.getD i true) := by omega
      obtain ⟨u, h1, h2⟩ := List.countP_pos_iff.1 this
      exact ⟨u, List.mem_range.1 h1, by simpa using h2⟩
    have hready : ∀ t, t ∈ Region.ready .any ops.toArray listed → t < k := by
      intro t ht
      rcases Nat.lt_or_ge t k with h | h
      · exact h
      · exact absurd ht (tail_waits hs hc (by simpa using hk) inv _ u rfl hu1 hu2 t h)
    have hne : Region.ready .any ops.toArray listed ≠ [] := by
      -- the least that is not done is ready
      have key : ∀ d u, u ≤ d → u < k → listed.getD u true = false → ∃ t, t ∈ Region.ready .any ops.toArray listed := by
        intro d
        induction d with
        | zero =>
          intro u hu hk' hn
          have hu0 : u = 0 := by omega
          subst hu0
          have ho : ops[0]? = some (ops[0]'(by omega)) := List.getElem?_eq_getElem _
          exact ⟨0, mem_ready.2 ⟨hn, _, by simp, fun e he hb => absurd (hback 0 _ hk' ho e he hb) (Nat.not_lt_zero _)⟩⟩
        | succ d ih =>
          intro u hu hk' hn
          have ho : ops[u]? = some (ops[u]'(by omega)) := List.getElem?_eq_getElem _
          by_cases hall : ∀ e, e ∈ (ops[u]'(by omega)).after → Region.binds .any e = true → listed.getD e.on false = true
          · exact ⟨u, mem_ready.2 ⟨hn, _, by simp, hall⟩⟩
          · obtain ⟨e, he⟩ := Classical.not_forall.1 hall
            obtain ⟨he1, he2⟩ := Classical.not_imp.1 he
            obtain ⟨he3, he4⟩ := Classical.not_imp.1 he2
            have hlt := hback u _ hk' ho e he1 he3
            have : listed.getD e.on false = false := by simpa using he4
            exact ih e.on (by omega) (by omega) (getD_in (by omega) this)
      obtain ⟨t, ht⟩ := key u u (Nat.le_refl _) hu1 hu2
      intro e; rw [e] at ht; cases ht
    rw [show c + 1 + (ops.length - k) = (c + (ops.length - k)) + 1 by omega]
    refine ⟨fun e => absurd e hne, fun i hi => ?_⟩
    have hik := hready i hi
    obtain ⟨hn, oi, hoi, hafter⟩ := mem_ready.1 hi
    have hoi' : ops[i]? = some oi := by simpa using hoi
    have hsi : ss[i]? = some (ss[i]'(by omega)) := List.getElem?_eq_getElem _
    obtain ⟨o', ho', htr⟩ := bd.tr i _ hsi
    rw [hoi'] at ho'; cases ho'
    have hnd : ¬ (i < k ∧ listed.getD i false = true) := fun h => by
      have := getD_both hn; rw [this] at h; cases h.2
    have hon : ∀ e, e ∈ oi.after → Region.binds .any e = true → e.on < k ∧ listed.getD e.on false = true := fun e he hb => ⟨Nat.lt_trans (hback i oi hik hoi' e he hb) hik, hafter e he hb⟩
    refine Mid.go bd pl fr md hsi hoi' htr hnd hon (fun x hx j hj => ?_) fun v w' p' m' md' => ?_
    · have hcl : ∀ j, (j < k ∧ listed.getD j false = true) → Listed ops (fun j => j < k ∧ listed.getD j false = true) j := by
        intro j ⟨h1, h2⟩ o ho e he hb
        exact ⟨Nat.lt_trans (hback j o h1 ho e he hb) h1, inv.closed j o (by simpa using ho) h2 e he hb⟩
      exact ancs_spec ops (fun j => j < k ∧ listed.getD j false = true) hcl ops [] (fun j => by simp) (by simp) i x hx j hj (fun o ho e he hb => by
        rw [hoi'] at ho; cases ho
        exact hon e he hb)
    · have inv' := inv.set hi hik
      have hcount' : (List.range k).countP (fun j => !(listed.setIfInBounds i true).getD j true) = c := by
        have := countP_upd (p := fun j => !listed.getD j true) (q := fun j => !(listed.setIfInBounds i true).getD j true) (i := i) (List.range k) List.nodup_range (List.mem_range.2 hik) (by simp only [hn]; rfl) (by
          have hlt : i < listed.size := by omega
          simp [hlt]) (fun j hj => by rw [getD_set_ne true (Ne.symm hj)])
        omega
      have hdone : (fun j => (j < k ∧ listed.getD j false = true) ∨ j = i) = fun j => j < k ∧ (listed.setIfInBounds i true).getD j false = true := by
        funext j
        apply propext
        by_cases hji : j = i
        · subst hji
          have hlt : j < listed.size := by omega
          simp [hlt, hik]
        · rw [getD_set_ne false (Ne.symm hji)]
          exact ⟨fun h => h.resolve_right hji, .inl⟩
      rw [hdone] at md'
      exact any_order hk hlen bd pl fr hs hc hq hback hfin c _ _ _ p' m' hcount' inv' md'
theorem draw_sound (hmix : P.follows .mixedOrders = true) {k np : Nat} {tl : List IStmt} {id : Nat} {H : AHeap} {env : AEnv} {w0 : World} {m0 : AMap} {H0 : AHeap} {a : Act} {w : World} {K : AEnv → AHeap → Prop} {Q : Exit → Act → World → Prop} (htr : trStmts P n (some lt) ops (ops.take k) = some ss) (htl : trStmts P n none ops (ops.drop k) = some tl) (hchk : drawChk ops ss k np = true)
    (rel : Rel n w0 m0 H0 B env H a w) (h : awpD1 P (ss.take np) [] (fun L env H => awpD2 (ss.drop np) L [] (fun env H => awpOps P tl K env H) env H) env H) (hq : ∀ env' H' a' w', K env' H' → Rel n w0 m0 H0 B env' H' a' w' → Q .normal a' w') : (Code.region id ops.toArray true).wp P Q a w := by
  have hchk' := hchk
  simp only [drawChk, Bool.and_eq_true, decide_eq_true_eq] at hchk'
  obtain ⟨⟨⟨⟨⟨⟨⟨⟨⟨⟨h0, h1⟩, h2⟩, h3⟩, h4⟩, h5⟩, h6⟩, h7⟩, h8⟩, h9⟩, h10⟩ := hchk'
  obtain ⟨bd, hback⟩ := body_of (Nat.le_of_lt h0) htr hchk
  obtain ⟨hl, _⟩ := trStmts_get _ _ htr
  have hlen : ss.length = k := by rw [hl, List.length_take]; omega
  have hpre : ∀ s, s ∈ ss.take np → isW s = false := fun s hs => by
    have := List.all_eq_true.1 h6 s hs
    simpa using this
  obtain ⟨envF, G, V, hd, pl, hK⟩ := plan_of (pre := ss.take np) (post := ss.drop np) (by rw [List.take_append_drop]; exact h4) hpre h
  rw [List.take_append_drop] at pl hK
  obtain ⟨m, fr, st, ad⟩ := rel
  -- the draw itself
  have adr : Adv w m H { w with drawn := w.drawn + 1 } m H := ⟨rfl, rfl, rfl, Nat.le_refl _, fun _ _ _ => rfl, fun _ _ e => .inl e, Nat.le_refl _, fun _ o' _ e => ⟨o', e, rfl, rfl, Nat.le_refl _, fun _ b hb => ⟨hb, rfl⟩⟩⟩
  have str : St { w with drawn := w.drawn + 1 } m H B := ⟨st.base, fun k b e => by
    obtain ⟨p1, p2, o1, cs, p3, p4, p5, p6⟩ := st.dom k b e
    exact ⟨p1, p2, o1, cs, p3, p4, p5, fun i el j x a1 a2 => by
      obtain ⟨v, q1, q2, q3⟩ := p6 i el j x a1 a2
      exact ⟨v, q1, q2.mono adr, q3⟩⟩, st.inj, st.fxa adr⟩
  have frr := fr.mono adr
  refine wp_region_any hmix ?_
  obtain ⟨X, hX⟩ := pl.g0
  obtain ⟨s1, s2⟩ := str.push X
  have hcount : (List.range k).countP (fun i => !(Array.replicate ops.toArray.size false).getD i true) = k := by
    have : (List.range k).countP (fun i => !(Array.replicate ops.toArray.size false).getD i true) = (List.range k).length := by
      rw [List.countP_eq_length]
      intro i hi
      have : i < ops.length := by have := List.mem_range.1 hi; omega
      simp [this]
    rw [this, List.length_range]
  have inv0 : HeadInv .any ops.toArray k (Array.replicate ops.toArray.size false) :=
    ⟨by simp, fun j oj _ hl => (by rw [getD_replicate_false] at hl; cases hl), fun t _ ht => getD_in (by simpa using ht) (getD_replicate_false _ _)⟩
  have hnone : ∀ i, ¬ (i < k ∧ (Array.replicate ops.toArray.size false).getD i false = true) := fun i h => by rw [getD_replicate_false] at h; cases h.2
  have md0 : Mid P n ss { w with drawn := w.drawn + 1 } m H B a envF G V hd (fun i => i < k ∧ (Array.replicate ops.toArray.size false).getD i false = true) a { w with drawn := w.drawn + 1 } 0 m := by
    refine ⟨by rw [hX]; exact s1, by rw [hX]; exact s2, fr.defers, fr.size, fun i s d _ hdn _ => absurd hdn (hnone i), fun t _ => rfl, fun i h hi _ hh => ?_, Nat.zero_le _, fun k' s hk' hw => ⟨fun hdn => absurd hdn (hnone k'), fun h => absurd h (Nat.not_lt_zero _)⟩, fun h => absurd h (Nat.lt_irrefl _)⟩
    have := pl.fresh i h hh
    cases hm : m h with
    | none => rfl
    | some b => exact absurd (st.mlt hm) (by omega)
  have := any_order h0 hlen bd pl frr h1 h2 h3 hback (Q := Q) (fun a' w' m' md => ?_) k _ a _ 0 m hcount inv0 md0
  · rw [show k + (ops.length - k) = ops.toArray.size by simp; omega] at this
    exact this
  · refine awpOps_sound (w0 := w0) (m0 := m0) (H0 := H0) (B := B) (n := n) (ops := ops) (ops.drop k) tl htl envF _ a' w' ?_ hK hq
    refine ⟨m', ⟨md.defers, md.size, fun t x hx => md.frame pl frr hx fun j sj hj _ => ?_⟩, md.st, (ad.trans adr).trans md.ad⟩
    rw [← hlen]; exact (List.getElem?_eq_some_iff.1 hj).1
end
end Go.Awp
