/- Regions that draw their order: what is owed of them, part 2: what the walk in the text's order tells of each statement. Generic in the program. -/
import Derived.Test.YtepnijjgdhldeaaLsa
namespace Go.Awp

def slotsOf (s : IStmt) : List Nat := s.uses ++ (match s.guard with | some (g, _) => [g] | none => [])
def dstsOf (ss : List IStmt) : List Nat := ss.filterMap (·.dst)

def ssa : List IStmt → Bool
  | [] => true
  | s :: r => ((slotsOf s).all fun t => decide (s.dst ≠ some t) && !(dstsOf r).contains t) && (match s.dst with | some d => !(dstsOf r).contains d | none => true) && ssa r

theorem trim_congr {e e' : AEnv} : ∀ (k : List Nat), (∀ t, t ∈ k → AEnv.get e t = AEnv.get e' t) → AEnv.trim e k = AEnv.trim e' k
  | [], _ => rfl
  | t :: k, h => by
    simp only [AEnv.trim, h t (by simp), trim_congr k (fun t ht => h t (by simp [ht]))]

theorem get_envput_ne {d : Option Nat} {x : AV} {env : AEnv} {t : Nat} (h : d ≠ some t) : AEnv.get (envput d x env) t = AEnv.get env t := by
  cases d with
  | none => rfl
  | some d =>
    simp only [envput, AEnv.get]
    rw [if_neg (fun e => h (by rw [e]))]

theorem get_envput_eq {d : Nat} {x : AV} {env : AEnv} : AEnv.get (envput (some d) x env) d = some x := by simp [envput, AEnv.get]

def GOn (g : Option (Nat × Bool)) (env : AEnv) : Prop := ∀ s want, g = some (s, want) → AEnv.get env s = some (.bool want)
def GOff (g : Option (Nat × Bool)) (env : AEnv) : Prop := ∃ s want, g = some (s, want) ∧ (AEnv.get env s = some (.bool (!want)) ∨ AEnv.get env s = some (.tuple []))

theorem guardD_cases {g : Option (Nat × Bool)} {env : AEnv} {on off : AEnv → Prop} (h : guardD g env on off) : ∃ env1 : AEnv, (∀ t, AEnv.get env1 t = AEnv.get env t) ∧ (GOn g env1 ∧ on env1 ∨ GOff g env1 ∧ off env1) := by
  have over : ∀ (s : Nat) (x : AV), AEnv.get env s = some x → ∀ t, AEnv.get ((s, x) :: env) t = AEnv.get env t := by
    intro s x hx t
    simp only [AEnv.get]
    split
    · rename_i h; subst h; exact hx.symm
    · rfl
  unfold guardD at h
  split at h
  · exact ⟨env, fun _ => rfl, .inl ⟨(fun _ _ e => by cases e), h⟩⟩
  · rename_i s want
    split at h
    · rename_i c hc
      by_cases hw : c = want
      · subst hw
        exact ⟨_, over s _ hc, .inl ⟨(fun _ _ e => by cases e; simp [AEnv.get]), h.1 rfl⟩⟩
      · have hw' : c = !want := by cases c <;> cases want <;> simp_all
        subst hw'
        exact ⟨_, over s _ hc, .inr ⟨⟨s, want, rfl, .inl (by simp [AEnv.get])⟩, h.2 rfl⟩⟩
    · rename_i hc
      exact ⟨env, fun _ => rfl, .inr ⟨⟨s, want, rfl, .inr hc⟩, h⟩⟩
    · exact h.elim

/-- What is known of a statement ahead of the first write. -/
def Info1 (P : Program) (s : IStmt) (envF : AEnv) (G : AHeap) (L : List (IOp × AEnv × AV)) (V : AV) (hd : Option Nat) : Prop :=
  (GOff s.guard envF ∧ V = .tuple [] ∧ hd = none) ∨ (GOn s.guard envF ∧ match cls s.op with
    | .pure => hd = none ∧ ∀ H, qstep s.op (AEnv.trim envF s.uses) H = some (.val V)
    | .load => hd = none ∧ qstep s.op (AEnv.trim envF s.uses) G = some (.val V) ∧ (s.late = true → (s.op, AEnv.trim envF s.uses, V) ∈ L)
    | .alloc => ∃ h, hd = some h ∧ ((∃ e sz cells, qstep s.op (AEnv.trim envF s.uses) G = some (.box e sz cells) ∧ AHeap.obj G h = some ⟨e, sz, [cells]⟩ ∧ V = .ptr h 1 0 0) ∨
        (∃ e sz els, qstep s.op (AEnv.trim envF s.uses) G = some (.arr e sz els) ∧ AHeap.obj G h = some ⟨e, sz, els⟩ ∧ V = .own h els.length 0 els.length))
    | .call => (hd = none ∧ ∃ f vs ys, target P s.op (AEnv.trim envF s.uses) = some (f, vs) ∧ FrzL G vs ys ∧ PCall P f ys V) ∨
        (∃ h, hd = some h ∧ ∃ f vs ys e sz els, target P s.op (AEnv.trim envF s.uses) = some (f, vs) ∧ FrzL G vs ys ∧ NCall P f ys e sz els ∧ AHeap.obj G h = some ⟨e, sz, els⟩ ∧ V = .own h els.length 0 els.length)
    | .write => False)

theorem GOn.congr {g : Option (Nat × Bool)} {e e' : AEnv} (h : GOn g e) (he : ∀ s want, g = some (s, want) → AEnv.get e' s = AEnv.get e s) : GOn g e' := fun s want hg => (he s want hg).trans (h s want hg)
theorem GOff.congr {g : Option (Nat × Bool)} {e e' : AEnv} (h : GOff g e) (he : ∀ s want, g = some (s, want) → AEnv.get e' s = AEnv.get e s) : GOff g e' := by
  obtain ⟨s, want, hg, hh⟩ := h
  exact ⟨s, want, hg, by rw [he s want hg]; exact hh⟩

theorem Info1.congr {P s e e' G L V hd} (h : Info1 P s e G L V hd) (he : ∀ t, t ∈ slotsOf s → AEnv.get e' t = AEnv.get e t) : Info1 P s e' G L V hd := by
  have hg : ∀ q want, s.guard = some (q, want) → AEnv.get e' q = AEnv.get e q := fun q want hq => he q (by simp [slotsOf, hq])
  have ht : AEnv.trim e' s.uses = AEnv.trim e s.uses := trim_congr _ fun t ht => he t (by simp [slotsOf, ht])
  rcases h with ⟨h1, h2⟩ | ⟨h1, h2⟩
  · exact .inl ⟨h1.congr hg, h2⟩
  · exact .inr ⟨h1.congr hg, by rw [ht]; exact h2⟩

structure Ext1 (P : Program) (ss : List IStmt) (L : List (IOp × AEnv × AV)) (K : List (IOp × AEnv × AV) → AEnv → AHeap → Prop) (env : AEnv) (H : AHeap) (L' : List (IOp × AEnv × AV)) (envF : AEnv) (X : AHeap) (Vs : List AV) (hs : List (Option Nat)) : Prop where
  post : K L' envF (H ++ X)
  sub : ∀ t, t ∈ L → t ∈ L'
  lenV : Vs.length = ss.length
  lenh : hs.length = ss.length
  other : ∀ t, t ∉ dstsOf ss → AEnv.get envF t = AEnv.get env t
  info : ∀ (i : Nat) s V hd, ss[i]? = some s → Vs[i]? = some V → hs[i]? = some hd → (∀ d, s.dst = some d → AEnv.get envF d = some V) ∧ Info1 P s envF (H ++ X) L' V hd
  fresh : ∀ (i h : Nat), hs[i]? = some (some h) → H.length ≤ h
  inj : ∀ (i j h : Nat), hs[i]? = some (some h) → hs[j]? = some (some h) → i = j
  lok : ∀ t, t ∈ L' → t ∈ L ∨ qstep t.1 t.2.1 (H ++ X) = some (.val t.2.2)

theorem mem_dsts {s : IStmt} {r : List IStmt} {t : Nat} : t ∉ dstsOf (s :: r) ↔ s.dst ≠ some t ∧ t ∉ dstsOf r := by
  unfold dstsOf
  cases hd : s.dst with
  | none => simp [hd]
  | some d => simp [hd, eq_comm]

theorem awpD1_ext {P : Program} : ∀ (ss : List IStmt) (L : List (IOp × AEnv × AV)) (K : List (IOp × AEnv × AV) → AEnv → AHeap → Prop) (env : AEnv) (H : AHeap), ssa ss = true → awpD1 P ss L K env H → ∃ L' envF X Vs hs, Ext1 P ss L K env H L' envF X Vs hs
  | [], L, K, env, H, _, h => ⟨L, env, [], [], [], by rw [List.append_nil]; exact h, fun _ h => h, rfl, rfl, fun _ _ => rfl, by simp, by simp, by simp, fun t ht => .inl ht⟩
  | s :: r, L, K, env, H, hssa, h => by
    simp only [ssa, Bool.and_eq_true] at hssa
    obtain ⟨⟨hu, hd⟩, hr⟩ := hssa
    have huse : ∀ t, t ∈ slotsOf s → s.dst ≠ some t ∧ t ∉ dstsOf r := fun t ht => by
      have := List.all_eq_true.1 hu t ht
      simpa using this
    have hdst : ∀ d, s.dst = some d → d ∉ dstsOf r := fun d e => by rw [e] at hd; simpa using hd
    -- one step, and the rest
    have step : ∀ (env1 : AEnv) (V : AV) (hd : Option Nat) (L1 : List (IOp × AEnv × AV)) (X1 : AHeap), (∀ t, AEnv.get env1 t = AEnv.get env t) → (∀ t, t ∈ L → t ∈ L1) → awpD1 P r L1 K (envput s.dst V env1) (H ++ X1) →
        (∀ envF X L', (∀ t, t ∈ slotsOf s → AEnv.get envF t = AEnv.get env1 t) → (∀ t, t ∈ L1 → t ∈ L') → Info1 P s envF (H ++ X1 ++ X) L' V hd) → (∀ h, hd = some h → H.length ≤ h ∧ h < (H ++ X1).length) →
        (∀ t, t ∈ L1 → t ∈ L ∨ ∀ X, qstep t.1 t.2.1 (H ++ X1 ++ X) = some (.val t.2.2)) →
        ∃ L' envF X Vs hs, Ext1 P (s :: r) L K env H L' envF X Vs hs := by
      intro env1 V hd L1 X1 he1 hsub hrest hinfo hfr hlok
      obtain ⟨L', envF, X, Vs, hs, ex⟩ := awpD1_ext r L1 K _ _ hr hrest
      have hget : ∀ t, t ∈ slotsOf s → AEnv.get envF t = AEnv.get env1 t := fun t ht => by
        rw [ex.other t (huse t ht).2, get_envput_ne (huse t ht).1]
      refine ⟨L', envF, X1 ++ X, V :: Vs, hd :: hs, ?_, fun t ht => ex.sub t (hsub t ht), by simp [ex.lenV], by simp [ex.lenh], fun t ht => ?_, fun i s' V' hd' a1 a2 a3 => ?_, fun i h a1 => ?_, fun i j h a1 a2 => ?_, fun t ht => ?_⟩
      · have := ex.post; rwa [List.append_assoc] at this
      · obtain ⟨h1, h2⟩ := mem_dsts.1 ht
        rw [ex.other t h2, get_envput_ne h1, he1]
      · cases i with
        | zero =>
          simp at a1 a2 a3; subst a1; subst a2; subst a3
          refine ⟨fun d e => ?_, ?_⟩
          · rw [ex.other d (hdst d e), e, get_envput_eq]
          · have := hinfo envF X L' hget ex.sub
            rwa [List.append_assoc] at this
        | succ i =>
          have := ex.info i s' V' hd' (by simpa using a1) (by simpa using a2) (by simpa using a3)
          rwa [List.append_assoc] at this
      · cases i with
        | zero => simp at a1; exact (hfr h a1).1
        | succ i =>
          have := ex.fresh i h (by simpa using a1)
          simp at this; omega
      · cases i with
        | zero =>
          cases j with
          | zero => rfl
          | succ j =>
            simp at a1
            have h1 := (hfr h a1).2
            have h2 := ex.fresh j h (by simpa using a2)
            omega
        | succ i =>
          cases j with
          | zero =>
            simp at a2
            have h1 := (hfr h a2).2
            have h2 := ex.fresh i h (by simpa using a1)
            omega
          | succ j => have := ex.inj i j h (by simpa using a1) (by simpa using a2); omega
      · rcases ex.lok t ht with h1 | h1
        · rcases hlok t h1 with h2 | h2
          · exact .inl h2
          · have := h2 X; rw [List.append_assoc] at this; exact .inr this
        · rw [List.append_assoc] at h1; exact .inr h1
    simp only [awpD1] at h
    obtain ⟨env1, he1, ⟨hg, h⟩ | ⟨hg, h⟩⟩ := guardD_cases h
    · have tr : ∀ envF : AEnv, (∀ t, t ∈ slotsOf s → AEnv.get envF t = AEnv.get env1 t) → AEnv.trim envF s.uses = AEnv.trim env1 s.uses ∧ GOn s.guard envF := fun envF hge =>
        ⟨trim_congr _ fun t ht => hge t (by simp [slotsOf, ht]), hg.congr fun q want hq => hge q (by simp [slotsOf, hq])⟩
      split at h
      · rename_i hc
        split at h
        · rename_i v hv
          refine step env1 v none L [] he1 (fun _ h => h) (by simpa using h) (fun envF X L' hge hsub => .inr ⟨(tr envF hge).2, ?_⟩) (by simp) (fun t ht => .inl ht)
          rw [hc, (tr envF hge).1]
          exact ⟨rfl, fun H' => by rw [qstep_indep (.inl hc) _ H' H]; exact hv⟩
        · exact h.elim
      · rename_i hc
        split at h
        · rename_i v hv
          refine step env1 v none (if s.late then (s.op, AEnv.trim env1 s.uses, v) :: L else L) [] he1 (fun _ h => by split <;> simp [h]) (by simpa using h) (fun envF X L' hge hsub => .inr ⟨(tr envF hge).2, ?_⟩) (by simp) (fun t ht => ?_)
          · rw [hc, (tr envF hge).1]
            exact ⟨rfl, by rw [List.append_nil]; exact qstep_push hc hv X, fun hl => hsub _ (by simp [hl])⟩
          · split at ht
            · rcases List.mem_cons.1 ht with rfl | ht
              · exact .inr fun X => by rw [List.append_nil]; exact qstep_push hc hv X
              · exact .inl ht
            · exact .inl ht
        · exact h.elim
      · rename_i hc
        split at h
        · rename_i e sz cells hv
          refine step env1 _ (some H.length) L [some ⟨e, sz, [cells]⟩] he1 (fun _ h => h) h (fun envF X L' hge hsub => .inr ⟨(tr envF hge).2, ?_⟩) (fun h' e => by cases e; simp) (fun t ht => .inl ht)
          rw [hc, (tr envF hge).1]
          exact ⟨_, rfl, .inl ⟨e, sz, cells, by rw [qstep_indep (.inr hc) _ _ H]; exact hv, by rw [AHeap.obj_push_lt (by simp)]; exact AHeap.obj_push_eq, rfl⟩⟩
        · rename_i e sz els hv
          refine step env1 _ (some H.length) L [some ⟨e, sz, els⟩] he1 (fun _ h => h) h (fun envF X L' hge hsub => .inr ⟨(tr envF hge).2, ?_⟩) (fun h' e => by cases e; simp) (fun t ht => .inl ht)
          rw [hc, (tr envF hge).1]
          exact ⟨_, rfl, .inr ⟨e, sz, els, by rw [qstep_indep (.inr hc) _ _ H]; exact hv, by rw [AHeap.obj_push_lt (by simp)]; exact AHeap.obj_push_eq, rfl⟩⟩
        · exact h.elim
      · rename_i hc
        split at h
        · rename_i f vs hv
          rcases h with ⟨ys, r', hf, hp, h⟩ | ⟨ys, e, sz, els, hf, hp, h⟩
          · refine step env1 r' none L [] he1 (fun _ h => h) (by simpa using h) (fun envF X L' hge hsub => .inr ⟨(tr envF hge).2, ?_⟩) (by simp) (fun t ht => .inl ht)
            rw [hc, (tr envF hge).1]
            exact .inl ⟨rfl, f, vs, ys, hv, by rw [List.append_nil]; exact hf X, hp⟩
          · refine step env1 _ (some H.length) L [some ⟨e, sz, els⟩] he1 (fun _ h => h) h (fun envF X L' hge hsub => .inr ⟨(tr envF hge).2, ?_⟩) (fun h' e => by cases e; simp) (fun t ht => .inl ht)
            rw [hc, (tr envF hge).1]
            exact .inr ⟨_, rfl, f, vs, ys, e, sz, els, hv, by rw [List.append_assoc]; exact hf _, hp, by rw [AHeap.obj_push_lt (by simp)]; exact AHeap.obj_push_eq, rfl⟩
        · exact h.elim
      · exact h.elim
    · refine step env1 (.tuple []) none L [] he1 (fun _ h => h) (by simpa using h) (fun envF X L' hge hsub => .inl ⟨hg.congr fun q want hq => hge q (by simp [slotsOf, hq]), rfl, rfl⟩) (by simp) (fun t ht => .inl ht)


/-- What is known of a statement from the first write on. -/
def Info2 (s : IStmt) (envF : AEnv) (Ps : List AHeap) (N : Nat) (G : Nat → AHeap) (ph : Nat) (V : AV) : Prop :=
  s.guard = none ∧ match cls s.op with
    | .pure => ∀ H, qstep s.op (AEnv.trim envF s.uses) H = some (.val V)
    | .load => (∀ H, H ∈ Ps → qstep s.op (AEnv.trim envF s.uses) H = some (.val V)) ∧ ∀ p, p ≤ N → qstep s.op (AEnv.trim envF s.uses) (G p) = some (.val V)
    | .write => ∃ x, sstep s.op (AEnv.trim envF s.uses) (G ph) = some (x, G (ph + 1)) ∧ V = x.getD (.tuple [])
    | _ => False

def isW (s : IStmt) : Bool := match cls s.op with | .write => true | _ => false
def nW (ss : List IStmt) : Nat := (ss.filter isW).length

structure Ext2 (ss : List IStmt) (L : List (IOp × AEnv × AV)) (Ps : List AHeap) (K : AEnv → AHeap → Prop) (env : AEnv) (H : AHeap) (envF : AEnv) (G : Nat → AHeap) (Vs : List AV) : Prop where
  start : G 0 = H
  post : K envF (G (nW ss))
  lenV : Vs.length = ss.length
  other : ∀ t, t ∉ dstsOf ss → AEnv.get envF t = AEnv.get env t
  info : ∀ (i : Nat) s V, ss[i]? = some s → Vs[i]? = some V → (∀ d, s.dst = some d → AEnv.get envF d = some V) ∧ Info2 s envF Ps (nW ss) G (nW (ss.take i)) V
  lok : ∀ p, 0 < p → p ≤ nW ss → ∀ t, t ∈ L → qstep t.1 t.2.1 (G p) = some (.val t.2.2)

theorem Info2.congr {s e e' Ps N G ph V} (h : Info2 s e Ps N G ph V) (he : ∀ t, t ∈ s.uses → AEnv.get e' t = AEnv.get e t) : Info2 s e' Ps N G ph V := by
  unfold Info2 at *
  rw [trim_congr (e := e') (e' := e) _ he]
  exact h

theorem awpD2_ext : ∀ (ss : List IStmt) (L : List (IOp × AEnv × AV)) (Ps : List AHeap) (K : AEnv → AHeap → Prop) (env : AEnv) (H : AHeap), ssa ss = true → awpD2 ss L Ps K env H → ∃ envF G Vs, Ext2 ss L Ps K env H envF G Vs
  | [], L, Ps, K, env, H, _, h => ⟨env, fun _ => H, [], rfl, h, rfl, fun _ _ => rfl, by simp, fun p h1 h2 => by simp [nW] at h2; omega⟩
  | s :: r, L, Ps, K, env, H, hssa, h => by
    simp only [ssa, Bool.and_eq_true] at hssa
    obtain ⟨⟨hu, hd⟩, hr⟩ := hssa
    have huse : ∀ t, t ∈ s.uses → s.dst ≠ some t ∧ t ∉ dstsOf r := fun t ht => by
      have := List.all_eq_true.1 hu t (by simp [slotsOf, ht])
      simpa using this
    have hdst : ∀ d, s.dst = some d → d ∉ dstsOf r := fun d e => by rw [e] at hd; simpa using hd
    simp only [awpD2] at h
    split at h
    · rename_i hg hc
      split at h
      · rename_i v hv
        obtain ⟨envF, G, Vs, ex⟩ := awpD2_ext r L Ps K _ _ hr h
        have hW : isW s = false := by unfold isW; rw [hc]
        have hget : ∀ t, t ∈ s.uses → AEnv.get envF t = AEnv.get env t := fun t ht => by
          rw [ex.other t (huse t ht).2, get_envput_ne (huse t ht).1]
        have hn : ∀ l, nW (s :: l) = nW l := fun l => by simp [nW, hW]
        refine ⟨envF, G, v :: Vs, ex.start, by rw [hn]; exact ex.post, by simp [ex.lenV], fun t ht => ?_, fun i s' V' a1 a2 => ?_, by rw [hn]; exact ex.lok⟩
        · obtain ⟨h1, h2⟩ := mem_dsts.1 ht
          rw [ex.other t h2, get_envput_ne h1]
        · cases i with
          | zero =>
            simp at a1 a2; subst a1; subst a2
            refine ⟨fun d e => by rw [ex.other d (hdst d e), e, get_envput_eq], hg, ?_⟩
            rw [hc, trim_congr _ hget]
            exact fun H' => by rw [qstep_indep (.inl hc) _ H' H]; exact hv
          | succ i =>
            rw [List.take_succ_cons, hn, hn]
            exact ex.info i s' V' (by simpa using a1) (by simpa using a2)
      · exact h.elim
    · rename_i hg hc
      split at h
      · rename_i v hv
        obtain ⟨envF, G, Vs, ex⟩ := awpD2_ext r ((s.op, AEnv.trim env s.uses, v) :: L) Ps K _ _ hr h.2
        have hW : isW s = false := by unfold isW; rw [hc]
        have hget : ∀ t, t ∈ s.uses → AEnv.get envF t = AEnv.get env t := fun t ht => by
          rw [ex.other t (huse t ht).2, get_envput_ne (huse t ht).1]
        have hn : ∀ l, nW (s :: l) = nW l := fun l => by simp [nW, hW]
        refine ⟨envF, G, v :: Vs, ex.start, by rw [hn]; exact ex.post, by simp [ex.lenV], fun t ht => ?_, fun i s' V' a1 a2 => ?_, fun p h1 h2 t ht => ex.lok p h1 (by rw [hn] at h2; exact h2) t (by simp [ht])⟩
        · obtain ⟨h1, h2⟩ := mem_dsts.1 ht
          rw [ex.other t h2, get_envput_ne h1]
        · cases i with
          | zero =>
            simp at a1 a2; subst a1; subst a2
            refine ⟨fun d e => by rw [ex.other d (hdst d e), e, get_envput_eq], hg, ?_⟩
            rw [hc, trim_congr _ hget]
            refine ⟨h.1, fun p hp => ?_⟩
            rw [hn] at hp
            cases p with
            | zero => rw [ex.start]; exact hv
            | succ p => exact ex.lok (p + 1) (by omega) hp (s.op, AEnv.trim env s.uses, v) (by simp)
          | succ i =>
            rw [List.take_succ_cons, hn, hn]
            exact ex.info i s' V' (by simpa using a1) (by simpa using a2)
      · exact h.elim
    · rename_i hg hc
      split at h
      · rename_i x H' hv
        obtain ⟨envF, G, Vs, ex⟩ := awpD2_ext r L (H :: Ps) K _ _ hr h.2
        have hW : isW s = true := by unfold isW; rw [hc]
        have hget : ∀ t, t ∈ s.uses → AEnv.get envF t = AEnv.get env t := fun t ht => by
          rw [ex.other t (huse t ht).2, get_envput_ne (huse t ht).1]
        have hn : ∀ l, nW (s :: l) = nW l + 1 := fun l => by simp [nW, hW]
        let G' : Nat → AHeap := fun p => match p with | 0 => H | p + 1 => G p
        refine ⟨envF, G', (x.getD (.tuple [])) :: Vs, rfl, by rw [hn]; exact ex.post, by simp [ex.lenV], fun t ht => ?_, fun i s' V' a1 a2 => ?_, fun p h1 h2 t ht => ?_⟩
        · obtain ⟨h1, h2⟩ := mem_dsts.1 ht
          rw [ex.other t h2, get_envput_ne h1]
        · cases i with
          | zero =>
            simp at a1 a2; subst a1; subst a2
            refine ⟨fun d e => by rw [ex.other d (hdst d e), e, get_envput_eq], hg, ?_⟩
            rw [hc, trim_congr _ hget]
            exact ⟨x, by show sstep s.op _ H = some (x, G 0); rw [ex.start]; exact hv, rfl⟩
          | succ i =>
            rw [List.take_succ_cons, hn, hn]
            obtain ⟨j1, j2, j3⟩ := ex.info i s' V' (by simpa using a1) (by simpa using a2)
            refine ⟨j1, j2, ?_⟩
            generalize hcl : cls s'.op = cl at j3 ⊢
            cases cl with
            | pure => exact j3
            | load =>
              refine ⟨fun Q hQ => j3.1 Q (by simp [hQ]), fun p hp => ?_⟩
              cases p with
              | zero => exact j3.1 H (by simp)
              | succ p => exact j3.2 p (by omega)
            | alloc => exact j3
            | call => exact j3
            | write => exact j3
        · cases p with
          | zero => omega
          | succ p =>
            rw [hn] at h2
            show qstep t.1 t.2.1 (G p) = _
            cases p with
            | zero => rw [ex.start]; exact h.1 t ht
            | succ p => exact ex.lok (p + 1) (by omega) (by omega) t ht
      · exact h.elim
    · exact h.elim

end Go.Awp
