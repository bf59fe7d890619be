/- From a walk over a function's text to the function's contract. Generic in the program. -/
import Derived.Test.YtepnijjgdhldeaaLt
namespace Go.Awp
open Go.RowKit (Below)

inductive RV1 where
  | tmp (t : Nat)
  | cell (s : Nat) (g : Bool) (t : Nat)

def trRes (P : Program) : List ResultVar → Option (List RV1)
  | [] => some []
  | .tmp t :: r => match trRes P r with
    | some l => some (.tmp t :: l)
    | none => none
  | .cell a t :: r => match P.info? t, P.underlying t, trRes P r with
    | some i, some d, some l => some (.cell i.size (isAggD d) a :: l)
    | _, _, _ => none

def rgets (env : AEnv) (H : AHeap) : List RV1 → Option (List AV)
  | [] => some []
  | .tmp t :: r => match AEnv.get env t, rgets env H r with
    | some x, some l => some (x :: l)
    | _, _ => none
  | .cell s g t :: r => match AEnv.get env t with
    | some p => (match deref H p with
      | some cells => (match qload s g cells, rgets env H r with
        | some x, some l => some (x :: l)
        | _, _ => none)
      | none => none)
    | none => none

def retv : List AV → AV
  | [x] => x
  | l => .tuple l

def res1 (tmps : Array Value) : ResultVar → Sem Value
  | .tmp t => pure (tmps.getD t undef)
  | .cell p t => do loadVar t (← asAddr (tmps.getD p undef))

section
variable {P : Program} {n : Nat} {w : World} {m : AMap} {H : AHeap} {B : Nat} {env : AEnv} {a : Act}

theorem rgets_sound (st : St w m H B) (fr : FR n w m H B env a) : ∀ (rs : List ResultVar) (l : List RV1) (xs : List AV), trRes P rs = some l → rgets env H l = some xs →
    ∃ vs : List Value, (rs.mapM (res1 a.tmps)).run P w = .ok vs w ∧ xs.length = vs.length ∧ ∀ (i : Nat) (x : AV) (v : Value), xs[i]? = some x → vs[i]? = some v → RV w m H B x v
  | [], l, xs, h, hx => by
    cases h; cases hx
    exact ⟨[], by simp, rfl, by simp⟩
  | .tmp t :: rs, l, xs, h, hx => by
    simp only [trRes] at h
    split at h
    · rename_i l' hl'
      cases h
      simp only [rgets] at hx
      split at hx
      · rename_i x r hg hr
        cases hx
        obtain ⟨vs, q1, q2, q3⟩ := rgets_sound st fr rs l' r hl' hr
        obtain ⟨v, h1, h2⟩ := fr.slots t x hg
        refine ⟨v :: vs, ?_, by simp [q2], fun i y u e1 e2 => ?_⟩
        · simp only [List.mapM_cons, res1, Sem.run_bind, Sem.run_pure, Result.andThen_ok, q1]
          simp [h1]
        · cases i with
          | zero => simp at e1 e2; subst e1; subst e2; exact h2
          | succ i => exact q3 i y u (by simpa using e1) (by simpa using e2)
      · cases hx
    · cases h
  | .cell p t :: rs, l, xs, h, hx => by
    simp only [trRes] at h
    split at h
    · rename_i i d l' hi hd hl'
      cases h
      simp only [rgets] at hx
      split at hx
      · rename_i x hg
        split at hx
        · rename_i cells hc
          split at hx
          · rename_i y r hq hr
            cases hx
            obtain ⟨vs, q1, q2, q3⟩ := rgets_sound st fr rs l' r hl' hr
            obtain ⟨v, h1, h2⟩ := fr.slots p x hg
            obtain ⟨ad, e1, e2⟩ := deref_sound st h2 hc
            obtain ⟨u, f1, f2⟩ := load_cells e2 hi hd hq
            refine ⟨u :: vs, ?_, by simp [q2], fun i y u e1 e2 => ?_⟩
            · have hge : a.tmps.getD p undef = .pointer (some ad) := by simp [h1, e1]
              simp only [List.mapM_cons, res1, Sem.run_bind, Sem.run_pure, Result.andThen_ok, q1, hge, asAddr, f1]
            · cases i with
              | zero => simp at e1 e2; subst e1; subst e2; exact f2
              | succ i => exact q3 i y u (by simpa using e1) (by simpa using e2)
          · cases hx
        · cases hx
      · cases hx
    · cases h

theorem results_sound (st : St w m H B) (fr : FR n w m H B env a) {fn : Func} {l : List RV1} {xs : List AV} (h : trRes P fn.results.toList = some l) (hx : rgets env H l = some xs) :
    ∃ v, (results fn a.tmps).run P w = .ok v w ∧ RV w m H B (retv xs) v := by
  obtain ⟨vs, q1, q2, q3⟩ := rgets_sound st fr _ l xs h hx
  have hm : (fn.results.mapM (res1 a.tmps)).run P w = .ok vs.toArray w := by
    rw [Array.mapM_eq_mapM_toList, Sem.run_map, q1, Result.andThen_ok]
  have hr : (results fn a.tmps).run P w = .ok (if h : vs.toArray.size = 1 then vs.toArray[0] else .tuple vs.toArray) w := by
    have hf : results fn a.tmps = (do let vs ← fn.results.mapM (res1 a.tmps); pure (if h : vs.size = 1 then vs[0] else .tuple vs)) := by
      unfold results
      congr 1
    rw [hf, Sem.run_bind, hm]
    rfl
  refine ⟨_, hr, ?_⟩
  have tup : RV w m H B (.tuple xs) (.tuple vs.toArray) := .tuple _ _ (by simpa using q2) (fun i x v a b => q3 i x v a (by simpa using b))
  unfold retv
  split
  · have h1 : vs.length = 1 := by simpa using q2.symm
    rw [dif_pos (by simpa using h1)]
    refine q3 0 _ _ rfl ?_
    simp [h1]
  · rename_i hne
    rw [dif_neg ?_]
    · exact tup
    · intro h1
      have h2 : xs.length = 1 := by rw [q2]; simpa using h1
      obtain ⟨x, hx⟩ := List.length_eq_one_iff.1 h2
      exact hne x hx
end

def fnPost (rs : List RV1) (R : AV → AHeap → Prop) : AX → AEnv → AHeap → Prop := fun x env H =>
  match x with
  | .normal => (match rgets env H rs with | some l => R (retv l) H | none => False)
  | .ret => (match rgets env H rs with | some l => R (retv l) H | none => False)
  | _ => False

def argsEnv : Nat → List AV → AEnv
  | _, [] => []
  | k, x :: r => (k, x) :: argsEnv (k + 1) r

theorem argsEnv_get : ∀ (xs : List AV) (k t : Nat) (x : AV), AEnv.get (argsEnv k xs) t = some x → k ≤ t ∧ xs[t - k]? = some x
  | [], k, t, x, h => by cases h
  | y :: xs, k, t, x, h => by
    simp only [argsEnv, AEnv.get] at h
    by_cases hk : k = t
    · rw [if_pos hk] at h
      subst hk
      exact ⟨Nat.le_refl _, by simpa using h⟩
    · rw [if_neg hk] at h
      obtain ⟨h1, h2⟩ := argsEnv_get xs (k + 1) t x h
      refine ⟨by omega, ?_⟩
      rw [show t - k = (t - (k + 1)) + 1 by omega]
      simpa using h2

/-- What a function's text, its translation and its results are: closed facts. -/
structure Text (P : Program) (f : FuncId) (n : Nat) (ir : IR) (rs : List RV1) : Prop where
  ok : ∃ (fn : Func) (draw : List (Nat × Nat × Nat × List Nat)) (keep : List (Nat × List Nat)), P.funcs[f]? = some fn ∧ fn.ntmps = n ∧ fn.body.bind (trCode P n (fun id => (draw.lookup id).getD (0, 0, [])) (fun id => keep.lookup id)) = some ir ∧ trRes P fn.results.toList = some rs ∧ P.follows .mixedOrders = true
  call : callable P f = true

theorem run_text {P : Program} {f : FuncId} {n : Nat} {ir : IR} {rs : List RV1} (t : Text P f n ir rs) {xs : List AV} (hl : xs.length ≤ n) {H : AHeap} {R : AV → AHeap → Prop} (h : awp P ir (fnPost rs R) (argsEnv 0 xs) H) {w : World} {m : AMap} {B : Nat} {vs : Array Value} (st : St w m H B) (ha : Args w m H B xs vs) :
    Calls P f vs w fun e w' => ∃ v x m' H', e = .returned v ∧ R x H' ∧ St w' m' H' B ∧ Adv w m H w' m' H' ∧ RV w' m' H' B x v := by
  obtain ⟨fn, draw, keep, hf, hn, hbind, hrs, hd⟩ := t.ok
  obtain ⟨c, hb, htr⟩ := Option.bind_eq_some_iff.1 hbind
  refine calls_of_wp hf hb ?_
  have hsz : vs.size ≤ n := by rw [← ha.1]; exact hl
  have rel : Rel n w m H B (argsEnv 0 xs) H { tmps := vs ++ Array.replicate (fn.ntmps - vs.size) undef, defers := [] } w := by
    refine ⟨m, ⟨rfl, by simp [hn]; omega, fun t x e => ?_⟩, st, Adv.refl _ _ _⟩
    obtain ⟨_, h2⟩ := argsEnv_get xs 0 t x e
    rw [Nat.sub_zero] at h2
    have hlt : t < vs.size := by rw [← ha.1]; exact (List.getElem?_eq_some_iff.1 h2).1
    exact ⟨vs[t], by rw [Array.getElem?_append_left hlt]; exact Array.getElem?_eq_getElem hlt, ha.2 t x _ h2 (Array.getElem?_eq_getElem hlt)⟩
  refine wp_mono (awp_sound hd c ir htr _ _ _ _ _ rel h) fun e a' w' hx => ?_
  have fin : (∃ env' H', (match rgets env' H' rs with | some l => R (retv l) H' | none => False) ∧ Rel n w m H B env' H' a' w') → a'.defers = [] ∧ ∃ v, (results fn a'.tmps).run P w' = .ok v w' ∧ ∃ v' x m' H', Ending.returned v = .returned v' ∧ R x H' ∧ St w' m' H' B ∧ Adv w m H w' m' H' ∧ RV w' m' H' B x v' := by
    intro ⟨env', H', h1, m', fr', st', ad'⟩
    split at h1
    · rename_i l hl'
      obtain ⟨v, p1, p2⟩ := results_sound st' fr' hrs hl'
      exact ⟨fr'.defers, v, p1, v, _, m', H', rfl, h1, st', ad', p2⟩
    · exact h1.elim
  cases e with
  | normal => exact fin hx
  | ret => exact fin hx
  | exit id => obtain ⟨_, _, h1, _⟩ := hx; exact h1.elim
  | goto l => obtain ⟨_, _, h1, _⟩ := hx; exact h1.elim
  | panic c => exact hx.elim
  | outgrown => exact hx.elim

theorem ACall.intro {P : Program} {f : FuncId} {n : Nat} {ir : IR} {rs : List RV1} (t : Text P f n ir rs) {xs : List AV} (hl : xs.length ≤ n) {H : AHeap} {R : AV → AHeap → Prop} (h : awp P ir (fnPost rs R) (argsEnv 0 xs) H) : ACall P f xs H R :=
  ⟨t.call, fun _ _ _ _ st ha => run_text t hl h st ha⟩

/-- What is handed back, as plain data: as whoever called may keep it. -/
def Out (H : AHeap) (x r : AV) : Prop := ∀ (w : World) (m : AMap) (B : Nat) (v : Value), St w m H B → RV w m H B x v → ∀ (m' : AMap) (H' : AHeap) (B' : Nat), B' ≤ B → (∀ h b, m' h = some b → b < B) → RV w m' H' B' r v

theorem St.empty (w : World) : St w (fun _ => none) [] w.heap.size := ⟨Nat.le_refl _, fun _ _ e => (by cases e), fun _ _ _ e => (by cases e)⟩

theorem PCall.intro {P : Program} {f : FuncId} {n : Nat} {ir : IR} {rs : List RV1} (t : Text P f n ir rs) {xs : List AV} (hl : xs.length ≤ n) {r : AV} (h : awp P ir (fnPost rs fun x H' => Out H' x r) (argsEnv 0 xs) []) : PCall P f xs r := by
  refine ⟨t.call, fun w vs ha => ?_⟩
  refine (run_text t hl h (St.empty w) ha).mono fun e w' ⟨v, x, m', H', he, hr, st, ad, rv⟩ => ?_
  refine ⟨v, he, ⟨ad.os, ad.tape, ad.output, ad.size, fun k hk => ad.keep k hk (fun _ e => by cases e)⟩, fun m2 H2 B2 hB hm => ?_⟩
  exact hr w' m' w.heap.size v st rv m2 H2 B2 hB hm

/-- A new slice of simple values is handed back. -/
def NOut (H : AHeap) (x : AV) (e sz : Nat) (els : List (List AV)) : Prop := ∃ h, x = .own h els.length 0 els.length ∧ AHeap.obj H h = some ⟨e, sz, els⟩

theorem ACall.ncall {P : Program} {f : FuncId} {xs : List AV} {e sz : Nat} {els : List (List AV)} (hs : ∀ el, el ∈ els → el.length = sz ∧ ∀ x, x ∈ el → x.simple = true) (h : ACall P f xs [] fun x H' => NOut H' x e sz els) : NCall P f xs e sz els := by
  refine ⟨h.1, hs, fun w vs ha => ?_⟩
  refine (h.2 w _ _ vs (St.empty w) ha).mono fun en w' ⟨v, x, m', H', he, ⟨k, hx, ho⟩, st, ad, rv⟩ => ?_
  subst hx
  cases rv with
  | own _ _ _ _ a n cap hh hv =>
    obtain ⟨b, q1, q2, q3, q4, q5, q6, q7⟩ := (hv _ ho).2 rfl
    obtain ⟨g1, g2, o, cs, e1, e2, e3, e4⟩ := st.dom k b q1
    rw [ho] at e1; cases e1
    have ha := q2 (.inr rfl)
    subst ha q3
    simp only [Nat.zero_mul] at he
    refine ⟨b, cap, cs, he, ⟨ad.os, ad.tape, ad.output, ad.size, fun k hk => ad.keep k hk (fun _ e => by cases e)⟩, g1, g2, e2, q5, q6, ?_, fun i el j x a1 a2 => ?_⟩
    · simpa [World.shape?, e2] using q7
    · obtain ⟨v, p1, p2, p3⟩ := e4 i el j x a1 a2
      exact ⟨v, p1, p2.simple ((hs el (List.mem_of_getElem? a1)).2 x (List.mem_of_getElem? a2))⟩

theorem ACall.pcall {P : Program} {f : FuncId} {xs : List AV} {r : AV} (h : ACall P f xs [] fun x H' => Out H' x r) : PCall P f xs r := by
  refine ⟨h.1, fun w vs ha => ?_⟩
  refine (h.2 w _ _ vs (St.empty w) ha).mono fun e w' ⟨v, x, m', H', he, hr, st, ad, rv⟩ => ?_
  refine ⟨v, he, ⟨ad.os, ad.tape, ad.output, ad.size, fun k hk => ad.keep k hk (fun _ e => by cases e)⟩, fun m2 H2 B2 hB hm => ?_⟩
  exact hr w' m' w.heap.size v st rv m2 H2 B2 hB hm

theorem NCall.intro {P : Program} {f : FuncId} {n : Nat} {ir : IR} {rs : List RV1} (t : Text P f n ir rs) {xs : List AV} (hl : xs.length ≤ n) {e sz : Nat} {els : List (List AV)} (hs : ∀ el, el ∈ els → el.length = sz ∧ ∀ x, x ∈ el → x.simple = true)
    (h : awp P ir (fnPost rs fun x H' => NOut H' x e sz els) (argsEnv 0 xs) []) : NCall P f xs e sz els :=
  ACall.ncall hs (ACall.intro t hl h)

theorem awpOps_mono {P : Program} : ∀ (l : List IStmt) {K K' : AEnv → AHeap → Prop} (_ : ∀ e h, K e h → K' e h) {env : AEnv} {H : AHeap}, awpOps P l K env H → awpOps P l K' env H := by
  have acm : ∀ (io : IOp) {K K' : AV → AHeap → Prop} (hk : ∀ e h, K e h → K' e h) {env : AEnv} {H : AHeap}, acall P io env H K → acall P io env H K' := by
    intro io K K' hk env H h
    unfold acall at h ⊢
    split at h
    · split at h
      · exact h.mono hk
      · exact h
    · split at h
      · exact h.mono hk
      · exact h
    · split at h
      · split at h
        · split at h
          · rename_i h0; simp only [if_pos h0]; exact hk _ _ h
          · rename_i h0; simp only [if_neg h0]; exact fun b => hk _ _ (h b)
        · exact h
      · exact h
    · exact hk _ _ h
    · split at h
      · split at h
        · exact h.mono hk
        · exact h
      · exact h
    · split at h
      · exact hk _ _ h
      · exact hk _ _ h
      · exact h
  intro l
  induction l with
  | nil => intro K K' hk env H h; exact hk _ _ h
  | cons s r ih =>
    intro K K' hk env H h
    simp only [awpOps] at h ⊢
    split at h
    · exact acm _ (fun x H' h => ih hk h) h
    · rename_i g want hg
      split at h
      · rename_i c hc; try simp only [hc]
        exact ⟨fun e => acm _ (fun x H' h => ih hk h) (h.1 e), fun e => ih hk (h.2 e)⟩
      · rename_i hc; try simp only [hc]
        exact ih hk h
      · exact h.elim

theorem awpD1_mono {P : Program} : ∀ (l : List IStmt) {L : List (IOp × AEnv × AV)} {K K' : List (IOp × AEnv × AV) → AEnv → AHeap → Prop} (_ : ∀ L e h, K L e h → K' L e h) {env : AEnv} {H : AHeap}, awpD1 P l L K env H → awpD1 P l L K' env H
  | [], L, K, K', hk, env, H, h => hk _ _ _ h
  | s :: r, L, K, K', hk, env, H, h => by
    have gm : ∀ {g : Option (Nat × Bool)} {on off on' off' : AEnv → Prop} {env : AEnv}, (∀ e, on e → on' e) → (∀ e, off e → off' e) → guardD g env on off → guardD g env on' off' := by
      intro g on off on' off' env h1 h2 h
      unfold guardD at h ⊢
      split at h
      · exact h1 _ h
      · split at h
        · exact ⟨fun e => h1 _ (h.1 e), fun e => h2 _ (h.2 e)⟩
        · exact h2 _ h
        · exact h
    simp only [awpD1] at h ⊢
    refine gm (fun e h => ?_) (fun e h => awpD1_mono r hk h) h
    split at h
    · split at h
      · exact awpD1_mono r hk h
      · exact h
    · split at h
      · exact awpD1_mono r hk h
      · exact h
    · split at h
      · exact awpD1_mono r hk h
      · exact awpD1_mono r hk h
      · exact h
    · split at h
      · rcases h with ⟨ys, q, h1, h2, h3⟩ | ⟨ys, e', sz, els, h1, h2, h3⟩
        · exact .inl ⟨ys, q, h1, h2, awpD1_mono r hk h3⟩
        · exact .inr ⟨ys, e', sz, els, h1, h2, awpD1_mono r hk h3⟩
      · exact h
    · exact h

theorem awpD2_mono : ∀ (l : List IStmt) {L : List (IOp × AEnv × AV)} {Ps : List AHeap} {K K' : AEnv → AHeap → Prop} (_ : ∀ e h, K e h → K' e h) {env : AEnv} {H : AHeap}, awpD2 l L Ps K env H → awpD2 l L Ps K' env H
  | [], L, Ps, K, K', hk, env, H, h => hk _ _ h
  | s :: r, L, Ps, K, K', hk, env, H, h => by
    simp only [awpD2] at h ⊢
    split at h
    · split at h
      · exact awpD2_mono r hk h
      · exact h
    · split at h
      · exact ⟨h.1, awpD2_mono r hk h.2⟩
      · exact h
    · split at h
      · exact ⟨h.1, awpD2_mono r hk h.2⟩
      · exact h
    · exact h.elim

theorem awp_mono {P : Program} {c : IR} : ∀ {Q Q' : AX → AEnv → AHeap → Prop} (_ : ∀ x e h, Q x e h → Q' x e h) {env : AEnv} {H : AHeap}, awp P c Q env H → awp P c Q' env H := by
  induction c with
  | skip => intro Q Q' hq env H h; exact hq _ _ _ h
  | ops l => intro Q Q' hq env H h; exact awpOps_mono l (hq .normal) h
  | opsD pre post tl => intro Q Q' hq env H h; exact awpD1_mono pre (fun L e h => awpD2_mono post fun e h => awpOps_mono tl (hq .normal)) h
  | trim k => intro Q Q' hq env H h; exact hq _ _ _ h
  | seq a b iha ihb =>
    intro Q Q' hq env H h
    refine iha (fun x e h hx => ?_) h
    cases x with
    | normal => exact ihb hq hx
    | _ => exact hq _ _ _ hx
  | cond c a b iha ihb =>
    intro Q Q' hq env H h
    simp only [awp] at h ⊢
    split at h
    · exact ⟨fun e => iha hq (h.1 e), fun e => ihb hq (h.2 e)⟩
    · exact h
  | block id a ih =>
    intro Q Q' hq env H h
    refine ih (fun x e h hx => ?_) h
    cases x with
    | exit i =>
      simp only at hx ⊢
      split at hx
      · rename_i hi; rw [if_pos hi]; exact hq _ _ _ hx
      · rename_i hi; rw [if_neg hi]; exact hq _ _ _ hx
    | _ => exact hq _ _ _ hx
  | loop a ih =>
    intro Q Q' hq env H ⟨I, k0, h0, hr⟩
    refine ⟨I, k0, h0, fun k e h hI => ih (fun x e h hx => ?_) (hr k e h hI)⟩
    cases x with
    | normal => exact hx
    | _ => exact hq _ _ _ hx
  | exit id => intro Q Q' hq env H h; exact hq _ _ _ h
  | ret => intro Q Q' hq env H h; exact hq _ _ _ h
  | label l => intro Q Q' hq env H h; exact hq _ _ _ h
  | goto l => intro Q Q' hq env H h; exact hq _ _ _ h
  | scope a l r iha ihr =>
    intro Q Q' hq env H ⟨I, h0, hr⟩
    refine ⟨I, iha (fun x e h hx => ?_) h0, fun k e h hI => ihr (fun x e h hx => ?_) (hr k e h hI)⟩
    · cases x with
      | goto l' =>
        simp only at hx ⊢
        split at hx
        · rename_i hi; rw [if_pos hi]; exact hx
        · rename_i hi; rw [if_neg hi]; exact hq _ _ _ hx
      | _ => exact hq _ _ _ hx
    · cases x with
      | goto l' =>
        simp only at hx ⊢
        split at hx
        · rename_i hi; rw [if_pos hi]; exact hx
        · rename_i hi; rw [if_neg hi]; exact hq _ _ _ hx
      | _ => exact hq _ _ _ hx
  | fail => intro Q Q' hq env H h; exact h

end Go.Awp
