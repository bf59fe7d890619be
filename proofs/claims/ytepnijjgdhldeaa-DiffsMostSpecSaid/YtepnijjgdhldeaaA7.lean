/- The walk as a reckoner: what a call of the program on values that are wholly known comes to. Generic in the program. -/
import Derived.Test.YtepnijjgdhldeaaA6
namespace Go.Awp
set_option linter.unusedSectionVars false
variable [Fx]
abbrev XC := FuncId → List AV → AHeap → Option (AV × AHeap)
abbrev XM := TypeId → String → Option FuncId
def XC.Ok (P : Program) (C : XC) : Prop := ∀ f xs H x H', C f xs H = some (x, H') → ACall P f xs H fun y K => y = x ∧ K = H'
def XM.Ok (P : Program) (M : XM) : Prop := ∀ t s f, M t s = some f → amethod P t s = some f
def xtarget (M : XM) (io : IOp) (env : AEnv) : Option (FuncId × List AV) :=
  match io with
  | .call f args => match evs env args with
    | some vs => some (f, vs)
    | none => none
  | .callv x args => match ev env x, evs env args with
    | some (.func (.func f) first caps), some vs => some (f, first ++ vs ++ caps)
    | _, _ => none
  | .invoke x name args => match ev env x, evs env args with
    | some (.iface t v), some vs => (match M t name with
      | some f => some (f, v :: vs)
      | none => none)
    | _, _ => none
  | _ => none
theorem xtarget_eq {P : Program} {M : XM} (hM : M.Ok P) {io : IOp} {env : AEnv} {r : FuncId × List AV} (h : xtarget M io env = some r) : target P io env = some r := by
  unfold xtarget at h
  split at h
  · exact h
  · exact h
  · split at h
    · rename_i hx hvs
      split at h
      · rename_i f hm
        simp only [target, hx, hvs, hM _ _ _ hm]
        exact h
      · cases h
    · cases h
  · cases h
def xop (M : XM) (C : XC) (io : IOp) (env : AEnv) (H : AHeap) : Option (AV × AHeap) :=
  match xtarget M io env with
  | some (f, vs) => C f vs H
  | none => match io with
    | .mknil => some (.nilSlice, H)
    | .isnil neg x => (match ev env x with
      | some v => (match alen H v with
        | some (.int _ n) => if 0 < n then some (.bool neg, H) else none
        | _ => none)
      | none => none)
    | io => (match sstep io env H with
      | some (some x, H') => some (x, H')
      | some (none, H') => some (.tuple [], H')
      | none => none)
section
variable {P : Program} {M : XM} {C : XC}
theorem sstep_call_none {io : IOp} (h : isCall io = true) (env : AEnv) (H : AHeap) : sstep io env H = none := by
  cases io <;> first | rfl | cases h
theorem xop_sound (hM : M.Ok P) (hC : C.Ok P) {io : IOp} {env : AEnv} {H H' : AHeap} {x : AV} {K : AV → AHeap → Prop} (h : xop M C io env H = some (x, H')) (hk : K x H') : acall P io env H K := by
  unfold xop at h
  split at h
  · rename_i f vs ht
    have hc := (hC f vs H x H' h).mono (R' := K) fun y G ⟨e1, e2⟩ => by rw [e1, e2]; exact hk
    have ht' := xtarget_eq hM ht
    unfold target at ht'
    split at ht'
    · split at ht'
      · rename_i us hus
        cases ht'
        simp only [acall, hus]; exact hc
      · cases ht'
    · split at ht'
      · rename_i hx hus
        cases ht'
        simp only [acall, hx, hus]; exact hc
      · cases ht'
    · split at ht'
      · rename_i hx hus
        split at ht'
        · rename_i hm
          cases ht'
          simp only [acall, hx, hus, hm]; exact hc
        · cases ht'
      · cases ht'
    · cases ht'
  · split at h
    · cases h; exact hk
    · rename_i neg x'
      simp only [acall]
      split at h
      · rename_i v hv
        split at h
        · rename_i k n hn
          split at h
          · rename_i h0
            cases h
            simp only [hv, hn, if_pos h0]; exact hk
          · cases h
        · cases h
      · cases h
    · rename_i hnn
      have hni : isCall io = false := by
        cases hcl : isCall io with
        | false => rfl
        | true => rw [sstep_call_none hcl] at h; cases h
      rw [acall_step hni]
      split at h
      · rename_i hs
        cases h
        rw [hs]; exact hk
      · rename_i hs
        cases h
        rw [hs]; exact hk
      · cases h
def xops (M : XM) (C : XC) : List IStmt → AEnv → AHeap → Option (AEnv × AHeap)
  | [], env, H => some (env, H)
  | s :: rest, env, H => match s.guard with
    | none => (match xop M C s.op env H with
      | some (x, H') => xops M C rest (envput s.dst x env) H'
      | none => none)
    | some (g, want) => (match AEnv.get env g with
      | some (.bool c) => if c = want then (match xop M C s.op ((g, .bool want) :: env) H with
          | some (x, H') => xops M C rest (envput s.dst x ((g, .bool want) :: env)) H'
          | none => none) else xops M C rest (envput s.dst (.tuple []) ((g, .bool (!want)) :: env)) H
      | some (.tuple []) => xops M C rest (envput s.dst (.tuple []) env) H
      | _ => none)
theorem xops_sound (hM : M.Ok P) (hC : C.Ok P) : ∀ {l : List IStmt} {env env' : AEnv} {H H' : AHeap} {K : AEnv → AHeap → Prop}, xops M C l env H = some (env', H') → K env' H' → awpOps P l K env H
  | [], env, env', H, H', K, h, hk => by cases h; exact hk
  | s :: rest, env, env', H, H', K, h, hk => by
    simp only [xops] at h
    simp only [awpOps]
    split at h
    · rename_i hg
      simp only [hg]
      split at h
      · rename_i x G hx
        exact xop_sound hM hC hx (xops_sound hM hC h hk)
      · cases h
    · rename_i g want hg
      simp only [hg]
      split at h
      · rename_i c hc
        simp only [hc]
        split at h
        · rename_i hcw
          split at h
          · rename_i x G hx
            exact ⟨fun _ => xop_sound hM hC hx (xops_sound hM hC h hk), fun e => by subst hcw; cases c <;> simp at e⟩
          · cases h
        · rename_i hcw
          exact ⟨fun e => absurd e hcw, fun _ => xops_sound hM hC h hk⟩
      · rename_i hc
        simp only [hc]
        exact xops_sound hM hC h hk
      · cases h
/-- What a new slice of simple values is. -/
def xnew (H : AHeap) : AV → Option (TypeId × Nat × List (List AV))
  | .own h ver 0 len => (match AHeap.obj H h with
    | some o => if ver = o.elems.length ∧ len = o.elems.length ∧ (o.elems.all fun el => el.length == o.s && el.all AV.simple) = true then some (o.e, o.s, o.elems) else none
    | none => none)
  | _ => none
theorem xnew_sound {H : AHeap} {x : AV} {e sz : Nat} {els : List (List AV)} (h : xnew H x = some (e, sz, els)) : NOut H x e sz els ∧ ∀ el, el ∈ els → el.length = sz ∧ ∀ x, x ∈ el → x.simple = true := by
  unfold xnew at h
  split at h
  · split at h
    · rename_i o ho
      split at h
      · rename_i hc
        obtain ⟨h1, h2, h3⟩ := hc
        cases h
        subst h1 h2
        exact ⟨⟨_, rfl, ho⟩, fun el hel => by simpa using List.all_eq_true.1 h3 el hel⟩
      · cases h
    · cases h
  · cases h
/-- A call in a region. -/
def xdcall (C : XC) (f : FuncId) (vs : List AV) (H : AHeap) : Option (AV × AHeap) :=
  match carL (carry false H 12) vs with
  | some ys => (match C f ys [] with
    | some (x, H1) => (match xnew H1 x with
      | some (e, sz, els) => some (.own H.length els.length 0 els.length, H ++ [some ⟨e, sz, els⟩])
      | none => (match carry true H1 12 x with
        | some r => some (r, H)
        | none => none))
    | none => none)
  | none => none
theorem xdcall_sound (hC : C.Ok P) {f : FuncId} {vs : List AV} {H H' : AHeap} {x : AV} {K : AV → AHeap → Prop} (h : xdcall C f vs H = some (x, H')) (hk : K x H') : DCall P f vs H K := by
  unfold xdcall at h
  split at h
  · rename_i ys hys
    split at h
    · rename_i y H1 hy
      have hc := hC f ys [] y H1 hy
      split at h
      · rename_i e sz els hn
        cases h
        obtain ⟨n1, n2⟩ := xnew_sound hn
        exact dcall_new (ACall.ncall n2 (hc.mono fun z G ⟨e1, e2⟩ => by rw [e1, e2]; exact n1)) (frzL_of hys) hk
      · split at h
        · rename_i r hr
          cases h
          exact dcall_pure (ACall.pcall (hc.mono fun z G ⟨e1, e2⟩ => by rw [e1, e2]; exact out_of hr)) (frzL_of hys) hk
        · cases h
    · cases h
  · cases h
def xstep1 (M : XM) (C : XC) (s : IStmt) (L : List (IOp × AEnv × AV)) (env : AEnv) (H : AHeap) : Option (List (IOp × AEnv × AV) × AEnv × AHeap) :=
  match cls s.op with
  | .pure => (match qstep s.op (AEnv.trim env s.uses) H with
    | some (.val v) => some (L, envput s.dst v env, H)
    | _ => none)
  | .load => (match qstep s.op (AEnv.trim env s.uses) H with
    | some (.val v) => some (if s.late then (s.op, AEnv.trim env s.uses, v) :: L else L, envput s.dst v env, H)
    | _ => none)
  | .alloc => (match qstep s.op (AEnv.trim env s.uses) H with
    | some (.box e sz cells) => some (L, envput s.dst (.ptr H.length 1 0 0) env, H ++ [some ⟨e, sz, [cells]⟩])
    | some (.arr e sz els) => some (L, envput s.dst (.own H.length els.length 0 els.length) env, H ++ [some ⟨e, sz, els⟩])
    | _ => none)
  | .call => (match xtarget M s.op (AEnv.trim env s.uses) with
    | some (f, vs) => (match xdcall C f vs H with
      | some (r, H') => some (L, envput s.dst r env, H')
      | none => none)
    | none => none)
  | .write => none
def xD1 (M : XM) (C : XC) : List IStmt → List (IOp × AEnv × AV) → AEnv → AHeap → Option (List (IOp × AEnv × AV) × AEnv × AHeap)
  | [], L, env, H => some (L, env, H)
  | s :: rest, L, env, H => match s.guard with
    | none => (match xstep1 M C s L env H with
      | some (L', env', H') => xD1 M C rest L' env' H'
      | none => none)
    | some (g, want) => (match AEnv.get env g with
      | some (.bool c) => if c = want then (match xstep1 M C s L ((g, .bool want) :: env) H with
          | some (L', env', H') => xD1 M C rest L' env' H'
          | none => none) else xD1 M C rest L (envput s.dst (.tuple []) ((g, .bool (!want)) :: env)) H
      | some (.tuple []) => xD1 M C rest L (envput s.dst (.tuple []) env) H
      | _ => none)
theorem xD1_sound (hM : M.Ok P) (hC : C.Ok P) : ∀ {l : List IStmt} {L L' : List (IOp × AEnv × AV)} {env env' : AEnv} {H H' : AHeap} {K : List (IOp × AEnv × AV) → AEnv → AHeap → Prop}, xD1 M C l L env H = some (L', env', H') → K L' env' H' → awpD1 P l L K env H
  | [], L, L', env, env', H, H', K, h, hk => by cases h; exact hk
  | s :: rest, L, L', env, env', H, H', K, h, hk => by
    have step : ∀ (env : AEnv) {L1 env1 H1}, xstep1 M C s L env H = some (L1, env1, H1) → xD1 M C rest L1 env1 H1 = some (L', env', H') →
        (match cls s.op with
        | .pure => (match qstep s.op (AEnv.trim env s.uses) H with
          | some (.val v) => awpD1 P rest L K (envput s.dst v env) H
          | _ => False)
        | .load => (match qstep s.op (AEnv.trim env s.uses) H with
          | some (.val v) => awpD1 P rest (if s.late then (s.op, AEnv.trim env s.uses, v) :: L else L) K (envput s.dst v env) H
          | _ => False)
        | .alloc => (match qstep s.op (AEnv.trim env s.uses) H with
          | some (.box e sz cells) => awpD1 P rest L K (envput s.dst (.ptr H.length 1 0 0) env) (H ++ [some ⟨e, sz, [cells]⟩])
          | some (.arr e sz els) => awpD1 P rest L K (envput s.dst (.own H.length els.length 0 els.length) env) (H ++ [some ⟨e, sz, els⟩])
          | _ => False)
        | .call => (match target P s.op (AEnv.trim env s.uses) with
          | some (f, vs) => (∃ ys r, (∀ X : AHeap, FrzL (H ++ X) vs ys) ∧ PCall P f ys r ∧ awpD1 P rest L K (envput s.dst r env) H) ∨
              (∃ ys e sz els, (∀ X : AHeap, FrzL (H ++ X) vs ys) ∧ NCall P f ys e sz els ∧ awpD1 P rest L K (envput s.dst (.own H.length els.length 0 els.length) env) (H ++ [some ⟨e, sz, els⟩]))
          | none => False)
        | .write => False) := by
      intro env L1 env1 H1 h1 h2
      have hrec := xD1_sound hM hC h2 hk
      unfold xstep1 at h1
      generalize hcls : cls s.op = cl at h1 ⊢
      cases cl with
      | pure =>
        simp only at h1 ⊢
        split at h1
        · rename_i hq; cases h1; first | exact hrec | (simp only [hq]; exact hrec) | (rw [hq]; exact hrec)
        · cases h1
      | load =>
        simp only at h1 ⊢
        split at h1
        · rename_i hq; cases h1; first | exact hrec | (simp only [hq]; exact hrec) | (rw [hq]; exact hrec)
        · cases h1
      | alloc =>
        simp only at h1 ⊢
        split at h1
        · rename_i hq; cases h1; first | exact hrec | (simp only [hq]; exact hrec) | (rw [hq]; exact hrec)
        · rename_i hq; cases h1; first | exact hrec | (simp only [hq]; exact hrec) | (rw [hq]; exact hrec)
        · cases h1
      | call =>
        simp only at h1 ⊢
        split at h1
        · rename_i f vs ht
          split at h1
          · rename_i r H2 hx
            cases h1
            simp only [xtarget_eq hM ht]
            exact xdcall_sound hC (K := fun r H' => awpD1 P rest L K (envput s.dst r env) H') hx hrec
          · cases h1
        · cases h1
      | write => cases h1
    simp only [xD1] at h
    simp only [awpD1, guardD]
    split at h
    · rename_i hg
      simp only [hg]
      split at h
      · rename_i hx
        exact step env hx h
      · cases h
    · rename_i g want hg
      simp only [hg]
      split at h
      · rename_i c hc
        simp only [hc]
        split at h
        · rename_i hcw
          split at h
          · rename_i hx
            exact ⟨fun _ => step _ hx h, fun e => by subst hcw; cases c <;> simp at e⟩
          · cases h
        · rename_i hcw
          exact ⟨fun e => absurd e hcw, fun _ => xD1_sound hM hC h hk⟩
      · rename_i hc
        simp only [hc]
        exact xD1_sound hM hC h hk
      · cases h
def atomEq : AV → AV → Bool
  | .bool a, .bool b => a == b
  | .int k a, .int k' b => decide (k = k') && decide (a = b)
  | .ptr a b c d, .ptr a' b' c' d' => a == a' && b == b' && c == c' && d == d'
  | .own a b c d, .own a' b' c' d' => a == a' && b == b' && c == c' && d == d'
  | .nilSlice, .nilSlice => true
  | _, _ => false
theorem atomEq_sound {x y : AV} (h : atomEq x y = true) : x = y := by
  unfold atomEq at h
  split at h <;> simp_all
def cellsEq : List AV → List AV → Bool
  | [], [] => true
  | x :: r, y :: s => atomEq x y && cellsEq r s
  | _, _ => false
theorem cellsEq_sound : ∀ {x y : List AV}, cellsEq x y = true → x = y
  | [], [], _ => rfl
  | x :: r, y :: s, h => by
    simp only [cellsEq, Bool.and_eq_true] at h
    rw [atomEq_sound h.1, cellsEq_sound h.2]
  | [], _ :: _, h => by cases h
  | _ :: _, [], h => by cases h
def rowsEq : List (List AV) → List (List AV) → Bool
  | [], [] => true
  | x :: r, y :: s => cellsEq x y && rowsEq r s
  | _, _ => false
theorem rowsEq_sound : ∀ {x y : List (List AV)}, rowsEq x y = true → x = y
  | [], [], _ => rfl
  | x :: r, y :: s, h => by
    simp only [rowsEq, Bool.and_eq_true] at h
    rw [cellsEq_sound h.1, rowsEq_sound h.2]
  | [], _ :: _, h => by cases h
  | _ :: _, [], h => by cases h
def valEq : AV → AV → Bool
  | .agg a, .agg b => cellsEq a b
  | .rop a, .rop b => cellsEq a b
  | .ro f a, .ro g b => f == g && rowsEq a b
  | a, b => atomEq a b
theorem valEq_sound {x y : AV} (h : valEq x y = true) : x = y := by
  unfold valEq at h
  split at h
  · rw [cellsEq_sound h]
  · rw [cellsEq_sound h]
  · simp only [Bool.and_eq_true] at h
    rw [rowsEq_sound h.2]
    simp at h
    rw [h.1]
  · exact atomEq_sound h
def xsame (H : AHeap) : List (IOp × AEnv × AV) → Bool
  | [] => true
  | (io, env, v) :: r => (match qstep io env H with | some (.val x) => valEq x v | _ => false) && xsame H r
theorem xsame_sound {H : AHeap} : ∀ {L : List (IOp × AEnv × AV)}, xsame H L = true → ∀ t, t ∈ L → qstep t.1 t.2.1 H = some (.val t.2.2)
  | [], _, t, ht => by cases ht
  | (io, env, v) :: r, h, t, ht => by
    simp only [xsame, Bool.and_eq_true] at h
    rcases List.mem_cons.1 ht with rfl | ht
    · have h1 := h.1
      split at h1
      · rename_i x hx
        rw [hx, valEq_sound h1]
      · cases h1
    · exact xsame_sound h.2 t ht
def xpast (io : IOp) (env : AEnv) (v : AV) : List AHeap → Bool
  | [] => true
  | G :: r => (match qstep io env G with | some (.val x) => valEq x v | _ => false) && xpast io env v r
theorem xpast_sound {io : IOp} {env : AEnv} {v : AV} : ∀ {Ps : List AHeap}, xpast io env v Ps = true → ∀ G, G ∈ Ps → qstep io env G = some (.val v)
  | [], _, G, h => by cases h
  | Q :: r, hp, G, h => by
    simp only [xpast, Bool.and_eq_true] at hp
    rcases List.mem_cons.1 h with rfl | h
    · have h1 := hp.1
      split at h1
      · rename_i x hx
        rw [hx, valEq_sound h1]
      · cases h1
    · exact xpast_sound hp.2 G h
def xD2 : List IStmt → List (IOp × AEnv × AV) → List AHeap → AEnv → AHeap → Option (AEnv × AHeap)
  | [], _, _, env, H => some (env, H)
  | s :: rest, L, Ps, env, H => match s.guard, cls s.op with
    | none, .pure => (match qstep s.op (AEnv.trim env s.uses) H with
      | some (.val v) => xD2 rest L Ps (envput s.dst v env) H
      | _ => none)
    | none, .load => (match qstep s.op (AEnv.trim env s.uses) H with
      | some (.val v) => if xpast s.op (AEnv.trim env s.uses) v Ps then xD2 rest ((s.op, AEnv.trim env s.uses, v) :: L) Ps (envput s.dst v env) H else none
      | _ => none)
    | none, .write => (match sstep s.op (AEnv.trim env s.uses) H with
      | some (x, H') => if xsame H' L then xD2 rest L (H :: Ps) (envput s.dst (x.getD (.tuple [])) env) H' else none
      | none => none)
    | _, _ => none
theorem xD2_sound : ∀ {l : List IStmt} {L : List (IOp × AEnv × AV)} {Ps : List AHeap} {env env' : AEnv} {H H' : AHeap} {K : AEnv → AHeap → Prop}, xD2 l L Ps env H = some (env', H') → K env' H' → awpD2 l L Ps K env H
  | [], L, Ps, env, env', H, H', K, h, hk => by cases h; exact hk
  | s :: rest, L, Ps, env, env', H, H', K, h, hk => by
    simp only [xD2] at h
    simp only [awpD2]
    split at h
    · rename_i hg hc
      simp only [hg, hc]
      split at h
      · rename_i hq; simp only [hq]; exact xD2_sound h hk
      · cases h
    · rename_i hg hc
      simp only [hg, hc]
      split at h
      · rename_i hq
        split at h
        · rename_i hp
          simp only [hq]; exact ⟨xpast_sound hp, xD2_sound h hk⟩
        · cases h
      · cases h
    · rename_i hg hc
      simp only [hg, hc]
      split at h
      · rename_i hq
        split at h
        · rename_i hs
          simp only [hq]
          exact ⟨xsame_sound hs, xD2_sound h hk⟩
        · cases h
      · cases h
    · cases h
abbrev XR := Option (AX × AEnv × AHeap)
def xiter (step : AEnv → AHeap → XR) : Nat → AEnv → AHeap → XR
  | 0, _, _ => none
  | k + 1, env, H => match step env H with
    | some (.normal, env', H') => xiter step k env' H'
    | r => r
def xscope (step : AEnv → AHeap → XR) (l : Nat) : Nat → AEnv → AHeap → XR
  | 0, _, _ => none
  | k + 1, env, H => match step env H with
    | some (.goto l', env', H') => if l' = l then xscope step l k env' H' else some (.goto l', env', H')
    | r => r
def xrun (M : XM) (C : XC) (N : Nat) : IR → AEnv → AHeap → XR
  | .skip, env, H => some (.normal, env, H)
  | .ops l, env, H => (match xops M C l env H with | some (e, h) => some (.normal, e, h) | none => none)
  | .opsD pre post tl, env, H => (match xD1 M C pre [] env H with
    | some (L, e, h) => (match xD2 post L [] e h with
      | some (e, h) => (match xops M C tl e h with | some (e, h) => some (.normal, e, h) | none => none)
      | none => none)
    | none => none)
  | .opsA _ _, _, _ => none
  | .trim k, env, H => some (.normal, AEnv.trim env k, H)
  | .seq a b, env, H => (match xrun M C N a env H with
    | some (.normal, e, h) => xrun M C N b e h
    | r => r)
  | .cond c a b, env, H => (match ev env c with
    | some (.bool true) => xrun M C N a env H
    | some (.bool false) => xrun M C N b env H
    | _ => none)
  | .block id a, env, H => (match xrun M C N a env H with
    | some (.exit i, e, h) => if i = id then some (.normal, e, h) else some (.exit i, e, h)
    | r => r)
  | .loop a, env, H => xiter (xrun M C N a) N env H
  | .exit id, env, H => some (.exit id, env, H)
  | .ret, env, H => some (.ret, env, H)
  | .label _, env, H => some (.normal, env, H)
  | .goto l, env, H => some (.goto l, env, H)
  | .scope a l r, env, H => (match xrun M C N a env H with
    | some (.goto l', e, h) => if l' = l then xscope (xrun M C N r) l N e h else some (.goto l', e, h)
    | r => r)
  | .fail, _, _ => none
theorem xrun_sound (hM : M.Ok P) (hC : C.Ok P) {N : Nat} : ∀ {c : IR} {env env' : AEnv} {H H' : AHeap} {x : AX} {Q : AX → AEnv → AHeap → Prop}, xrun M C N c env H = some (x, env', H') → Q x env' H' → awp P c Q env H := by
  intro c
  induction c with
  | skip => intro env env' H H' x Q h hq; cases h; exact hq
  | opsA t tl => intro env env' H H' x Q h hq; cases h
  | ops l =>
    intro env env' H H' x Q h hq
    simp only [xrun] at h
    split at h
    · rename_i e1 h1 hx; cases h; exact xops_sound hM hC hx hq
    · cases h
  | opsD pre post tl =>
    intro env env' H H' x Q h hq
    simp only [xrun] at h
    split at h
    · rename_i h1
      split at h
      · rename_i h2
        split at h
        · rename_i h3
          cases h
          exact xD1_sound hM hC h1 (xD2_sound h2 (xops_sound hM hC h3 hq))
        · cases h
      · cases h
    · cases h
  | trim k => intro env env' H H' x Q h hq; cases h; exact hq
  | seq a b iha ihb =>
    intro env env' H H' x Q h hq
    simp only [xrun] at h
    simp only [awp]
    split at h
    · rename_i e1 h1 hx
      exact iha hx (ihb h hq)
    · rename_i hne
      refine iha h ?_
      split
      · exact (hne _ _ h).elim
      · exact hq
  | cond c a b iha ihb =>
    intro env env' H H' x Q h hq
    simp only [xrun] at h
    simp only [awp]
    split at h
    · rename_i hc; simp only [hc]; exact ⟨fun _ => iha h hq, fun e => by cases e⟩
    · rename_i hc; simp only [hc]; exact ⟨fun e => (by cases e), fun _ => ihb h hq⟩
    · cases h
  | block id a ih =>
    intro env env' H H' x Q h hq
    simp only [xrun] at h
    simp only [awp]
    split at h
    · rename_i i e1 h1 hx
      refine ih hx ?_
      simp only
      split at h
      · rename_i hi; cases h; rw [if_pos hi]; exact hq
      · rename_i hi; cases h; rw [if_neg hi]; exact hq
    · rename_i hne
      refine ih h ?_
      split
      · exact (hne _ _ _ h).elim
      · exact hq
  | loop a ih =>
    intro env env' H H' x Q h hq
    simp only [xrun] at h
    refine ⟨fun k e g => xiter (xrun M C N a) k e g = some (x, env', H'), N, h, fun k e g hk => ?_⟩
    cases k with
    | zero => cases hk
    | succ k =>
      simp only [xiter] at hk
      split at hk
      · rename_i e1 h1 hx
        exact ih hx ⟨k, Nat.lt_succ_self k, hk⟩
      · rename_i hne
        refine ih hk ?_
        split
        · exact (hne _ _ hk).elim
        · exact hq
  | exit id => intro env env' H H' x Q h hq; cases h; exact hq
  | ret => intro env env' H H' x Q h hq; cases h; exact hq
  | label l => intro env env' H H' x Q h hq; cases h; exact hq
  | goto l => intro env env' H H' x Q h hq; cases h; exact hq
  | scope a l r iha ihr =>
    intro env env' H H' x Q h hq
    simp only [xrun] at h
    refine ⟨fun k e g => xscope (xrun M C N r) l k e g = some (x, env', H'), ?_, fun k e g hk => ?_⟩
    · split at h
      · rename_i l' e1 h1 hx
        refine iha hx ?_
        simp only
        split at h
        · rename_i hl; rw [if_pos hl]; exact ⟨N, h⟩
        · rename_i hl; cases h; rw [if_neg hl]; exact hq
      · rename_i hne
        refine iha h ?_
        split
        · exact (hne _ _ _ h).elim
        · exact hq
    · cases k with
      | zero => cases hk
      | succ k =>
        simp only [xscope] at hk
        split at hk
        · rename_i l' e1 h1 hx
          refine ihr hx ?_
          simp only
          split at hk
          · rename_i hl; rw [if_pos hl]; exact ⟨k, Nat.lt_succ_self k, hk⟩
          · rename_i hl; cases hk; rw [if_neg hl]; exact hq
        · rename_i hne
          refine ihr hk ?_
          split
          · exact (hne _ _ _ hk).elim
          · exact hq
  | fail => intro env env' H H' x Q h hq; cases h
structure XFn where
  n : Nat
  ir : IR
  rs : List RV1
abbrev XT := List (FuncId × XFn)
def xlook : XT → FuncId → Option XFn
  | [], _ => none
  | (g, x) :: r, f => if Nat.beq g f then some x else xlook r f
def XT.Ok (P : Program) : XT → Prop
  | [] => True
  | (f, x) :: r => Text P f x.n x.ir x.rs ∧ XT.Ok P r
theorem xlook_ok {f : FuncId} {x : XFn} : ∀ {T : XT}, XT.Ok P T → xlook T f = some x → Text P f x.n x.ir x.rs
  | [], _, h => by cases h
  | (g, y) :: r, hT, h => by
    simp only [xlook] at h
    split at h
    · rename_i hg
      cases h
      have := Nat.eq_of_beq_eq_true hg
      subst this
      exact hT.1
    · exact xlook_ok hT.2 h
def xret (rs : List RV1) (H : AHeap) (env : AEnv) : Option (AV × AHeap) :=
  match rgets env H rs with
  | some l => some (retv l, H)
  | none => none
def xcall (T : XT) (M : XM) (N : Nat) : Nat → XC
  | 0, _, _, _ => none
  | k + 1, f, xs, H => match xlook T f with
    | some fn => if xs.length ≤ fn.n then (match xrun M (xcall T M N k) N fn.ir (argsEnv 0 xs) H with
        | some (.normal, env, H') => xret fn.rs H' env
        | some (.ret, env, H') => xret fn.rs H' env
        | _ => none) else none
    | none => none
theorem xcall_ok {T : XT} (hT : T.Ok P) (hM : M.Ok P) {N : Nat} : ∀ k, XC.Ok P (xcall T M N k) := by
  intro k
  induction k with
  | zero => intro f xs H x H' h; cases h
  | succ k ih =>
    intro f xs H x H' h
    simp only [xcall] at h
    split at h
    · rename_i fn hfn
      split at h
      · rename_i hl
        have key : ∀ env G, xret fn.rs G env = some (x, H') → (match rgets env G fn.rs with | some l => (retv l = x ∧ G = H') | none => False) := by
          intro env G h
          unfold xret at h
          split at h
          · rename_i l hr; cases h; exact ⟨rfl, rfl⟩
          · cases h
        split at h
        · rename_i env G hx
          exact ACall.intro (xlook_ok hT hfn) hl (xrun_sound hM ih hx (Q := fnPost fn.rs fun y K => y = x ∧ K = H') (key env G h))
        · rename_i env G hx
          exact ACall.intro (xlook_ok hT hfn) hl (xrun_sound hM ih hx (Q := fnPost fn.rs fun y K => y = x ∧ K = H') (key env G h))
        · cases h
      · cases h
    · cases h
def xtrue : Option (AV × AHeap) → Bool
  | some (.bool true, _) => true
  | _ => false
/-- A function that hands back true, by reckoning. -/
theorem xcall_true {T : XT} (hT : T.Ok P) (hM : M.Ok P) {N k f : Nat} {xs : List AV} (h : xtrue (xcall T M N k f xs []) = true) : PCall P f xs (.bool true) := by
  cases hx : xcall T M N k f xs [] with
  | none => rw [hx] at h; cases h
  | some r =>
    obtain ⟨y, H'⟩ := r
    rw [hx] at h
    have : y = .bool true := by
      unfold xtrue at h
      split at h
      · rename_i e; cases e; rfl
      · cases h
    subst this
    exact ACall.pcall ((xcall_ok hT hM k f xs [] _ _ hx).mono fun z G ⟨e1, _⟩ => by rw [e1]; exact fun w m B v st hv m' H' B' _ _ => hv.simple rfl)
end
end Go.Awp
