/- The text of a function: its translation, and the walk over it. Generic in the program. -/
import Derived.Test.YtepnijjgdhldeaaA3
import Derived.Scope
namespace Go.Awp
set_option linter.unusedSectionVars false
variable [Fx]
theorem wp_loop_idx {P : Program} {Q : Exit → Act → World → Prop} {a : Act} {w : World} {c : Code} (I : Nat → Act → World → Prop) {k0 : Nat} (h₀ : I k0 a w)
    (round : ∀ k a w, I k a w → c.wp P (Exit.then (fun a' w' => ∃ k', k' < k ∧ I k' a' w') Q) a w) : (Code.loop c).wp P Q a w := by
  intro b k cs
  have key : ∀ n a w, I n a w → ∃ e a' w', Q e a' w' ∧ Arrives P (lone (b.at a (.code c :: .inLoop c :: k)) cs w) b k cs e a' w' := by
    intro n
    induction n using Nat.strongRecOn with
    | _ n ih =>
      intro a w hI
      obtain ⟨e, a₁, w₁, hq, harr⟩ := round n a w hI b (.inLoop c :: k) cs
      cases e with
      | normal =>
        obtain ⟨k', hlt, hI₁⟩ := hq
        obtain ⟨e₂, a₂, w₂, hq₂, harr₂⟩ := ih k' hlt a₁ w₁ hI₁
        exact ⟨e₂, a₂, w₂, hq₂, .of_steps (Steps.trans harr (.one step_inLoop)) harr₂⟩
      | exit id => exact ⟨_, a₁, w₁, hq, .pass (x := .inLoop c) rfl (fun _ _ => .inl (by simp)) harr⟩
      | goto l => exact ⟨_, a₁, w₁, hq, .pass (x := .inLoop c) rfl (fun _ _ => .inl (by simp)) harr⟩
      | ret => exact ⟨_, a₁, w₁, hq, .pass (x := .inLoop c) rfl (fun _ _ => .inl (by simp)) harr⟩
      | panic ch => exact ⟨_, a₁, w₁, hq, .pass (x := .inLoop c) rfl (fun _ _ => .inl (by simp)) harr⟩
      | outgrown => exact ⟨_, a₁, w₁, hq, .pass (x := .inLoop c) rfl (fun _ _ => .inl (by simp)) harr⟩
  obtain ⟨e, a', w', hq, harr⟩ := key k0 a w h₀
  exact ⟨e, a', w', hq, .of_steps (.one step_loop) harr⟩
def Exit.scoped (c : Code) (l : Nat) (J : Act → World → Prop) (Q : Exit → Act → World → Prop) : Exit → Act → World → Prop
  | .goto l', a, w => if l' = l then J a w else findLabel c l' = none ∧ Q (.goto l') a w
  | e, a, w => Q e a w
theorem wp_scope_idx {P : Program} {Q : Exit → Act → World → Prop} {a : Act} {w : World} {c rest : Code} {l : Nat} (hf : findLabel c l = some rest) (I : Nat → Act → World → Prop)
    (h₀ : c.wp P (Exit.scoped c l (fun a w => ∃ k, I k a w) Q) a w) (round : ∀ k a w, I k a w → rest.wp P (Exit.scoped c l (fun a' w' => ∃ k', k' < k ∧ I k' a' w') Q) a w) : (Code.scope c).wp P Q a w := by
  intro b k cs
  have go : ∀ (d : Code) (J : Act → World → Prop) (a : Act) (w : World), d.wp P (Exit.scoped c l J Q) a w →
      (∀ a' w', J a' w' → ∃ e a₂ w₂, Q e a₂ w₂ ∧ Arrives P (lone (b.at a' (.code rest :: .inScope c :: k)) cs w') b k cs e a₂ w₂) →
      ∃ e a' w', Q e a' w' ∧ Arrives P (lone (b.at a (.code d :: .inScope c :: k)) cs w) b k cs e a' w' := by
    intro d J a w hd hJ
    obtain ⟨e, a₁, w₁, hq, harr⟩ := hd b (.inScope c :: k) cs
    cases e with
    | normal => exact ⟨.normal, a₁, w₁, hq, Steps.trans harr (.one step_inScope)⟩
    | exit id => exact ⟨.exit id, a₁, w₁, hq, fun k' hk => harr k' (by simp [exitTo, hk])⟩
    | goto l' =>
      simp only [Exit.scoped] at hq
      split at hq
      · rename_i hl
        subst hl
        obtain ⟨e₂, a₂, w₂, hq₂, harr₂⟩ := hJ a₁ w₁ hq
        exact ⟨e₂, a₂, w₂, hq₂, .of_steps (harr _ (by simp [gotoIn, hf])) harr₂⟩
      · exact ⟨.goto l', a₁, w₁, hq.2, fun k' hk => harr k' (by simp [gotoIn, hq.1, hk])⟩
    | ret => exact ⟨_, a₁, w₁, hq, harr⟩
    | panic ch => exact ⟨_, a₁, w₁, hq, harr⟩
    | outgrown => exact ⟨_, a₁, w₁, hq, harr⟩
  have key : ∀ n a w, I n a w → ∃ e a' w', Q e a' w' ∧ Arrives P (lone (b.at a (.code rest :: .inScope c :: k)) cs w) b k cs e a' w' := by
    intro n
    induction n using Nat.strongRecOn with
    | _ n ih =>
      intro a w hI
      exact go rest _ a w (round n a w hI) fun a' w' ⟨k', hlt, hI'⟩ => ih k' hlt a' w' hI'
  obtain ⟨e, a', w', hq, harr⟩ := go c _ a w h₀ fun a' w' ⟨k', hI'⟩ => key k' a' w' hI'
  exact ⟨e, a', w', hq, .of_steps (.one step_scope) harr⟩
inductive AX where
  | normal
  | exit (id : Nat)
  | goto (l : Nat)
  | ret
inductive IR where
  | skip
  | ops (l : List IStmt)
  | opsD (pre post tl : List IStmt)
  | opsA (t : AT) (tl : List IStmt)
  | trim (k : List Nat)
  | seq (a b : IR)
  | cond (c : Operand) (a b : IR)
  | block (id : Nat) (a : IR)
  | loop (a : IR)
  | exit (id : Nat)
  | ret
  | label (l : Nat)
  | goto (l : Nat)
  | scope (a : IR) (l : Nat) (r : IR)
  | fail
def findL : IR → Nat → Option IR
  | .seq a b, l => match findL a l with
    | some r => some (.seq r b)
    | none => findL b l
  | .label l', l => if l' == l then some .skip else none
  | _, _ => none
def labelsL : IR → List Nat
  | .seq a b => labelsL a ++ labelsL b
  | .label l => [l]
  | _ => []
theorem findL_mem : ∀ (c : IR) (l : Nat), l ∉ labelsL c → findL c l = none
  | .seq a b, l, h => by
    simp only [labelsL, List.mem_append, not_or] at h
    simp only [findL, findL_mem a l h.1, findL_mem b l h.2]
  | .label l', l, h => by
    simp only [labelsL, List.mem_singleton] at h
    simp only [findL]
    rw [if_neg]
    simpa using fun e => h e.symm
  | .skip, _, _ => rfl
  | .ops _, _, _ => rfl
  | .opsD _ _ _, _, _ => rfl
  | .opsA _ _, _, _ => rfl
  | .trim _, _, _ => rfl
  | .cond _ _ _, _, _ => rfl
  | .block _ _, _, _ => rfl
  | .loop _, _, _ => rfl
  | .exit _, _, _ => rfl
  | .ret, _, _ => rfl
  | .goto _, _, _ => rfl
  | .scope _ _ _, _, _ => rfl
  | .fail, _, _ => rfl
def awp (P : Program) : IR → (AX → AEnv → AHeap → Prop) → AEnv → AHeap → Prop
  | .skip, Q, env, H => Q .normal env H
  | .ops l, Q, env, H => awpOps P l (Q .normal) env H
  | .opsD pre post tl, Q, env, H => awpD1 P pre [] (fun L env H => awpD2 post L [] (fun env H => awpOps P tl (Q .normal) env H) env H) env H
  | .opsA t tl, Q, env, H => awpT P (fun env H => awpOps P tl (Q .normal) env H) t [] env H
  | .trim k, Q, env, H => Q .normal (AEnv.trim env k) H
  | .seq a b, Q, env, H => awp P a (fun x e h => match x with | .normal => awp P b Q e h | x => Q x e h) env H
  | .cond c a b, Q, env, H => match ev env c with
    | some (.bool t) => (t = true → awp P a Q env H) ∧ (t = false → awp P b Q env H)
    | _ => False
  | .block id a, Q, env, H => awp P a (fun x e h => match x with | .exit i => if i = id then Q .normal e h else Q (.exit i) e h | x => Q x e h) env H
  | .loop a, Q, env, H => ∃ (I : Nat → AEnv → AHeap → Prop) (k0 : Nat), I k0 env H ∧ ∀ k e h, I k e h → awp P a (fun x e' h' => match x with | .normal => ∃ k', k' < k ∧ I k' e' h' | x => Q x e' h') e h
  | .exit id, Q, env, H => Q (.exit id) env H
  | .ret, Q, env, H => Q .ret env H
  | .label _, Q, env, H => Q .normal env H
  | .goto l, Q, env, H => Q (.goto l) env H
  | .fail, _, _, _ => False
  | .scope a l r, Q, env, H => ∃ I : Nat → AEnv → AHeap → Prop, awp P a (fun x e h => match x with | .goto l' => if l' = l then ∃ k, I k e h else Q (.goto l') e h | x => Q x e h) env H ∧
      ∀ k e h, I k e h → awp P r (fun x e' h' => match x with | .goto l' => if l' = l then ∃ k', k' < k ∧ I k' e' h' else Q (.goto l') e' h' | x => Q x e' h') e h
def withTrim (keep : Option (List Nat)) (c : IR) : IR :=
  match keep with
  | some k => .seq c (.trim k)
  | none => c
def trCode (P : Program) (n : Nat) (draw : Nat → Nat × Nat × List Nat) (keep : Nat → Option (List Nat)) : Code → Option IR
  | .skip => some .skip
  | .region id ops false => match trStmts P n none ops.toList ops.toList with
    | some l => some (withTrim (keep id) (.ops l))
    | none => some .fail
  | .region id ops true => match trStmts P n (some (draw id).2.2) ops.toList (ops.toList.take (draw id).1), trStmts P n none ops.toList (ops.toList.drop (draw id).1) with
    | some ss, some tl => if drawChk ops.toList ss (draw id).1 (draw id).2.1 then some (withTrim (keep id) (.opsD (ss.take (draw id).2.1) (ss.drop (draw id).2.1) tl))
      else if drawChkA ops.toList ss (draw id).1 then some (withTrim (keep id) (.opsA (planT ss (prOf ops.toList) (rcOf ops.toList ss) (effs ss fun _ => false) fun _ => false) tl)) else some .fail
    | _, _ => some .fail
  | .seq a b => match trCode P n draw keep a, trCode P n draw keep b with
    | some x, some y => some (.seq x y)
    | _, _ => none
  | .cond c a b => match trCode P n draw keep a, trCode P n draw keep b with
    | some x, some y => some (.cond c x y)
    | _, _ => none
  | .block id a => match trCode P n draw keep a with
    | some x => some (.block id x)
    | none => none
  | .loop a => match trCode P n draw keep a with
    | some x => some (.loop x)
    | none => none
  | .exit id => some (.exit id)
  | .ret => some .ret
  | .label l => some (.label l)
  | .goto l => some (.goto l)
  | .scope a => match trCode P n draw keep a with
    | some x => (match labelsL x with
      | [l] => (match findL x l with
        | some r => some (.scope x l r)
        | none => none)
      | _ => none)
    | none => none
  | _ => none
/-- A post of the abstract walk, as one of the model's. -/
def QX (n : Nat) (w0 : World) (m0 : AMap) (H0 : AHeap) (B : Nat) (Q : AX → AEnv → AHeap → Prop) : Exit → Act → World → Prop
  | .normal, a, w => ∃ env H, Q .normal env H ∧ Rel n w0 m0 H0 B env H a w
  | .exit id, a, w => ∃ env H, Q (.exit id) env H ∧ Rel n w0 m0 H0 B env H a w
  | .goto l, a, w => ∃ env H, Q (.goto l) env H ∧ Rel n w0 m0 H0 B env H a w
  | .ret, a, w => ∃ env H, Q .ret env H ∧ Rel n w0 m0 H0 B env H a w
  | _, _, _ => False
section
variable {P : Program} {n : Nat} {draw : Nat → Nat × Nat × List Nat} {keep : Nat → Option (List Nat)} {w0 : World} {m0 : AMap} {H0 : AHeap} {B : Nat}
theorem trim_sound {id : Nat} {c : Code} {ir : IR} (W : (AEnv → AHeap → Prop) → Prop) {Q : AX → AEnv → AHeap → Prop} {env : AEnv} {H : AHeap} {a : Act} {w : World} (hir : ∀ Q', awp P ir Q' env H = W (Q' .normal))
    (hc : ∀ (K : AEnv → AHeap → Prop), W K → (∀ Q' : Exit → Act → World → Prop, (∀ env' H' a' w', K env' H' → Rel n w0 m0 H0 B env' H' a' w' → Q' .normal a' w') → c.wp P Q' a w))
    (h : awp P (withTrim (keep id) ir) Q env H) : c.wp P (QX n w0 m0 H0 B Q) a w := by
  unfold withTrim at h
  split at h
  · rename_i k _
    simp only [awp] at h
    rw [hir] at h
    refine hc _ h _ fun env' H' a' w' hk rel => ?_
    obtain ⟨m, fr, st, ad⟩ := rel
    exact ⟨_, H', hk, m, fr.trim k, st, ad⟩
  · rw [hir] at h
    exact hc _ h _ fun env' H' a' w' hk rel => ⟨env', H', hk, rel⟩
def Snd (c : Code) : Prop := ∀ (ir : IR), trCode P n draw keep c = some ir → ∀ (Q : AX → AEnv → AHeap → Prop) (env : AEnv) (H : AHeap) (a : Act) (w : World), Rel n w0 m0 H0 B env H a w → awp P ir Q env H → c.wp P (QX n w0 m0 H0 B Q) a w
theorem find_tr : ∀ (c : Code) (x : IR), trCode P n draw keep c = some x → ∀ l, match findLabel c l with
    | some rest => ∃ r, findL x l = some r ∧ trCode P n draw keep rest = some r
    | none => findL x l = none := by
  intro c
  induction c with
  | seq p q ihp ihq =>
    intro x h l
    simp only [trCode] at h
    split at h
    · rename_i p' q' hp hq
      cases h
      have h1 := ihp p' hp l
      have h2 := ihq q' hq l
      simp only [findLabel, findL]
      cases hl : findLabel p l with
      | some rest =>
        rw [hl] at h1
        obtain ⟨r, e1, e2⟩ := h1
        exact ⟨.seq r q', by simp only [e1], by simp only [trCode, e2, hq]⟩
      | none =>
        rw [hl] at h1
        simp only [h1]
        exact h2
    · cases h
  | label l' =>
    intro x h l
    cases h
    simp only [findLabel, findL]
    by_cases e : l' == l
    · simp only [e, if_true]; exact ⟨_, rfl, rfl⟩
    · simp only [e]; simp
  | region id ops b =>
    intro x h l
    have : findL x l = none := by
      cases b with
      | false =>
        simp only [trCode] at h
        split at h
        · cases h; unfold withTrim; split <;> rfl
        · cases h; rfl
      | true =>
        simp only [trCode] at h
        split at h
        · split at h
          · cases h; unfold withTrim; split <;> rfl
          · split at h
            · cases h; unfold withTrim; split <;> rfl
            · cases h; rfl
        · cases h; rfl
    simpa [findLabel] using this
  | cond c p q _ _ =>
    intro x h l
    simp only [trCode] at h
    split at h
    · cases h; simp [findLabel, findL]
    · cases h
  | block id p _ =>
    intro x h l
    simp only [trCode] at h
    split at h
    · cases h; simp [findLabel, findL]
    · cases h
  | loop p _ =>
    intro x h l
    simp only [trCode] at h
    split at h
    · cases h; simp [findLabel, findL]
    · cases h
  | scope p _ =>
    intro x h l
    simp only [trCode] at h
    split at h
    · split at h
      · split at h
        · cases h; simp [findLabel, findL]
        · cases h
      · cases h
    · cases h
  | skip => intro x h l; cases h; simp [findLabel, findL]
  | exit id => intro x h l; cases h; simp [findLabel, findL]
  | ret => intro x h l; cases h; simp [findLabel, findL]
  | goto g => intro x h l; cases h; simp [findLabel, findL]
  | _ => intro x h l; cases h
theorem Snd.seq {x y : Code} (hx : Snd (P := P) (n := n) (draw := draw) (keep := keep) (w0 := w0) (m0 := m0) (H0 := H0) (B := B) x) (hy : Snd (P := P) (n := n) (draw := draw) (keep := keep) (w0 := w0) (m0 := m0) (H0 := H0) (B := B) y) : Snd (P := P) (n := n) (draw := draw) (keep := keep) (w0 := w0) (m0 := m0) (H0 := H0) (B := B) (.seq x y) := by
  intro ir h Q env H a w rel hq
  simp only [trCode] at h
  split at h
  · rename_i p q hp hq'
    cases h
    refine wp_seq (wp_mono (hx p hp _ env H a w rel hq) fun e a' w' hx => ?_)
    cases e with
    | normal =>
      obtain ⟨env', H', h1, h2⟩ := hx
      exact hy q hq' Q env' H' a' w' h2 h1
    | _ => exact hx
  · cases h
theorem awp_sound0 (hmix : P.follows .mixedOrders = true) : ∀ (c : Code), Snd (P := P) (n := n) (draw := draw) (keep := keep) (w0 := w0) (m0 := m0) (H0 := H0) (B := B) c ∧ ∀ l rest, findLabel c l = some rest → Snd (P := P) (n := n) (draw := draw) (keep := keep) (w0 := w0) (m0 := m0) (H0 := H0) (B := B) rest := by
  intro c
  have triv : ∀ c : Code, (∀ l, findLabel c l = none) → Snd (P := P) (n := n) (draw := draw) (keep := keep) (w0 := w0) (m0 := m0) (H0 := H0) (B := B) c → Snd (P := P) (n := n) (draw := draw) (keep := keep) (w0 := w0) (m0 := m0) (H0 := H0) (B := B) c ∧ ∀ l rest, findLabel c l = some rest → Snd (P := P) (n := n) (draw := draw) (keep := keep) (w0 := w0) (m0 := m0) (H0 := H0) (B := B) rest := fun c h1 h2 => ⟨h2, fun l rest e => by rw [h1] at e; cases e⟩
  induction c with
  | skip =>
    refine triv _ (fun _ => rfl) ?_
    intro ir h Q env H a w rel hq; cases h; exact wp_skip ⟨env, H, hq, rel⟩
  | region id ops b =>
    refine triv _ (fun _ => rfl) ?_
    intro ir h Q env H a w rel hq
    cases b with
    | false =>
      simp only [trCode] at h
      split at h
      · rename_i l hl
        cases h
        refine trim_sound (fun K => awpOps P l K env H) (fun _ => rfl) (fun K hk Q' hQ' => wp_region_list ?_) hq
        exact awpOps_sound (ops := ops.toList) ops.toList l hl env H a w rel hk hQ'
      · cases h; exact hq.elim
    | true =>
      simp only [trCode] at h
      split at h
      · rename_i ss tl hss htl
        split at h
        · rename_i hchk
          cases h
          refine trim_sound (fun K => awpD1 P (ss.take (draw id).2.1) [] (fun L env H => awpD2 (ss.drop (draw id).2.1) L [] (fun env H => awpOps P tl K env H) env H) env H) (fun _ => rfl) (fun K hk Q' hQ' => ?_) hq
          exact draw_sound (ops := ops.toList) hmix hss htl hchk rel hk hQ'
        · split at h
          · rename_i hchk
            cases h
            refine trim_sound (fun K => awpT P (fun env H => awpOps P tl K env H) (planT ss (prOf ops.toList) (rcOf ops.toList ss) (effs ss fun _ => false) fun _ => false) [] env H) (fun _ => rfl) (fun K hk Q' hQ' => ?_) hq
            exact drawA_sound (ops := ops.toList) hmix hss htl hchk rel hk hQ'
          · cases h; exact hq.elim
      · cases h; exact hq.elim
  | seq x y ihx ihy =>
    refine ⟨ihx.1.seq ihy.1, fun l rest e => ?_⟩
    simp only [findLabel] at e
    split at e
    · rename_i r hr
      cases e
      exact (ihx.2 l r hr).seq ihy.1
    · exact ihy.2 l rest e
  | cond c x y ihx ihy =>
    refine triv _ (fun _ => rfl) ?_
    intro ir h Q env H a w rel hq
    simp only [trCode] at h
    split at h
    · rename_i p q hp hq'
      cases h
      simp only [awp] at hq
      split at hq
      · rename_i t ht
        obtain ⟨m, fr, st, ad⟩ := rel
        have hv := ev_sound fr ht
        generalize he : a.eval c = u at hv
        cases hv
        refine wp_cond_split he (fun e => ihx.1 p hp Q env H a w ⟨m, fr, st, ad⟩ (hq.1 e)) (fun e => ihy.1 q hq' Q env H a w ⟨m, fr, st, ad⟩ (hq.2 e))
      · exact hq.elim
    · cases h
  | block id x ih =>
    refine triv _ (fun _ => rfl) ?_
    intro ir h Q env H a w rel hq
    simp only [trCode] at h
    split at h
    · rename_i p hp
      cases h
      refine wp_block (wp_mono (ih.1 p hp _ env H a w rel hq) fun e a' w' hx => ?_)
      cases e with
      | exit i =>
        obtain ⟨env', H', h1, h2⟩ := hx
        simp only at h1
        simp only [Exit.inBlock]
        split at h1
        · rename_i hi
          rw [if_pos hi]
          exact ⟨env', H', h1, h2⟩
        · rename_i hi
          rw [if_neg hi]
          exact ⟨env', H', h1, h2⟩
      | _ => exact hx
    · cases h
  | loop x ih =>
    refine triv _ (fun _ => rfl) ?_
    intro ir h Q env H a w rel hq
    simp only [trCode] at h
    split at h
    · rename_i p hp
      cases h
      obtain ⟨I, k0, h0, hr⟩ := hq
      refine wp_loop_idx (fun k a w => ∃ env H, I k env H ∧ Rel n w0 m0 H0 B env H a w) (k0 := k0) ⟨env, H, h0, rel⟩ fun k a w ⟨env, H, hI, rel⟩ => ?_
      refine wp_mono (ih.1 p hp _ env H a w rel (hr k env H hI)) fun e a' w' hx => ?_
      cases e with
      | normal =>
        obtain ⟨env', H', ⟨k', hk', hI'⟩, rel'⟩ := hx
        exact ⟨k', hk', env', H', hI', rel'⟩
      | _ => exact hx
    · cases h
  | exit id => exact triv _ (fun _ => rfl) (by intro ir h Q env H a w rel hq; cases h; exact wp_exit ⟨env, H, hq, rel⟩)
  | ret => exact triv _ (fun _ => rfl) (by intro ir h Q env H a w rel hq; cases h; exact wp_ret ⟨env, H, hq, rel⟩)
  | goto l => exact triv _ (fun _ => rfl) (by intro ir h Q env H a w rel hq; cases h; exact wp_goto ⟨env, H, hq, rel⟩)
  | label l =>
    refine ⟨by intro ir h Q env H a w rel hq; cases h; exact wp_label ⟨env, H, hq, rel⟩, fun l' rest e => ?_⟩
    simp only [findLabel] at e
    split at e
    · cases e; intro ir h Q env H a w rel hq; cases h; exact wp_skip ⟨env, H, hq, rel⟩
    · cases e
  | scope c ih =>
    refine triv _ (fun _ => rfl) ?_
    intro ir h Q env H a w rel hq
    simp only [trCode] at h
    split at h
    · rename_i x hx
      split at h
      · rename_i l hl
        split at h
        · rename_i r hr
          cases h
          obtain ⟨I, h0, hrd⟩ := hq
          have hfl := find_tr c x hx
          have hother : ∀ l', l' ≠ l → findLabel c l' = none := by
            intro l' hne
            have h1 := hfl l'
            rw [findL_mem x l' (by rw [hl]; simpa using hne)] at h1
            cases hc : findLabel c l' with
            | none => rfl
            | some rest => rw [hc] at h1; obtain ⟨_, e, _⟩ := h1; cases e
          obtain ⟨rest, hrest, htr⟩ : ∃ rest, findLabel c l = some rest ∧ trCode P n draw keep rest = some r := by
            have h1 := hfl l
            cases hc : findLabel c l with
            | none => rw [hc] at h1; rw [h1] at hr; cases hr
            | some rest => rw [hc] at h1; obtain ⟨r', e1, e2⟩ := h1; rw [e1] at hr; cases hr; exact ⟨rest, rfl, e2⟩
          have step : ∀ (J : AEnv → AHeap → Prop) (d : Code) (ird : IR) (env : AEnv) (H : AHeap) (a : Act) (w : World), Snd (P := P) (n := n) (draw := draw) (keep := keep) (w0 := w0) (m0 := m0) (H0 := H0) (B := B) d → trCode P n draw keep d = some ird → Rel n w0 m0 H0 B env H a w →
              awp P ird (fun x e h => match x with | .goto l' => if l' = l then J e h else Q (.goto l') e h | x => Q x e h) env H → d.wp P (Exit.scoped c l (fun a w => ∃ env H, J env H ∧ Rel n w0 m0 H0 B env H a w) (QX n w0 m0 H0 B Q)) a w := by
            intro J d ird env H a w hd htr rel hq
            refine wp_mono (hd ird htr _ env H a w rel hq) fun e a' w' hx => ?_
            cases e with
            | goto l' =>
              obtain ⟨env', H', h1, h2⟩ := hx
              simp only at h1
              simp only [Exit.scoped]
              split
              · rename_i e; rw [if_pos e] at h1; exact ⟨env', H', h1, h2⟩
              · rename_i e; rw [if_neg e] at h1; exact ⟨hother l' e, env', H', h1, h2⟩
            | _ => exact hx
          refine wp_scope_idx hrest (fun k a w => ∃ env H, I k env H ∧ Rel n w0 m0 H0 B env H a w) ?_ ?_
          · refine wp_mono (step _ c x env H a w ih.1 hx rel h0) fun e a' w' hx => ?_
            cases e with
            | goto l' =>
              simp only [Exit.scoped] at hx ⊢
              split
              · rename_i e; rw [if_pos e] at hx
                obtain ⟨env', H', ⟨k, hk⟩, h2⟩ := hx
                exact ⟨k, env', H', hk, h2⟩
              · rename_i e; rw [if_neg e] at hx; exact hx
            | _ => exact hx
          · intro k a w ⟨env, H, hI, rel⟩
            refine wp_mono (step _ rest r env H a w (ih.2 l rest hrest) htr rel (hrd k env H hI)) fun e a' w' hx => ?_
            cases e with
            | goto l' =>
              simp only [Exit.scoped] at hx ⊢
              split
              · rename_i e; rw [if_pos e] at hx
                obtain ⟨env', H', ⟨k', hk, hI'⟩, h2⟩ := hx
                exact ⟨k', hk, env', H', hI', h2⟩
              · rename_i e; rw [if_neg e] at hx; exact hx
            | _ => exact hx
        · cases h
      · cases h
    · cases h
  | _ => exact triv _ (fun _ => rfl) (by intro ir h; cases h)
theorem awp_sound (hmix : P.follows .mixedOrders = true) (c : Code) (ir : IR) (h : trCode P n draw keep c = some ir) (Q : AX → AEnv → AHeap → Prop) (env : AEnv) (H : AHeap) (a : Act) (w : World) (rel : Rel n w0 m0 H0 B env H a w) (hq : awp P ir Q env H) : c.wp P (QX n w0 m0 H0 B Q) a w :=
  (awp_sound0 hmix c).1 ir h Q env H a w rel hq
end
end Go.Awp
/- From a walk over a function's text to the function's contract. Generic in the program. -/
namespace Go.Awp
set_option linter.unusedSectionVars false
variable [Fx]
open Go.RowKit (Below)
inductive RV1 where
  | tmp (t : Nat)
  | cell (s : Nat) (g : Bool) (t : Nat)
def trRes (P : Program) : List ResultVar → Option (List RV1)
  | [] => some []
  | .tmp t :: r => match trRes P r with
    | some l => some (.tmp t :: l)
    | none => none
  | .cell a t :: r => match P.info? t, P.underlying t, trRes P r with
    | some i, some d, some l => some (.cell i.size (isAggD d) a :: l)
    | _, _, _ => none
def rgets (env : AEnv) (H : AHeap) : List RV1 → Option (List AV)
  | [] => some []
  | .tmp t :: r => match AEnv.get env t, rgets env H r with
    | some x, some l => some (x :: l)
    | _, _ => none
  | .cell s g t :: r => match AEnv.get env t with
    | some p => (match deref H p with
      | some cells => (match qload s g cells, rgets env H r with
        | some x, some l => some (x :: l)
        | _, _ => none)
      | none => none)
    | none => none
def retv : List AV → AV
  | [x] => x
  | l => .tuple l
def res1 (tmps : Array Value) : ResultVar → Sem Value
  | .tmp t => pure (tmps.getD t undef)
  | .cell p t => do loadVar t (← asAddr (tmps.getD p undef))
section
variable {P : Program} {n : Nat} {w : World} {m : AMap} {H : AHeap} {B : Nat} {env : AEnv} {a : Act}
theorem rgets_sound (st : St w m H B) (fr : FR n w m H B env a) : ∀ (rs : List ResultVar) (l : List RV1) (xs : List AV), trRes P rs = some l → rgets env H l = some xs →
    ∃ vs : List Value, (rs.mapM (res1 a.tmps)).run P w = .ok vs w ∧ xs.length = vs.length ∧ ∀ (i : Nat) (x : AV) (v : Value), xs[i]? = some x → vs[i]? = some v → RV w m H B x v
  | [], l, xs, h, hx => by
    cases h; cases hx
    exact ⟨[], by simp, rfl, by simp⟩
  | .tmp t :: rs, l, xs, h, hx => by
    simp only [trRes] at h
    split at h
    · rename_i l' hl'
      cases h
      simp only [rgets] at hx
      split at hx
      · rename_i x r hg hr
        cases hx
        obtain ⟨vs, q1, q2, q3⟩ := rgets_sound st fr rs l' r hl' hr
        obtain ⟨v, h1, h2⟩ := fr.slots t x hg
        refine ⟨v :: vs, ?_, by simp [q2], fun i y u e1 e2 => ?_⟩
        · simp only [List.mapM_cons, res1, Sem.run_bind, Sem.run_pure, Result.andThen_ok, q1]
          simp [h1]
        · cases i with
          | zero => simp at e1 e2; subst e1; subst e2; exact h2
          | succ i => exact q3 i y u (by simpa using e1) (by simpa using e2)
      · cases hx
    · cases h
  | .cell p t :: rs, l, xs, h, hx => by
    simp only [trRes] at h
    split at h
    · rename_i i d l' hi hd hl'
      cases h
      simp only [rgets] at hx
      split at hx
      · rename_i x hg
        split at hx
        · rename_i cells hc
          split at hx
          · rename_i y r hq hr
            cases hx
            obtain ⟨vs, q1, q2, q3⟩ := rgets_sound st fr rs l' r hl' hr
            obtain ⟨v, h1, h2⟩ := fr.slots p x hg
            obtain ⟨ad, e1, e2⟩ := deref_sound st h2 hc
            obtain ⟨u, f1, f2⟩ := load_cells e2 hi hd hq
            refine ⟨u :: vs, ?_, by simp [q2], fun i y u e1 e2 => ?_⟩
            · have hge : a.tmps.getD p undef = .pointer (some ad) := by simp [h1, e1]
              simp only [List.mapM_cons, res1, Sem.run_bind, Sem.run_pure, Result.andThen_ok, q1, hge, asAddr, f1]
            · cases i with
              | zero => simp at e1 e2; subst e1; subst e2; exact f2
              | succ i => exact q3 i y u (by simpa using e1) (by simpa using e2)
          · cases hx
        · cases hx
      · cases hx
    · cases h
theorem results_sound (st : St w m H B) (fr : FR n w m H B env a) {fn : Func} {l : List RV1} {xs : List AV} (h : trRes P fn.results.toList = some l) (hx : rgets env H l = some xs) :
    ∃ v, (results fn a.tmps).run P w = .ok v w ∧ RV w m H B (retv xs) v := by
  obtain ⟨vs, q1, q2, q3⟩ := rgets_sound st fr _ l xs h hx
  have hm : (fn.results.mapM (res1 a.tmps)).run P w = .ok vs.toArray w := by
    rw [Array.mapM_eq_mapM_toList, Sem.run_map, q1, Result.andThen_ok]
  have hr : (results fn a.tmps).run P w = .ok (if h : vs.toArray.size = 1 then vs.toArray[0] else .tuple vs.toArray) w := by
    have hf : results fn a.tmps = (do let vs ← fn.results.mapM (res1 a.tmps); pure (if h : vs.size = 1 then vs[0] else .tuple vs)) := by
      unfold results
      congr 1
    rw [hf, Sem.run_bind, hm]
    rfl
  refine ⟨_, hr, ?_⟩
  have tup : RV w m H B (.tuple xs) (.tuple vs.toArray) := .tuple _ _ (by simpa using q2) (fun i x v a b => q3 i x v a (by simpa using b))
  unfold retv
  split
  · have h1 : vs.length = 1 := by simpa using q2.symm
    rw [dif_pos (by simpa using h1)]
    refine q3 0 _ _ rfl ?_
    simp [h1]
  · rename_i hne
    rw [dif_neg ?_]
    · exact tup
    · intro h1
      have h2 : xs.length = 1 := by rw [q2]; simpa using h1
      obtain ⟨x, hx⟩ := List.length_eq_one_iff.1 h2
      exact hne x hx
end
def fnPost (rs : List RV1) (R : AV → AHeap → Prop) : AX → AEnv → AHeap → Prop := fun x env H =>
  match x with
  | .normal => (match rgets env H rs with | some l => R (retv l) H | none => False)
  | .ret => (match rgets env H rs with | some l => R (retv l) H | none => False)
  | _ => False
def argsEnv : Nat → List AV → AEnv
  | _, [] => []
  | k, x :: r => (k, x) :: argsEnv (k + 1) r
theorem argsEnv_get : ∀ (xs : List AV) (k t : Nat) (x : AV), AEnv.get (argsEnv k xs) t = some x → k ≤ t ∧ xs[t - k]? = some x
  | [], k, t, x, h => by cases h
  | y :: xs, k, t, x, h => by
    simp only [argsEnv, AEnv.get] at h
    by_cases hk : k = t
    · rw [if_pos hk] at h
      subst hk
      exact ⟨Nat.le_refl _, by simpa using h⟩
    · rw [if_neg hk] at h
      obtain ⟨h1, h2⟩ := argsEnv_get xs (k + 1) t x h
      refine ⟨by omega, ?_⟩
      rw [show t - k = (t - (k + 1)) + 1 by omega]
      simpa using h2
/-- What a function's text, its translation and its results are: closed facts. -/
structure Text (P : Program) (f : FuncId) (n : Nat) (ir : IR) (rs : List RV1) : Prop where
  ok : ∃ (fn : Func) (draw : List (Nat × Nat × Nat × List Nat)) (keep : List (Nat × List Nat)), P.funcs[f]? = some fn ∧ fn.ntmps = n ∧ fn.body.bind (trCode P n (fun id => (draw.lookup id).getD (0, 0, [])) (fun id => keep.lookup id)) = some ir ∧ trRes P fn.results.toList = some rs ∧ P.follows .mixedOrders = true
  call : callable P f = true
theorem run_text {P : Program} {f : FuncId} {n : Nat} {ir : IR} {rs : List RV1} (t : Text P f n ir rs) {xs : List AV} (hl : xs.length ≤ n) {H : AHeap} {R : AV → AHeap → Prop} (h : awp P ir (fnPost rs R) (argsEnv 0 xs) H) {w : World} {m : AMap} {B : Nat} {vs : Array Value} (st : St w m H B) (ha : Args w m H B xs vs) :
    Calls P f vs w fun e w' => ∃ v x m' H', e = .returned v ∧ R x H' ∧ St w' m' H' B ∧ Adv w m H w' m' H' ∧ RV w' m' H' B x v := by
  obtain ⟨fn, draw, keep, hf, hn, hbind, hrs, hd⟩ := t.ok
  obtain ⟨c, hb, htr⟩ := Option.bind_eq_some_iff.1 hbind
  refine calls_of_wp hf hb ?_
  have hsz : vs.size ≤ n := by rw [← ha.1]; exact hl
  have rel : Rel n w m H B (argsEnv 0 xs) H { tmps := vs ++ Array.replicate (fn.ntmps - vs.size) undef, defers := [] } w := by
    refine ⟨m, ⟨rfl, by simp [hn]; omega, fun t x e => ?_⟩, st, Adv.refl _ _ _⟩
    obtain ⟨_, h2⟩ := argsEnv_get xs 0 t x e
    rw [Nat.sub_zero] at h2
    have hlt : t < vs.size := by rw [← ha.1]; exact (List.getElem?_eq_some_iff.1 h2).1
    exact ⟨vs[t], by rw [Array.getElem?_append_left hlt]; exact Array.getElem?_eq_getElem hlt, ha.2 t x _ h2 (Array.getElem?_eq_getElem hlt)⟩
  refine wp_mono (awp_sound hd c ir htr _ _ _ _ _ rel h) fun e a' w' hx => ?_
  have fin : (∃ env' H', (match rgets env' H' rs with | some l => R (retv l) H' | none => False) ∧ Rel n w m H B env' H' a' w') → a'.defers = [] ∧ ∃ v, (results fn a'.tmps).run P w' = .ok v w' ∧ ∃ v' x m' H', Ending.returned v = .returned v' ∧ R x H' ∧ St w' m' H' B ∧ Adv w m H w' m' H' ∧ RV w' m' H' B x v' := by
    intro ⟨env', H', h1, m', fr', st', ad'⟩
    split at h1
    · rename_i l hl'
      obtain ⟨v, p1, p2⟩ := results_sound st' fr' hrs hl'
      exact ⟨fr'.defers, v, p1, v, _, m', H', rfl, h1, st', ad', p2⟩
    · exact h1.elim
  cases e with
  | normal => exact fin hx
  | ret => exact fin hx
  | exit id => obtain ⟨_, _, h1, _⟩ := hx; exact h1.elim
  | goto l => obtain ⟨_, _, h1, _⟩ := hx; exact h1.elim
  | panic c => exact hx.elim
  | outgrown => exact hx.elim
theorem ACall.intro {P : Program} {f : FuncId} {n : Nat} {ir : IR} {rs : List RV1} (t : Text P f n ir rs) {xs : List AV} (hl : xs.length ≤ n) {H : AHeap} {R : AV → AHeap → Prop} (h : awp P ir (fnPost rs R) (argsEnv 0 xs) H) : ACall P f xs H R :=
  ⟨t.call, fun _ _ _ _ st ha => run_text t hl h st ha⟩
/-- What is handed back, as plain data: as whoever called may keep it. -/
def Out (H : AHeap) (x r : AV) : Prop := ∀ (w : World) (m : AMap) (B : Nat) (v : Value), St w m H B → RV w m H B x v → ∀ (m' : AMap) (H' : AHeap) (B' : Nat), B' ≤ B → (∀ h b, m' h = some b → b < B) → RV w m' H' B' r v
theorem St.empty (w : World) (fx : Fx.Ok w w.heap.size) : St w (fun _ => none) [] w.heap.size := ⟨Nat.le_refl _, fun _ _ e => (by cases e), fun _ _ _ e => (by cases e), fx⟩
theorem PCall.intro {P : Program} {f : FuncId} {n : Nat} {ir : IR} {rs : List RV1} (t : Text P f n ir rs) {xs : List AV} (hl : xs.length ≤ n) {r : AV} (h : awp P ir (fnPost rs fun x H' => Out H' x r) (argsEnv 0 xs) []) : PCall P f xs r := by
  refine ⟨t.call, fun w vs fx ha => ?_⟩
  refine (run_text t hl h (St.empty w fx) ha).mono fun e w' ⟨v, x, m', H', he, hr, st, ad, rv⟩ => ?_
  refine ⟨v, he, ⟨ad.os, ad.tape, ad.output, ad.size, fun k hk => ad.keep k hk (fun _ e => by cases e)⟩, fun m2 H2 B2 hB hm => ?_⟩
  exact hr w' m' w.heap.size v st rv m2 H2 B2 hB hm
/-- A new slice of simple values is handed back. -/
def NOut (H : AHeap) (x : AV) (e sz : Nat) (els : List (List AV)) : Prop := ∃ h, x = .own h els.length 0 els.length ∧ AHeap.obj H h = some ⟨e, sz, els⟩
theorem ACall.ncall {P : Program} {f : FuncId} {xs : List AV} {e sz : Nat} {els : List (List AV)} (hs : ∀ el, el ∈ els → el.length = sz ∧ ∀ x, x ∈ el → x.simple = true) (h : ACall P f xs [] fun x H' => NOut H' x e sz els) : NCall P f xs e sz els := by
  refine ⟨h.1, hs, fun w vs fx ha => ?_⟩
  refine (h.2 w _ _ vs (St.empty w fx) ha).mono fun en w' ⟨v, x, m', H', he, ⟨k, hx, ho⟩, st, ad, rv⟩ => ?_
  subst hx
  cases rv with
  | own _ _ _ _ a n cap hh hv =>
    obtain ⟨b, q1, q2, q3, q4, q5, q6, q7⟩ := (hv _ ho).2 rfl
    obtain ⟨g1, g2, o, cs, e1, e2, e3, e4⟩ := st.dom k b q1
    rw [ho] at e1; cases e1
    have ha := q2 (.inr rfl)
    subst ha q3
    simp only [Nat.zero_mul] at he
    refine ⟨b, cap, cs, he, ⟨ad.os, ad.tape, ad.output, ad.size, fun k hk => ad.keep k hk (fun _ e => by cases e)⟩, g1, g2, e2, q5, q6, ?_, fun i el j x a1 a2 => ?_⟩
    · simpa [World.shape?, e2] using q7
    · obtain ⟨v, p1, p2, p3⟩ := e4 i el j x a1 a2
      exact ⟨v, p1, p2.simple ((hs el (List.mem_of_getElem? a1)).2 x (List.mem_of_getElem? a2))⟩
theorem ACall.pcall {P : Program} {f : FuncId} {xs : List AV} {r : AV} (h : ACall P f xs [] fun x H' => Out H' x r) : PCall P f xs r := by
  refine ⟨h.1, fun w vs fx ha => ?_⟩
  refine (h.2 w _ _ vs (St.empty w fx) ha).mono fun e w' ⟨v, x, m', H', he, hr, st, ad, rv⟩ => ?_
  refine ⟨v, he, ⟨ad.os, ad.tape, ad.output, ad.size, fun k hk => ad.keep k hk (fun _ e => by cases e)⟩, fun m2 H2 B2 hB hm => ?_⟩
  exact hr w' m' w.heap.size v st rv m2 H2 B2 hB hm
theorem NCall.intro {P : Program} {f : FuncId} {n : Nat} {ir : IR} {rs : List RV1} (t : Text P f n ir rs) {xs : List AV} (hl : xs.length ≤ n) {e sz : Nat} {els : List (List AV)} (hs : ∀ el, el ∈ els → el.length = sz ∧ ∀ x, x ∈ el → x.simple = true)
    (h : awp P ir (fnPost rs fun x H' => NOut H' x e sz els) (argsEnv 0 xs) []) : NCall P f xs e sz els :=
  ACall.ncall hs (ACall.intro t hl h)
theorem awpOps_mono {P : Program} : ∀ (l : List IStmt) {K K' : AEnv → AHeap → Prop} (_ : ∀ e h, K e h → K' e h) {env : AEnv} {H : AHeap}, awpOps P l K env H → awpOps P l K' env H := by
  have acm : ∀ (io : IOp) {K K' : AV → AHeap → Prop} (hk : ∀ e h, K e h → K' e h) {env : AEnv} {H : AHeap}, acall P io env H K → acall P io env H K' := by
    intro io K K' hk env H h
    unfold acall at h ⊢
    split at h
    · split at h
      · exact h.mono hk
      · exact h
    · split at h
      · exact h.mono hk
      · exact h
    · split at h
      · split at h
        · split at h
          · rename_i h0; simp only [if_pos h0]; exact hk _ _ h
          · rename_i h0; simp only [if_neg h0]; exact fun b => hk _ _ (h b)
        · exact h
      · exact h
    · exact hk _ _ h
    · split at h
      · split at h
        · exact h.mono hk
        · exact h
      · exact h
    · split at h
      · exact hk _ _ h
      · exact hk _ _ h
      · exact h
  intro l
  induction l with
  | nil => intro K K' hk env H h; exact hk _ _ h
  | cons s r ih =>
    intro K K' hk env H h
    simp only [awpOps] at h ⊢
    split at h
    · exact acm _ (fun x H' h => ih hk h) h
    · rename_i g want hg
      split at h
      · rename_i c hc; try simp only [hc]
        exact ⟨fun e => acm _ (fun x H' h => ih hk h) (h.1 e), fun e => ih hk (h.2 e)⟩
      · rename_i hc; try simp only [hc]
        exact ih hk h
      · exact h.elim
theorem awpD1_mono {P : Program} : ∀ (l : List IStmt) {L : List (IOp × AEnv × AV)} {K K' : List (IOp × AEnv × AV) → AEnv → AHeap → Prop} (_ : ∀ L e h, K L e h → K' L e h) {env : AEnv} {H : AHeap}, awpD1 P l L K env H → awpD1 P l L K' env H
  | [], L, K, K', hk, env, H, h => hk _ _ _ h
  | s :: r, L, K, K', hk, env, H, h => by
    have gm : ∀ {g : Option (Nat × Bool)} {on off on' off' : AEnv → Prop} {env : AEnv}, (∀ e, on e → on' e) → (∀ e, off e → off' e) → guardD g env on off → guardD g env on' off' := by
      intro g on off on' off' env h1 h2 h
      unfold guardD at h ⊢
      split at h
      · exact h1 _ h
      · split at h
        · exact ⟨fun e => h1 _ (h.1 e), fun e => h2 _ (h.2 e)⟩
        · exact h2 _ h
        · exact h
    simp only [awpD1] at h ⊢
    refine gm (fun e h => ?_) (fun e h => awpD1_mono r hk h) h
    split at h
    · split at h
      · exact awpD1_mono r hk h
      · exact h
    · split at h
      · exact awpD1_mono r hk h
      · exact h
    · split at h
      · exact awpD1_mono r hk h
      · exact awpD1_mono r hk h
      · exact h
    · split at h
      · rcases h with ⟨ys, q, h1, h2, h3⟩ | ⟨ys, e', sz, els, h1, h2, h3⟩
        · exact .inl ⟨ys, q, h1, h2, awpD1_mono r hk h3⟩
        · exact .inr ⟨ys, e', sz, els, h1, h2, awpD1_mono r hk h3⟩
      · exact h
    · exact h
theorem awpD2_mono : ∀ (l : List IStmt) {L : List (IOp × AEnv × AV)} {Ps : List AHeap} {K K' : AEnv → AHeap → Prop} (_ : ∀ e h, K e h → K' e h) {env : AEnv} {H : AHeap}, awpD2 l L Ps K env H → awpD2 l L Ps K' env H
  | [], L, Ps, K, K', hk, env, H, h => hk _ _ h
  | s :: r, L, Ps, K, K', hk, env, H, h => by
    simp only [awpD2] at h ⊢
    split at h
    · split at h
      · exact awpD2_mono r hk h
      · exact h
    · split at h
      · exact ⟨h.1, awpD2_mono r hk h.2⟩
      · exact h
    · split at h
      · exact ⟨h.1, awpD2_mono r hk h.2⟩
      · exact h
    · exact h.elim
theorem acall_mono {P : Program} {io : IOp} {K K' : AV → AHeap → Prop} (hk : ∀ e h, K e h → K' e h) {env : AEnv} {H : AHeap} (h : acall P io env H K) : acall P io env H K' := by
  unfold acall at h ⊢
  split at h
  · split at h
    · exact h.mono hk
    · exact h
  · split at h
    · exact h.mono hk
    · exact h
  · split at h
    · split at h
      · split at h
        · rename_i h0; simp only [if_pos h0]; exact hk _ _ h
        · rename_i h0; simp only [if_neg h0]; exact fun b => hk _ _ (h b)
      · exact h
    · exact h
  · exact hk _ _ h
  · split at h
    · split at h
      · exact h.mono hk
      · exact h
    · exact h
  · split at h
    · exact hk _ _ h
    · exact hk _ _ h
    · exact h
theorem awpT_mono {P : Program} {K K' : AEnv → AHeap → Prop} (hk : ∀ e h, K e h → K' e h) : ∀ (t : AT) {L : LL} {env : AEnv} {H : AHeap}, awpT P K t L env H → awpT P K' t L env H
  | .fin, L, env, H, h => hk _ _ h
  | .pure s k, L, env, H, h => by
    simp only [awpT] at h ⊢
    split at h
    · exact awpT_mono hk k h
    · exact h
  | .load i s k, L, env, H, h => by
    simp only [awpT] at h ⊢
    split at h
    · exact awpT_mono hk k h
    · exact h
  | .stop, L, env, H, h => h
  | .alt s rc k r, L, env, H, h => ⟨acall_mono (fun x H' ⟨h1, h2⟩ => ⟨h1, awpT_mono hk k h2⟩) h.1, awpT_mono hk r h.2⟩
theorem awp_mono {P : Program} {c : IR} : ∀ {Q Q' : AX → AEnv → AHeap → Prop} (_ : ∀ x e h, Q x e h → Q' x e h) {env : AEnv} {H : AHeap}, awp P c Q env H → awp P c Q' env H := by
  induction c with
  | skip => intro Q Q' hq env H h; exact hq _ _ _ h
  | ops l => intro Q Q' hq env H h; exact awpOps_mono l (hq .normal) h
  | opsD pre post tl => intro Q Q' hq env H h; exact awpD1_mono pre (fun L e h => awpD2_mono post fun e h => awpOps_mono tl (hq .normal)) h
  | opsA t tl => intro Q Q' hq env H h; exact awpT_mono (fun e h => awpOps_mono tl (hq .normal)) t h
  | trim k => intro Q Q' hq env H h; exact hq _ _ _ h
  | seq a b iha ihb =>
    intro Q Q' hq env H h
    refine iha (fun x e h hx => ?_) h
    cases x with
    | normal => exact ihb hq hx
    | _ => exact hq _ _ _ hx
  | cond c a b iha ihb =>
    intro Q Q' hq env H h
    simp only [awp] at h ⊢
    split at h
    · exact ⟨fun e => iha hq (h.1 e), fun e => ihb hq (h.2 e)⟩
    · exact h
  | block id a ih =>
    intro Q Q' hq env H h
    refine ih (fun x e h hx => ?_) h
    cases x with
    | exit i =>
      simp only at hx ⊢
      split at hx
      · rename_i hi; rw [if_pos hi]; exact hq _ _ _ hx
      · rename_i hi; rw [if_neg hi]; exact hq _ _ _ hx
    | _ => exact hq _ _ _ hx
  | loop a ih =>
    intro Q Q' hq env H ⟨I, k0, h0, hr⟩
    refine ⟨I, k0, h0, fun k e h hI => ih (fun x e h hx => ?_) (hr k e h hI)⟩
    cases x with
    | normal => exact hx
    | _ => exact hq _ _ _ hx
  | exit id => intro Q Q' hq env H h; exact hq _ _ _ h
  | ret => intro Q Q' hq env H h; exact hq _ _ _ h
  | label l => intro Q Q' hq env H h; exact hq _ _ _ h
  | goto l => intro Q Q' hq env H h; exact hq _ _ _ h
  | scope a l r iha ihr =>
    intro Q Q' hq env H ⟨I, h0, hr⟩
    refine ⟨I, iha (fun x e h hx => ?_) h0, fun k e h hI => ihr (fun x e h hx => ?_) (hr k e h hI)⟩
    · cases x with
      | goto l' =>
        simp only at hx ⊢
        split at hx
        · rename_i hi; rw [if_pos hi]; exact hx
        · rename_i hi; rw [if_neg hi]; exact hq _ _ _ hx
      | _ => exact hq _ _ _ hx
    · cases x with
      | goto l' =>
        simp only at hx ⊢
        split at hx
        · rename_i hi; rw [if_pos hi]; exact hx
        · rename_i hi; rw [if_neg hi]; exact hq _ _ _ hx
      | _ => exact hq _ _ _ hx
  | fail => intro Q Q' hq env H h; exact h
end Go.Awp
