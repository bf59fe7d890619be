/- The truth of quiet operations in the model (part 6). Generic in the program. -/
import Derived.Test.YtepnijjgdhldeaaLf
namespace Go.Awp
section
variable {P : Program} {n : Nat} {w : World} {m : AMap} {H : AHeap} {B : Nat} {env : AEnv} {a : Act} {o : Oper} {r : QR}

theorem q_extract {x : Operand} {i : Nat} (ho : o.op = .extract x i) (fr : FR n w m H B env a) (h : qstep (.extract i x) env H = some r) : QOK P o a w m H B r := by
  simp only [qstep] at h
  split at h
  · rename_i vs hx
    split at h
    · rename_i v hv
      cases h
      have hx' := ev_sound fr hx
      generalize he : a.eval x = u at hx'
      cases hx' with
      | tuple _ us hl hh =>
        have hlt : i < us.size := by
          rcases Nat.lt_or_ge i us.size with h' | h'
          · exact h'
          · rw [List.getElem?_eq_none (by omega)] at hv; cases hv
        exact ⟨us[i], by simp [execOp, ho, Instr.extract, he, hlt], hh i v _ hv (Array.getElem?_eq_getElem hlt)⟩
    · cases h
  · cases h

theorem q_iface {t : TypeId} {x : Operand} (hc : P.concrete t = true) (ho : o.op = .makeInterface t x) (fr : FR n w m H B env a) (h : qstep (.iface t x) env H = some r) : QOK P o a w m H B r := by
  simp only [qstep] at h
  split at h
  · rename_i v hv
    cases h
    exact ⟨.iface t (a.eval x), by simp [execOp, ho, run_makeInterface w t _ hc], .iface t v _ (ev_sound fr hv)⟩
  · cases h

theorem evs_sound (fr : FR n w m H B env a) : ∀ (l : List Operand) (vs : List AV), evs env l = some vs →
    vs.length = l.length ∧ ∀ (i : Nat) (x : AV) (v : Value), vs[i]? = some x → (l.map a.eval)[i]? = some v → RV w m H B x v
  | [], vs, h => by cases h; exact ⟨rfl, by simp⟩
  | x :: l, vs, h => by
    simp only [evs] at h
    split at h
    · rename_i v r h1 h2
      cases h
      obtain ⟨q1, q2⟩ := evs_sound fr l r h2
      refine ⟨by simp [q1], fun i y u e1 e2 => ?_⟩
      cases i with
      | zero => simp at e1 e2; subst e1; subst e2; exact ev_sound fr h1
      | succ i => exact q2 i y u (by simpa using e1) (by simpa using e2)
    · cases h

theorem q_mkfun {fn : Fn} {f c : Array Operand} (ho : o.op = .makeFunc fn f c) (fr : FR n w m H B env a) (h : qstep (.mkfun fn f.toList c.toList) env H = some r) : QOK P o a w m H B r := by
  simp only [qstep] at h
  split at h
  · rename_i x y h1 h2
    cases h
    obtain ⟨p1, p2⟩ := evs_sound fr _ _ h1
    obtain ⟨q1, q2⟩ := evs_sound fr _ _ h2
    refine ⟨.func fn (f.map a.eval) (c.map a.eval), by simp [execOp, ho, Instr.makeFunc], .func fn _ _ _ _ (by simpa using p1) (by simpa using q1) (fun i x v e1 e2 => p2 i x v e1 ?_) (fun i x v e1 e2 => q2 i x v e1 ?_)⟩
    · simpa using e2
    · simpa using e2
  · cases h

theorem q_nilchk {x : Operand} (ho : o.op = .nilCheck x) (fr : FR n w m H B env a) (h : qstep (.nilchk x) env H = some r) : QOK P o a w m H B r := by
  simp only [qstep] at h
  split at h
  · rename_i h' ver i j hx
    cases h
    have hv := ev_sound fr hx
    generalize he : a.eval x = u at hv
    refine ⟨u, ?_, hv⟩
    cases hv; simp [execOp, ho, he]
  · rename_i c hx
    cases h
    have hv := ev_sound fr hx
    generalize he : a.eval x = u at hv
    refine ⟨u, ?_, hv⟩
    cases hv; simp [execOp, ho, he]
  · rename_i f p q hx
    cases h
    have hv := ev_sound fr hx
    generalize he : a.eval x = u at hv
    refine ⟨u, ?_, hv⟩
    cases hv; simp [execOp, ho, he]
  · cases h

theorem q_un {op : UnOp} {t : TypeId} {x : Operand} (ho : o.op = .unOp op t x) (fr : FR n w m H B env a) (h : qstep (.un op x) env H = some r) : QOK P o a w m H B r := by
  simp only [qstep] at h
  split at h
  · rename_i v hv
    split at h
    · rename_i y hy
      cases h
      have hx := ev_sound fr hv
      generalize he : a.eval x = u at hx
      unfold aun at hy
      split at hy
      · cases hy; cases hx
        exact ⟨_, by simp [execOp, ho, he, Op.unary], .bool _⟩
      · cases hy; cases hx
        exact ⟨_, by simp [execOp, ho, he, Op.unary, Op.intArith], .int _ _⟩
      · cases hy
    · cases h
  · cases h

theorem q_conv {s d : TypeId} {k k' : IntKind} {x : Operand} (hs : P.underlying s = some (.int k')) (hd : P.underlying d = some (.int k)) (ho : o.op = .convert s d x) (fr : FR n w m H B env a) (h : qstep (.conv k x) env H = some r) : QOK P o a w m H B r := by
  simp only [qstep] at h
  split at h
  · rename_i k1 y hv
    cases h
    have hx := ev_sound fr hv
    generalize he : a.eval x = u at hx
    cases hx
    exact ⟨.int k (k.wrap y), by simp [execOp, ho, he, convert, run_underlying hs, run_underlying hd, Conv.intToInt], .int _ _⟩
  · cases h

theorem q_len {t e : TypeId} {x : Operand} (ht : P.underlying t = some (.slice e)) (ho : o.op = .call { callee := .builtin .len, args := #[x], argTypes := #[t] }) (fr : FR n w m H B env a)
    (h : qstep (.len x) env H = some r) : QOK P o a w m H B r := by
  simp only [qstep] at h
  split at h
  · rename_i v hv
    split at h
    · rename_i y hy
      cases h
      have hx := ev_sound fr hv
      generalize he : a.eval x = u at hx
      have slc : ∀ (ad : Option Addr) (l c : Nat), u = .slice ad l c → (execOp a.eval o).run P w = .ok (.value (.int .i64 l)) w := by
        intro ad l c hu
        simp [execOp, ho, resolve, invoke, builtin, Builtin.len_, run_underlying ht, he, hu, goInt]
      unfold alen at hy
      split at hy
      · split at hy
        · rename_i o' ho'
          split at hy
          · rename_i hver
            cases hy; cases hx with
            | own _ _ _ _ ad l c hlt hh =>
              obtain ⟨b, _, _, q, _⟩ := (hh o' ho').2 hver
              exact ⟨_, slc _ _ _ rfl, by rw [q]; exact .int _ _⟩
          · cases hy
        · cases hy
      · cases hy; cases hx with
        | roNil => exact ⟨_, slc _ _ _ rfl, .int _ _⟩
        | ro => exact ⟨_, slc _ _ _ rfl, .int _ _⟩
      · cases hy; cases hx
        exact ⟨_, slc _ _ _ rfl, .int _ _⟩
      · cases hy
    · cases h
  · cases h

theorem q_lenS {t : TypeId} {x : Operand} (ht : P.underlying t = some .string) (ho : o.op = .call { callee := .builtin .len, args := #[x], argTypes := #[t] }) (fr : FR n w m H B env a)
    (h : qstep (.lenS x) env H = some r) : QOK P o a w m H B r := by
  simp only [qstep] at h
  split at h
  · rename_i b hv
    cases h
    have hx := ev_sound fr hv
    generalize he : a.eval x = u at hx
    cases hx
    exact ⟨.int .i64 b.size, by simp [execOp, ho, resolve, invoke, builtin, Builtin.len_, run_underlying ht, he, goInt], .int _ _⟩
  · cases h

theorem foldlM_mm (f : Value → Value → Sem Value) (mx : Bool) (hf : ∀ k n k' y, (f (.int k n) (.int k' y)).run P w = .ok (.int k (if mx then (if y > n then y else n) else (if y < n then y else n))) w) :
    ∀ (vs : List AV) (us : List Value) (k : IntKind) (z : Int) (y : AV), (∀ (i : Nat) (x : AV) (v : Value), vs[i]? = some x → us[i]? = some v → RV w m H B x v) → vs.length = us.length → amm.go mx k z vs = some y →
    ∃ v, (us.foldlM f (.int k z)).run P w = .ok v w ∧ RV w m H B y v
  | [], us, k, z, y, _, hl, h => by
    cases us with
    | nil => simp [amm.go] at h; subst h; exact ⟨_, rfl, .int _ _⟩
    | cons => simp at hl
  | x :: vs, us, k, z, y, hr, hl, h => by
    cases us with
    | nil => simp at hl
    | cons u us =>
      have h0 := hr 0 x u rfl rfl
      unfold amm.go at h
      split at h
      · rename_i e; cases e
      · rename_i e
        cases e
        cases h0
        obtain ⟨v, q1, q2⟩ := foldlM_mm f mx hf vs us k _ y (fun i x v e1 e2 => hr (i + 1) x v (by simpa using e1) (by simpa using e2)) (by simpa using hl) h
        exact ⟨v, by rw [List.foldlM_cons, Sem.run_bind, hf]; exact q1, q2⟩
      · cases h

theorem q_mm {mx : Bool} {args : Array Operand} {ts : Array TypeId} (ho : o.op = .call { callee := .builtin (if mx then .max else .min), args := args, argTypes := ts }) (fr : FR n w m H B env a)
    (h : qstep (.mm mx args.toList) env H = some r) : QOK P o a w m H B r := by
  simp only [qstep] at h
  split at h
  · rename_i vs hvs
    split at h
    · rename_i y hy
      cases h
      obtain ⟨p1, p2⟩ := evs_sound fr _ _ hvs
      have hb : ∀ (us : List Value), us = args.toList.map a.eval → ∃ v, (match us with | [] => (stuck "" : Sem Value) | x :: rest => rest.foldlM (if mx then Builtin.max2 else Builtin.min2) x).run P w = .ok v w ∧ RV w m H B y v := by
        intro us hus
        rw [← hus] at p2
        have pl : vs.length = us.length := by rw [p1, hus]; simp
        cases vs with
        | nil => simp [amm] at hy
        | cons x vs =>
          cases us with
          | nil => simp at pl
          | cons u us =>
            have h0 := p2 0 x u rfl rfl
            unfold amm at hy
            split at hy
            · cases ‹_›
            · rename_i e
              cases e
              cases h0
              refine foldlM_mm _ mx ?_ vs us _ _ y (fun i x v e1 e2 => p2 (i + 1) x v (by simpa using e1) (by simpa using e2)) (by simpa using pl) hy
              intro k n k' y
              cases mx <;> simp [Builtin.max2, Builtin.min2]
            · cases hy
      obtain ⟨v, q1, q2⟩ := hb _ rfl
      refine ⟨v, ?_, q2⟩
      cases mx
      · simp only [Bool.false_eq_true, if_false] at ho q1
        simp only [execOp, ho, resolve, invoke, builtin, Sem.run_bind, Sem.run_pure, Result.andThen_ok, Builtin.min_]
        simp only [Array.toList_map]
        revert q1
        split
        · intro q1; cases q1
        · rename_i he
          intro q1; rw [he]; simp only [q1, Result.andThen_ok]
      · simp only [if_true] at ho q1
        simp only [execOp, ho, resolve, invoke, builtin, Sem.run_bind, Sem.run_pure, Result.andThen_ok, Builtin.max_]
        simp only [Array.toList_map]
        revert q1
        split
        · intro q1; cases q1
        · rename_i he
          intro q1; rw [he]; simp only [q1, Result.andThen_ok]
    · cases h
  · cases h
end
end Go.Awp
