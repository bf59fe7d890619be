/- Calls; lists of operations in the text's order. Generic in the program. -/
import Derived.Test.YtomejgikdelgkaaGreatDoorA3
import Derived.StillTail
set_option linter.unusedVariables false
set_option linter.unusedSimpArgs false
set_option linter.unusedSectionVars false
namespace Go.Awp
set_option linter.unusedSectionVars false
variable [Fx]
open Go.RowKit (Below)
def callable (P : Program) (f : FuncId) : Bool :=
  match P.funcs[f]? with
  | some fn => !(fn.name == "runtime.NumGoroutine") && fn.body.isSome
  | none => false
/-- Arguments as they are known, and as they are. -/
def Args (w : World) (m : AMap) (H : AHeap) (B : Nat) (xs : List AV) (vs : Array Value) : Prop :=
  xs.length = vs.size ∧ ∀ (i : Nat) (x : AV) (v : Value), xs[i]? = some x → vs[i]? = some v → RV w m H B x v
/-- A call in the midst of objects of the activation's own. -/
def ACall (P : Program) (f : FuncId) (xs : List AV) (H : AHeap) (R : AV → AHeap → Prop) : Prop :=
  callable P f = true ∧ ∀ (w : World) (m : AMap) (B : Nat) (vs : Array Value), St w m H B → Args w m H B xs vs →
    Calls P f vs w fun e w' => ∃ v x m' H', e = .returned v ∧ R x H' ∧ St w' m' H' B ∧ Adv w m H w' m' H' ∧ RV w' m' H' B x v
theorem ACall.mono {P f xs H} {R R' : AV → AHeap → Prop} (h : ACall P f xs H R) (hr : ∀ x H', R x H' → R' x H') : ACall P f xs H R' :=
  ⟨h.1, fun w m B vs st ha => (h.2 w m B vs st ha).mono fun _ _ ⟨v, x, m', H', a, b, c⟩ => ⟨v, x, m', H', a, hr _ _ b, c⟩⟩
/-- A call whose arguments and results are plain data. -/
def PCall (P : Program) (f : FuncId) (xs : List AV) (r : AV) : Prop :=
  callable P f = true ∧ ∀ (w : World) (vs : Array Value), Fx.Ok w w.heap.size → Args w (fun _ => none) [] w.heap.size xs vs →
    Calls P f vs w fun e w' => ∃ v, e = .returned v ∧ Below w.heap.size w w' ∧ ∀ (m : AMap) (H : AHeap) (B : Nat), B ≤ w.heap.size → (∀ h b, m h = some b → b < w.heap.size) → RV w' m H B r v
/-- Values that say nothing of any world. -/
def AV.simple : AV → Bool
  | .bool _ | .int _ _ | .str _ => true
  | _ => false
theorem RV.simple {w w' m m' H H' B B'} {x : AV} {v : Value} (h : RV w m H B x v) (hs : x.simple = true) : RV w' m' H' B' x v := by
  cases h <;> first | (cases hs; done) | constructor
theorem AV.simple_one {x : AV} (hs : x.simple = true) : x.one = true := by
  cases x <;> first | rfl | cases hs
/-- A call on plain data that hands back a new slice, of simple values. -/
def NCall (P : Program) (f : FuncId) (xs : List AV) (e : TypeId) (sz : Nat) (els : List (List AV)) : Prop :=
  callable P f = true ∧ (∀ el, el ∈ els → el.length = sz ∧ ∀ x, x ∈ el → x.simple = true) ∧ ∀ (w : World) (vs : Array Value), Fx.Ok w w.heap.size → Args w (fun _ => none) [] w.heap.size xs vs →
    Calls P f vs w fun en w' => ∃ b cap us, en = .returned (.slice (some ⟨b, 0, none⟩) els.length cap) ∧ Below w.heap.size w w' ∧ w.heap.size ≤ b ∧ b < w'.heap.size ∧ w'.heap[b]? = some (.cells us e (0, 0)) ∧ els.length ≤ cap ∧ cap ≤ maxLen ∧ us.size = cap * sz ∧
      ∀ (i : Nat) (el : List AV) (j : Nat) (x : AV), els[i]? = some el → el[j]? = some x → ∃ v, us[i * sz + j]? = some v ∧ RV w' (fun _ => none) [] 0 x v
/-- A value, as plain data: as what a call is handed. -/
def Frz (H : AHeap) (x x' : AV) : Prop := ∀ (w : World) (m : AMap) (B : Nat) (v : Value), St w m H B → RV w m H B x v → RV w (fun _ => none) [] w.heap.size x' v
inductive FrzL (H : AHeap) : List AV → List AV → Prop
  | nil : FrzL H [] []
  | cons {x x' : AV} {l l' : List AV} (h : Frz H x x') (t : FrzL H l l') : FrzL H (x :: l) (x' :: l')
theorem FrzL.list {H : AHeap} {xs ys : List AV} (h : FrzL H xs ys) {w m B} (st : St w m H B) : ∀ (l : List Value), xs.length = l.length → (∀ (i : Nat) (x : AV) (v : Value), xs[i]? = some x → l[i]? = some v → RV w m H B x v) → ys.length = l.length ∧ ∀ (i : Nat) (x : AV) (v : Value), ys[i]? = some x → l[i]? = some v → RV w (fun _ => none) [] w.heap.size x v := by
  induction h with
  | nil => intro l hl _; exact ⟨hl, by simp⟩
  | cons hx _ ih =>
    intro l hl hr
    cases l with
    | nil => simp at hl
    | cons v l =>
      obtain ⟨q1, q2⟩ := ih l (by simpa using hl) (fun i x v a b => hr (i + 1) x v (by simpa using a) (by simpa using b))
      refine ⟨by simp [q1], fun i x v' a b => ?_⟩
      cases i with
      | zero => simp at a b; subst a; subst b; exact hx w m B _ st (hr 0 _ _ rfl rfl)
      | succ i => exact q2 i x v' (by simpa using a) (by simpa using b)
theorem FrzL.args {H : AHeap} {xs ys : List AV} (h : FrzL H xs ys) {w m B} {vs : Array Value} (st : St w m H B) (ha : Args w m H B xs vs) : Args w (fun _ => none) [] w.heap.size ys vs := by
  obtain ⟨q1, q2⟩ := h.list st vs.toList (by simpa using ha.1) (fun i x v a b => ha.2 i x v a (by simpa using b))
  exact ⟨by simpa using q1, fun i x v a b => q2 i x v a (by simpa using b)⟩
theorem below_adv {w w' : World} {m : AMap} {H : AHeap} {B : Nat} (st : St w m H B) (h : Below w.heap.size w w') : St w' m H B ∧ Adv w m H w' m H := by
  have ad : Adv w m H w' m H := ⟨h.os, h.tape, h.output, h.size, fun b hb _ => h.block b hb, fun _ _ e => .inl e, Nat.le_refl _, fun k o' _ e => ⟨o', e, rfl, rfl, Nat.le_refl _, fun _ b hb => ⟨hb, by simp only [World.shape?, h.block b (st.dom k b hb).2.1]⟩, fun _ h => h⟩⟩
  refine ⟨⟨Nat.le_trans st.base h.size, fun k b e => ?_, fun k b e => ?_, st.inj, st.fxa ad⟩, ad⟩
  case refine_2 =>
    obtain ⟨h1, h2, h3, o1, e1, e2⟩ := st.domP k b e
    exact ⟨h1, Nat.lt_of_lt_of_le h2 h.size, h3, o1, e1, by rw [h.block b h2]; exact e2⟩
  obtain ⟨h1, h2, o1, cs, e1, e2, e3, e4⟩ := st.dom k b e
  refine ⟨h1, Nat.lt_of_lt_of_le h2 h.size, o1, cs, e1, by rw [h.block b h2]; exact e2, e3, fun i el j x a1 a2 => ?_⟩
  obtain ⟨v, q1, q2, q3⟩ := e4 i el j x a1 a2
  exact ⟨v, q1, q2.mono ad, q3⟩
theorem adopt_call {w w' : World} {m : AMap} {H : AHeap} {B : Nat} (st : St w m H B) (hb : Below w.heap.size w w') {h : Nat} {o : AObj} (ho : AHeap.obj H h = some o) (hm : m h = none ∧ m (.p h) = none) {b : Nat} {us : Array Value} (h1 : w.heap.size ≤ b) (h2 : b < w'.heap.size)
    (h3 : w'.heap[b]? = some (.cells us o.e (0, 0))) (hu : ∀ e, e ∈ o.elems → e.length = o.s ∧ ∀ x, x ∈ e → x.simple = true)
    (hc : ∀ (i : Nat) (e : List AV) (j : Nat) (x : AV), o.elems[i]? = some e → e[j]? = some x → ∃ v, us[i * o.s + j]? = some v ∧ RV w' (fun _ => none) [] 0 x v) : St w' (AMap.upd m h b) H B ∧ Adv w m H w' (AMap.upd m h b) H := by
  have ad : Adv w m H w' (AMap.upd m h b) H := by
    refine ⟨hb.os, hb.tape, hb.output, hb.size, fun k hk _ => hb.block k hk, fun k b' e => ?_, Nat.le_refl _, fun k o1 hk e => ⟨o1, e, rfl, rfl, Nat.le_refl _, fun _ b' hb' => ?_, fun b' hb' => by rw [AMap.upd_p]; exact hb'⟩⟩
    · unfold AMap.upd at e
      split at e
      · cases e; exact .inr h1
      · exact .inl e
    · have hkh : k ≠ h := by intro e; subst e; rw [hm.1] at hb'; cases hb'
      refine ⟨by simp [AMap.upd, hkh, hb'], ?_⟩
      simp only [World.shape?, hb.block b' (st.dom k b' hb').2.1]
  refine ⟨⟨Nat.le_trans st.base hb.size, fun k b' e => ?_, fun k b' e => ?_, fun k k' b' e e' => ?_, st.fxa ad⟩, ad⟩
  case refine_2 =>
    rw [AMap.upd_p] at e
    obtain ⟨g1, g2, g3, o1, e1, e2⟩ := st.domP k b' e
    have hkh : k ≠ h := by intro e'; subst e'; rw [hm.2] at e; cases e
    exact ⟨g1, Nat.lt_of_lt_of_le g2 hb.size, by simp [AMap.upd, hkh, g3], o1, e1, by rw [hb.block b' g2]; exact e2⟩
  · unfold AMap.upd at e
    split at e
    · rename_i hkh
      cases e; cases hkh
      refine ⟨Nat.le_trans st.base h1, h2, o, us, ho, h3, fun e he => (hu e he).1, fun i el j x a1 a2 => ?_⟩
      obtain ⟨v, q1, q2⟩ := hc i el j x a1 a2
      have hs := (hu el (List.mem_of_getElem? a1)).2 x (List.mem_of_getElem? a2)
      exact ⟨v, q1, q2.simple hs, AV.simple_one hs⟩
    · obtain ⟨g1, g2, o1, cs, e1, e2, e3, e4⟩ := st.dom k b' e
      refine ⟨g1, Nat.lt_of_lt_of_le g2 hb.size, o1, cs, e1, by rw [hb.block b' g2]; exact e2, e3, fun i el j x a1 a2 => ?_⟩
      obtain ⟨v, q1, q2, q3⟩ := e4 i el j x a1 a2
      exact ⟨v, q1, q2.mono ad, q3⟩
  · unfold AMap.upd at e e'
    split at e <;> split at e'
    · rename_i a b; rw [a, b]
    · cases e
      have := (st.mb k' _ e').2; omega
    · cases e'
      have := (st.mb k _ e).2; omega
    · exact st.inj k k' b' e e'
theorem adopt_own {w' : World} {m : AMap} {H : AHeap} {B : Nat} {h e sz : Nat} {els : List (List AV)} (ho : AHeap.obj H h = some ⟨e, sz, els⟩) {b cap : Nat} {us : Array Value} (h3 : w'.heap[b]? = some (.cells us e (0, 0))) (h4 : els.length ≤ cap) (h5 : cap ≤ maxLen) (h6 : us.size = cap * sz) :
    RV w' (AMap.upd m h b) H B (.own h els.length 0 els.length) (.slice (some ⟨b, 0, none⟩) els.length cap) := by
  refine .own _ _ _ _ _ _ _ (AHeap.obj_lt ho) fun o' ho' => ?_
  rw [ho] at ho'; cases ho'
  refine ⟨Nat.le_refl _, fun _ => ⟨b, by simp [AMap.upd], fun _ => by simp, rfl, by simp, h4, h5, ?_⟩⟩
  simp [World.shape?, h3, h6]
/-- The same in the midst of objects. -/
theorem NCall.lift {P f xs ys e sz els H} (h : NCall P f ys e sz els) (hf : FrzL H xs ys) : ACall P f xs H fun x H' => x = .own H.length els.length 0 els.length ∧ H' = H ++ [some ⟨e, sz, els⟩] := by
  refine ⟨h.1, fun w m B vs st ha => ?_⟩
  refine (h.2.2 w vs (st.fx.keep st.base fun _ _ => rfl) (hf.args st ha)).mono fun en w' ⟨b, cap, us, he, hb, h1, h2, h3, h4, h5, h6, hc⟩ => ?_
  obtain ⟨p1, p2⟩ := st.push [some ⟨e, sz, els⟩]
  have hm := st.fresh
  have ho : AHeap.obj (H ++ [some ⟨e, sz, els⟩]) H.length = some ⟨e, sz, els⟩ := AHeap.obj_push_eq
  obtain ⟨q1, q2⟩ := adopt_call p1 hb ho hm h1 h2 h3 h.2.1 hc
  exact ⟨_, _, _, _, he, ⟨rfl, rfl⟩, q1, p2.trans q2, adopt_own ho h3 h4 h5 h6⟩
/-- A call of plain data, whatever objects there are. -/
theorem PCall.lift {P f xs ys r H} (h : PCall P f ys r) (hf : FrzL H xs ys) : ACall P f xs H fun x H' => x = r ∧ H' = H := by
  refine ⟨h.1, fun w m B vs st ha => ?_⟩
  refine (h.2 w vs (st.fx.keep st.base fun _ _ => rfl) (hf.args st ha)).mono fun e w' ⟨v, he, hb, hr⟩ => ?_
  obtain ⟨p, q⟩ := below_adv st hb
  exact ⟨v, r, m, H, he, ⟨rfl, rfl⟩, p, q, hr m H B st.base (fun k b e => (st.mb k b e).2)⟩
structure IStmt where
  dst : Option Nat
  op : IOp
  guard : Option (Nat × Bool)
  uses : List Nat
  late : Bool
def envput (d : Option Nat) (x : AV) (env : AEnv) : AEnv :=
  match d with
  | some d => (d, x) :: env
  | none => env
/-- The method of a type, where the interface's value is handed over as it is. -/
def amethod (P : Program) (t : TypeId) (name : String) : Option FuncId :=
  match P.info? t with
  | some i => (match i.methods.find? (·.name == name) with
    | some m => if m.path.isEmpty then (match m.func, P.underlying t with
      | some (f, true), some (.pointer _) => some f
      | some (_, false), some (.pointer _) => none
      | some (f, false), some _ => some f
      | _, _ => none) else none
    | none => none)
  | none => none
def acall (P : Program) (io : IOp) (env : AEnv) (H : AHeap) (K : AV → AHeap → Prop) : Prop :=
  match io with
  | .call f args => match evs env args with
    | some vs => ACall P f vs H K
    | none => False
  | .callv x args => match ev env x, evs env args with
    | some (.func (.func f) first caps), some vs => ACall P f (first ++ vs ++ caps) H K
    | _, _ => False
  | .isnil neg x => match ev env x with
    | some v => (match alen H v with
      | some (.int _ n) => if 0 < n then K (.bool neg) H else ∀ b, K (.bool b) H
      | _ => False)
    | none => False
  | .mknil => K .nilSlice H
  | .invoke x name args => match ev env x, evs env args with
    | some (.iface t v), some vs => (match amethod P t name with
      | some f => ACall P f (v :: vs) H K
      | none => False)
    | _, _ => False
  | io => match sstep io env H with
    | some (some x, H') => K x H'
    | some (none, H') => K (.tuple []) H'
    | none => False
def awpOps (P : Program) : List IStmt → (AEnv → AHeap → Prop) → AEnv → AHeap → Prop
  | [], K, env, H => K env H
  | s :: rest, K, env, H => match s.guard with
    | none => acall P s.op env H fun x H' => awpOps P rest K (envput s.dst x env) H'
    | some (g, want) => match AEnv.get env g with
      | some (.bool c) => (c = want → acall P s.op ((g, .bool want) :: env) H fun x H' => awpOps P rest K (envput s.dst x ((g, .bool want) :: env)) H') ∧
          (c = !want → awpOps P rest K (envput s.dst (.tuple []) ((g, .bool (!want)) :: env)) H)
      | some (.tuple []) => awpOps P rest K (envput s.dst (.tuple []) env) H
      | _ => False
/-- The translation of an operation with its target and its guard. -/
def usesOf (u : Bool) (o : Oper) : List Nat :=
  if u then o.op.operands.toList.filterMap fun | .tmp t => some t | _ => none else []
def lateOf (u : Option (List Nat)) (d : Option Nat) : Bool :=
  match u, d with
  | some lt, some d => lt.contains d
  | _, _ => false
def trStmt (P : Program) (n : Nat) (u : Option (List Nat)) (ops : List Oper) (o : Oper) : Option IStmt :=
  match trOp P o, (match o.dst with | some d => decide (d < n) | none => true) with
  | some io, true => (match o.guard with
    | none => some ⟨o.dst, io, none, usesOf u.isSome o, lateOf u o.dst⟩
    | some (j, want) => (match (ops[j]?).bind (·.dst) with
      | some g => some ⟨o.dst, io, some (g, want), usesOf u.isSome o, lateOf u o.dst⟩
      | none => none))
  | _, _ => none
def trStmts (P : Program) (n : Nat) (u : Option (List Nat)) (ops : List Oper) : List Oper → Option (List IStmt)
  | [] => some []
  | o :: l => match trStmt P n u ops o, trStmts P n u ops l with
    | some s, some r => some (s :: r)
    | _, _ => none
/-- What is known in the midst of a body: the objects' map is somewhere. -/
def Rel (n : Nat) (w0 : World) (m0 : AMap) (H0 : AHeap) (B : Nat) (env : AEnv) (H : AHeap) (a : Act) (w : World) : Prop :=
  ∃ m, FR n w m H B env a ∧ St w m H B ∧ Adv w0 m0 H0 w m H
end Go.Awp
/- Lists of operations: their truth in the model. Generic in the program. -/
namespace Go.Awp
set_option linter.unusedSectionVars false
variable [Fx]
open Go.RowKit (Below)
section
variable {P : Program} {o : Oper}
theorem trOp_call {f : FuncId} {args : List Operand} (h : trOp P o = some (.call f args)) : ∃ (as : Array Operand) (ts : Array TypeId), o.op = .call { callee := .value (.func f), args := as, argTypes := ts } ∧ as.toList = args := by
  replace h := trOp_old rfl h
  unfold trOp1 at h
  repeat' (split at h)
  all_goals (first | (cases h; done) | skip)
  cases h
  exact ⟨_, _, ‹_›, rfl⟩
theorem trOp_callv {f : Operand} {args : List Operand} (h : trOp P o = some (.callv f args)) : ∃ (as : Array Operand) (ts : Array TypeId), o.op = .call { callee := .value f, args := as, argTypes := ts } ∧ as.toList = args := by
  replace h := trOp_old rfl h
  unfold trOp1 at h
  repeat' (split at h)
  all_goals (first | (cases h; done) | skip)
  cases h
  exact ⟨_, _, ‹_›, rfl⟩
theorem run_callFunc_ok {f : FuncId} (hc : callable P f = true) (vs : Array Value) (w : World) : (callFunc f vs).run P w = .ok (.enter f vs) w := by
  unfold callable at hc
  split at hc
  · rename_i fn hfn
    simp at hc
    obtain ⟨h1, h2⟩ := hc
    have hb : fn.body.isNone = false := by cases hb : fn.body <;> simp_all
    simp only [callFunc, Sem.run_bind, run_program, Result.andThen_ok, hfn, hb]
    simp [h1]
  · cases hc
theorem trOp_mknil (h : trOp P o = some .mknil) : ∃ t e i, o.op = .buildSlice t 0 #[] ∧ P.underlying t = some (.slice e) ∧ P.info? e = some i := by
  replace h := trOp_old rfl h
  unfold trOp1 at h
  repeat' (split at h)
  all_goals (first | (cases h; done) | skip)
  rename_i hp
  have hargs : ∀ {as : Array (Nat × Operand)}, as.toList = [] → as = #[] := by intro as h; cases as; simp_all
  refine ⟨_, _, _, ?_, ‹_›, ‹_›⟩
  rw [← hargs hp]; assumption
theorem run_equal_nil {t e : TypeId} (ht : P.underlying t = some (.slice e)) (d : Nat) (ad : Option Addr) (len cap : Nat) (w : World) : (Op.equalIn (d + 1) t (.slice ad len cap) (.slice none 0 0)).run P w = .ok ad.isNone w := by
  cases ad <;> simp only [Op.equalIn, Sem.run_bind, run_underlying ht, Result.andThen_ok, Sem.run_pure, Option.isNone_none, Option.isNone_some]
theorem trOp_isnil {neg : Bool} {x : Operand} (h : trOp P o = some (.isnil neg x)) : ∃ t e u, o.op = .binOp (if neg then .neq else .eql) t x (.const (.slice none 0 0)) u ∧ P.underlying t = some (.slice e) := by
  replace h := trOp_old rfl h
  unfold trOp1 at h
  repeat' (split at h)
  all_goals (first | (cases h; done) | skip)
  all_goals (cases h; exact ⟨_, _, _, ‹_›, ‹_›⟩)
theorem alen_val {w m H B} {x : AV} {v : Value} (hx : RV w m H B x v) {k : IntKind} {n : Int} (h : alen H x = some (.int k n)) : ∃ (ad : Option Addr) (len cap : Nat), v = .slice ad len cap ∧ n = len ∧ (0 < n → ad ≠ none) := by
  cases hx with
  | own h' ver i len ad n' cap hh hv =>
    simp only [alen] at h
    split at h
    · rename_i o ho
      split at h
      · rename_i hver
        cases h
        obtain ⟨b, q1, q2, q3, q4, q5, _⟩ := (hv o ho).2 hver
        exact ⟨ad, n', cap, rfl, by rw [q3], fun h0 => by rw [q2 (.inl (by omega))]; simp⟩
      · cases h
    · cases h
  | sub h' ver i j s len ad n' cap hlt hv =>
    simp only [alen] at h
    split at h
    · rename_i o ho
      split at h
      · rename_i hver
        cases h
        obtain ⟨b, q1, q2, q3, q4⟩ := (hv o ho).2 hver
        exact ⟨_, n', cap, rfl, by rw [q3], fun _ => by simp⟩
      · cases h
    · cases h
  | roNil => cases h; exact ⟨_, _, _, rfl, rfl, fun h0 => by simp at h0⟩
  | ro => cases h; exact ⟨_, _, _, rfl, rfl, fun _ => by simp⟩
  | nilSlice => cases h; exact ⟨_, _, _, rfl, rfl, fun h0 => by omega⟩
  | _ => simp [alen] at h
theorem trOp_invoke {x : Operand} {name : String} {args : List Operand} (h : trOp P o = some (.invoke x name args)) : ∃ (as : Array Operand) (ts : Array TypeId), o.op = .call { callee := .invoke x name, args := as, argTypes := ts } ∧ as.toList = args := by
  replace h := trOp_old rfl h
  unfold trOp1 at h
  repeat' (split at h)
  all_goals (first | (cases h; done) | skip)
  cases h
  exact ⟨_, _, ‹_›, rfl⟩
theorem amethod_run {t : TypeId} {name : String} {f : FuncId} (h : amethod P t name = some f) (k : Nat) (v : Value) (w : World) : (method (k + 1) t v name).run P w = .ok (f, v) w := by
  unfold amethod at h
  split at h
  · rename_i i hi
    split at h
    · rename_i m hm
      split at h
      · rename_i hp
        have hpl : m.path.toList = [] := by simpa using hp
        have hti : (typeInfo t).run P w = .ok i w := by simp [typeInfo, hi]
        split at h
        · rename_i f' e hf hu
          cases h
          simp only [method, Sem.run_bind, hti, Result.andThen_ok, hm, hpl, follow, Sem.run_pure, hf, receiverAt, run_underlying hu, Place.get]
        · cases h
        · rename_i f' d hne hf hu
          cases h
          simp only [method, Sem.run_bind, hti, Result.andThen_ok, hm, hpl, follow, Sem.run_pure, hf, receiverAt, run_underlying hu, Place.get]
        · cases h
      · cases h
    · cases h
  · cases h
variable {n : Nat} {w0 : World} {m0 : AMap} {H0 : AHeap} {B : Nat} {env : AEnv} {H : AHeap} {a : Act} {w : World} {io : IOp} {K : AV → AHeap → Prop} {Q : Exit → Act → World → Prop} {next : Act → World → Prop}
theorem upon_calls {f : FuncId} {vs : Array Value} {R : Ending → World → Prop} (h : Calls P f vs w R) (hr : ∀ e w', R e w' → ∃ v, e = .returned v ∧ next (a.put o.dst v) w') (hrun : (execOp a.eval o).run P w = .ok (.enter f vs) w) : o.wp P a w next Q := by
  unfold Oper.wp
  rw [hrun, Oper.upon_enter]
  refine h.mono fun e w' hR => ?_
  obtain ⟨v, rfl, hn⟩ := hr e w' hR
  exact hn
theorem acall_sound (htr : trOp P o = some io) {m : AMap} (fr : FR n w m H B env a) (st : St w m H B) (h : acall P io env H K)
    (hnext : ∀ x H' v w' m', K x H' → St w' m' H' B → Adv w m H w' m' H' → RV w' m' H' B x v → next (a.put o.dst v) w') : o.wp P a w next Q := by
  have step : (match sstep io env H with | some (some x, H') => K x H' | some (none, H') => K (.tuple []) H' | none => False) → o.wp P a w next Q := by
    intro h
    split at h
    · rename_i x H' hs
      obtain ⟨w', m', p1, p2, v, p3, p4⟩ := sstep_sound htr st fr hs
      unfold Oper.wp
      rw [p3, Oper.upon_value]
      exact hnext x H' v w' m' h p1 p2 p4
    · rename_i H' hs
      obtain ⟨w', m', p1, p2, p3⟩ := sstep_sound htr st fr hs
      unfold Oper.wp
      rw [p3, Oper.upon_skip]
      exact hnext _ H' undef w' m' h p1 p2 (.tuple [] #[] rfl (by simp))
    · exact h.elim
  cases io with
  | call f args =>
    simp only [acall] at h
    split at h
    · rename_i vs hvs
      obtain ⟨as, ts, ho, rfl⟩ := trOp_call htr
      obtain ⟨p1, p2⟩ := evs_sound fr _ _ hvs
      refine upon_calls (h.2 w m B (as.map a.eval) st ⟨by simpa using p1, fun i x v a b => p2 i x v a (by simpa using b)⟩) (fun e w' ⟨v, x, m', H', he, hk, s1, s2, s3⟩ => ⟨v, he, hnext x H' v w' m' hk s1 s2 s3⟩) ?_
      simp [execOp, ho, resolve, Act.eval, Deferred.ofValue, invoke, run_callFunc_ok h.1]
    · exact h.elim
  | callv x args =>
    simp only [acall] at h
    split at h
    · rename_i f first caps vs hx hvs
      obtain ⟨as, ts, ho, rfl⟩ := trOp_callv htr
      obtain ⟨p1, p2⟩ := evs_sound fr _ _ hvs
      have hxv := ev_sound fr hx
      generalize he : a.eval x = u at hxv
      cases hxv with
      | func _ _ _ f' c' hf hc h1 h2 =>
        refine upon_calls (h.2 w m B (f' ++ as.map a.eval ++ c') st ⟨by simp [hf, hc, p1], fun i x v e1 e2 => ?_⟩) (fun e w' ⟨v, x, m', H', he, hk, s1, s2, s3⟩ => ⟨v, he, hnext x H' v w' m' hk s1 s2 s3⟩) ?_
        · have e2' : (f'.toList ++ as.toList.map a.eval ++ c'.toList)[i]? = some v := by
            have : (f' ++ as.map a.eval ++ c').toList[i]? = some v := by rw [Array.getElem?_toList]; exact e2
            rwa [Array.toList_append, Array.toList_append, Array.toList_map] at this
          have hpl : vs.length = (as.toList.map a.eval).length := by simpa using p1
          have hfl : first.length = f'.toList.length := by simpa using hf
          rcases Nat.lt_or_ge i first.length with hi | hi
          · rw [List.append_assoc, List.getElem?_append_left hi] at e1
            rw [List.append_assoc, List.getElem?_append_left (by omega)] at e2'
            exact h1 i x v e1 (by simpa using e2')
          · rw [List.append_assoc, List.getElem?_append_right hi] at e1
            rw [List.append_assoc, List.getElem?_append_right (by omega)] at e2'
            rw [← hfl] at e2'
            rcases Nat.lt_or_ge (i - first.length) vs.length with hj | hj
            · rw [List.getElem?_append_left hj] at e1
              rw [List.getElem?_append_left (by omega)] at e2'
              exact p2 _ x v e1 e2'
            · rw [List.getElem?_append_right hj] at e1
              rw [List.getElem?_append_right (by omega), ← hpl] at e2'
              exact h2 _ x v e1 (by simpa using e2')
        · simp [execOp, ho, resolve, he, Deferred.ofValue, invoke, run_callFunc_ok h.1]
    · exact h.elim
  | mknil =>
    simp only [acall] at h
    obtain ⟨t, e, i, ho, ht, hi⟩ := trOp_mknil htr
    have hrun : (execOp a.eval o).run P w = .ok (.value (.slice (some ⟨w.heap.size, 0, none⟩) 0 0)) (w.alloc (.cells #[] e)) := by
      simp only [execOp, ho, Instr.buildSlice, Sem.run_bind, run_underlying ht, Result.andThen_ok, run_sizeOf' hi, Nat.zero_mul, show ¬ 0 > 2 ^ 24 by decide, if_false, if_true, Sem.run_pure, Instr.fill, Array.map_empty, show Array.range 0 = #[] by simp, newRow, run_newObj, World.alloc]
    have hb : Below w.heap.size w (w.alloc (.cells #[] e)) := ⟨rfl, rfl, rfl, (by show w.heap.size ≤ (w.heap.push _).size; rw [Array.size_push]; omega), fun k hk => by
      show (w.heap.push _)[k]? = _
      rw [Array.getElem?_push, if_neg (by omega)]⟩
    obtain ⟨p, q⟩ := below_adv st hb
    unfold Oper.wp
    rw [hrun, Oper.upon_value]
    exact hnext _ H _ _ m h p q (.nilSlice _)
  | isnil neg x =>
    simp only [acall] at h
    split at h
    · rename_i v hv
      split at h
      · rename_i k n hn
        obtain ⟨t, e, u, ho, ht⟩ := trOp_isnil htr
        obtain ⟨ad, len, cap, he, hlen, hne⟩ := alen_val (ev_sound fr hv) hn
        have hc : a.eval (.const (.slice none 0 0)) = .slice none 0 0 := rfl
        have hrun : (execOp a.eval o).run P w = .ok (.value (.bool (if neg then !ad.isNone else ad.isNone))) w := by
          have heq : (Op.equal t (.slice ad len cap) (.slice none 0 0)).run P w = .ok ad.isNone w := by
            unfold Op.equal Op.maxDepth
            exact run_equal_nil ht 9999 ad len cap w
          have hg : ∀ op, (eqGuard op t x (.const (.slice none 0 0)) (.slice ad len cap) (.slice none 0 0)).run P w = .ok () w := by
            intro op
            unfold eqGuard
            split <;> rfl
          cases neg with
          | false =>
            have ho' : o.op = .binOp .eql t x (.const (.slice none 0 0)) u := ho
            have hb : binOp .eql t (.slice ad len cap) (.slice none 0 0) = (do pure (.bool (← Op.equal t (.slice ad len cap) (.slice none 0 0)))) := by unfold binOp; rfl
            simp only [execOp, ho', hc, he, Sem.run_bind, hg, Result.andThen_ok, hb, heq, Sem.run_pure]
            rfl
          | true =>
            have ho' : o.op = .binOp .neq t x (.const (.slice none 0 0)) u := ho
            have hb : binOp .neq t (.slice ad len cap) (.slice none 0 0) = (do pure (.bool (!(← Op.equal t (.slice ad len cap) (.slice none 0 0))))) := by unfold binOp; rfl
            simp only [execOp, ho', hc, he, Sem.run_bind, hg, Result.andThen_ok, hb, heq, Sem.run_pure]
            rfl
        unfold Oper.wp
        rw [hrun, Oper.upon_value]
        by_cases h0 : 0 < n
        · rw [if_pos h0] at h
          have := hne h0
          have e1 : (if neg then !ad.isNone else ad.isNone) = neg := by cases ad <;> cases neg <;> simp_all
          rw [e1]
          exact hnext _ H _ w m h st (Adv.refl _ _ _) (.bool _)
        · rw [if_neg h0] at h
          exact hnext _ H _ w m (h _) st (Adv.refl _ _ _) (.bool _)
      · exact h.elim
    · exact h.elim
  | invoke x name args =>
    simp only [acall] at h
    split at h
    · rename_i t v vs hx hvs
      split at h
      · rename_i f hm
        obtain ⟨as, ts, ho, rfl⟩ := trOp_invoke htr
        obtain ⟨p1, p2⟩ := evs_sound fr _ _ hvs
        have hxv := ev_sound fr hx
        generalize he : a.eval x = u at hxv
        cases hxv with
        | iface _ _ v' hv' =>
          refine upon_calls (h.2 w m B (#[v'] ++ as.map a.eval) st ⟨by simp [p1, Nat.add_comm], fun i x v e1 e2 => ?_⟩) (fun e w' ⟨v, x, m', H', he, hk, s1, s2, s3⟩ => ⟨v, he, hnext x H' v w' m' hk s1 s2 s3⟩) ?_
          · cases i with
            | zero =>
              have e3 : (#[v'] ++ Array.map a.eval as)[0]? = some v' := by rw [Array.getElem?_append_left (show 0 < 1 from Nat.zero_lt_one)]; rfl
              rw [e3] at e2
              cases e1; cases e2; exact hv'
            | succ i =>
              simp only [List.getElem?_cons_succ] at e1
              rw [Array.getElem?_append_right (by simp)] at e2
              exact p2 i x v e1 (by simpa using e2)
          · have hd : P.types.size + Made.depth = (P.types.size + Made.depth - 1) + 1 := by simp [Made.depth]
            simp only [execOp, ho, resolve, Sem.run_bind, Sem.run_pure, Result.andThen_ok, he, invoke]
            have hz : (#[Value.iface t v'] ++ Array.map a.eval as)[0]? = some (Value.iface t v') := by rw [Array.getElem?_append_left (show 0 < 1 from Nat.zero_lt_one)]; rfl
            have hxs : (#[Value.iface t v'] ++ Array.map a.eval as).extract 1 (#[Value.iface t v'] ++ Array.map a.eval as).size = Array.map a.eval as := by simp
            rw [hz]
            simp only [hxs, callMethod, Sem.run_bind, run_program, Result.andThen_ok]
            rw [hd, amethod_run hm]
            simp only [Result.andThen_ok]
            exact run_callFunc_ok h.1 _ _
      · exact h.elim
    · exact h.elim
  | _ => exact step h
theorem yielded_eq {ops : List Oper} {j g : Nat} (hj : (ops[j]?).bind (·.dst) = some g) (tmps : Array Value) : yielded ops.toArray tmps j = match tmps[g]? with | some (.bool b) => some b | _ => none := by
  unfold yielded
  rw [List.getElem?_toArray, hj]
  simp only [Option.bind_some]
  cases tmps[g]? with
  | none => rfl
  | some v => cases v <;> rfl
theorem FR.over {n w m H B} {env : AEnv} {a : Act} (h : FR n w m H B env a) {g : Nat} {x : AV} (hx : AEnv.get env g = some x) : FR n w m H B ((g, x) :: env) a := by
  refine ⟨h.defers, h.size, fun t y e => ?_⟩
  simp only [AEnv.get] at e
  split at e
  · rename_i hgt; subst hgt; cases e; exact h.slots g x hx
  · exact h.slots t y e
theorem FR.envput {n w m H B} {env : AEnv} {a : Act} (h : FR n w m H B env a) {d : Option Nat} (hd : (match d with | some d => decide (d < n) | none => true) = true) {x : AV} {v : Value} (hv : RV w m H B x v) : FR n w m H B (Awp.envput d x env) (a.put d v) := by
  cases d with
  | none => exact h
  | some d => exact h.put (by simpa using hd) hv
theorem awpOps_sound {u : Option (List Nat)} {ops : List Oper} : ∀ (l : List Oper) (ss : List IStmt), trStmts P n u ops l = some ss → ∀ {K : AEnv → AHeap → Prop} (env : AEnv) (H : AHeap) (a : Act) (w : World), Rel n w0 m0 H0 B env H a w → awpOps P ss K env H →
    (∀ env' H' a' w', K env' H' → Rel n w0 m0 H0 B env' H' a' w' → Q .normal a' w') → wpList P ops.toArray Q l a w
  | [], ss, htr, K, env, H, a, w, rel, h, hq => by
    cases htr
    exact hq env H a w h rel
  | o :: l, ss, htr, K, env, H, a, w, rel, h, hq => by
    simp only [trStmts] at htr
    split at htr
    · rename_i s r hs hr
      cases htr
      unfold trStmt at hs
      split at hs
      · rename_i io hio hd
        obtain ⟨m, fr, st, ad⟩ := rel
        simp only [awpOps] at h
        split at hs
        · rename_i hg
          cases hs
          simp only at h
          refine wpList_plain hg fun N hN => ?_
          refine acall_sound hio fr st h fun x H' v w' m' hk s1 s2 s3 => hN _ _ ?_
          exact awpOps_sound l r hr _ _ _ _ ⟨m', (fr.mono s2).envput hd s3, s1, ad.trans s2⟩ hk hq
        · rename_i j want hg
          split at hs
          · rename_i g hj
            cases hs
            simp only at h
            have hw : ∀ (u : Value), a.tmps[g]? = some u → Region.wanted o (yielded ops.toArray a.tmps) = ((match u with | .bool b => some b | _ => none) == some want) := by
              intro u hu
              simp only [Region.wanted, hg, yielded_eq hj, hu]
              cases u <;> rfl
            split at h
            · rename_i c hc
              obtain ⟨h1, h2⟩ := h
              obtain ⟨u, hu, ru⟩ := fr.slots g _ hc
              cases ru
              by_cases hcw : c = want
              · subst hcw
                refine wpList_step fun N hN => ?_
                rw [hw _ hu]
                simp only [beq_self_eq_true, if_true]
                refine acall_sound hio (fr.over hc) st (h1 rfl) fun x H' v w' m' hk s1 s2 s3 => hN _ _ ?_
                exact awpOps_sound l r hr _ _ _ _ ⟨m', ((fr.over hc).mono s2).envput hd s3, s1, ad.trans s2⟩ hk hq
              · have hcw' : c = !want := by cases c <;> cases want <;> simp_all
                subst hcw'
                refine wpList_step fun N hN => ?_
                rw [hw _ hu, if_neg (by cases want <;> simp)]
                refine hN _ _ ?_
                exact awpOps_sound l r hr _ _ _ _ ⟨m, (fr.over hc).envput hd (.tuple [] #[] rfl (by simp)), st, ad⟩ (h2 rfl) hq
            · rename_i hc
              obtain ⟨u, hu, ru⟩ := fr.slots g _ hc
              cases ru
              refine wpList_step fun N hN => ?_
              rw [hw _ hu, if_neg (by simp)]
              refine hN _ _ ?_
              exact awpOps_sound l r hr _ _ _ _ ⟨m, fr.envput hd (.tuple [] #[] rfl (by simp)), st, ad⟩ h hq
            · exact h.elim
          · cases hs
      · cases hs
    · cases htr
end
end Go.Awp
/- Regions that draw their order: what is owed of them, part 1. Generic in the program. -/
namespace Go.Awp
set_option linter.unusedSectionVars false
variable [Fx]
inductive Cls where
  | pure | load | alloc | call | write
def cls : IOp → Cls
  | .load .. | .iaddr .. | .slice .. | .slice3 .. | .len .. | .lookup .. => .load
  | .box .. | .zero .. | .mklit .. | .mkslice .. => .alloc
  | .call .. | .callv .. | .invoke .. => .call
  | .store .. | .append .. | .copy .. | .clear .. | .appS .. | .mkmap | .mapset .. => .write
  | _ => .pure
theorem qstep_indep {io : IOp} (h : cls io = .pure ∨ cls io = .alloc) (env : AEnv) (H H' : AHeap) : qstep io env H = qstep io env H' := by
  cases io <;> simp [cls] at h <;> rfl
theorem deref_push {H : AHeap} {p : AV} {cells : List AV} (h : deref H p = some cells) (X : AHeap) : deref (H ++ X) p = some cells := by
  cases p <;> simp only [deref] at h ⊢ <;> try exact h
  split at h
  · rename_i o ho
    rw [AHeap.obj_push_lt (AHeap.obj_lt ho), ho]
    exact h
  · cases h
theorem alen_push {H : AHeap} {p v : AV} (h : alen H p = some v) (X : AHeap) : alen (H ++ X) p = some v := by
  cases p <;> simp only [alen] at h ⊢ <;> try exact h
  all_goals
    split at h
    · rename_i o ho
      rw [AHeap.obj_push_lt (AHeap.obj_lt ho), ho]
      exact h
    · cases h
theorem aiaddr_push {H : AHeap} {s : Nat} {p q v : AV} (h : aiaddr H s p q = some v) (X : AHeap) : aiaddr (H ++ X) s p q = some v := by
  unfold aiaddr at h ⊢
  split at h
  · split at h
    · rename_i o ho
      simp only [AHeap.obj_push_lt (AHeap.obj_lt ho), ho]
      exact h
    · cases h
  · split at h
    · rename_i o ho
      simp only [AHeap.obj_push_lt (AHeap.obj_lt ho), ho]
      exact h
    · cases h
  · exact h
  · cases h
theorem aslice_push {H : AHeap} {s : Nat} {p v : AV} {l r : Option AV} (h : aslice H s p l r = some v) (X : AHeap) : aslice (H ++ X) s p l r = some v := by
  cases p <;> simp only [aslice] at h ⊢ <;> try exact h
  split at h
  · rename_i o ho
    rw [AHeap.obj_push_lt (AHeap.obj_lt ho), ho]
    exact h
  · cases h
theorem alookup_push {H : AHeap} {x : AV} {ks : List AV} {v : Option AV} (h : alookup H x ks = some v) (X : AHeap) : alookup (H ++ X) x ks = some v := by
  cases x <;> simp only [alookup] at h ⊢ <;> try exact h
  split at h
  · rename_i o ho
    rw [AHeap.obj_push_lt (AHeap.obj_lt ho), ho]
    exact h
  · cases h
theorem aslice3_push {H : AHeap} {s : Nat} {p v : AV} {l r q : Option AV} (h : aslice3 H s p l r q = some v) (X : AHeap) : aslice3 (H ++ X) s p l r q = some v := by
  cases p <;> simp only [aslice3] at h ⊢ <;> try exact h
  split at h
  · rename_i o ho
    rw [AHeap.obj_push_lt (AHeap.obj_lt ho), ho]
    exact h
  · cases h
theorem qstep_push {io : IOp} (hl : cls io = .load) {env : AEnv} {H : AHeap} {v : AV} (h : qstep io env H = some (.val v)) (X : AHeap) : qstep io env (H ++ X) = some (.val v) := by
  cases io <;> simp [cls] at hl
  · simp only [qstep] at h ⊢
    split at h
    · rename_i p hp
      split at h
      · rename_i cells hc
        simp only [deref_push hc X]
        exact h
      · cases h
    · cases h
  · simp only [qstep] at h ⊢
    split at h
    · rename_i p q hp hq
      split at h
      · rename_i u hu
        simp only [aiaddr_push hu X]
        exact h
      · cases h
    · cases h
  · simp only [qstep] at h ⊢
    split at h
    · rename_i p l r hp hl hr
      split at h
      · rename_i u hu
        simp only [aslice_push hu X]
        exact h
      · cases h
    · cases h
  · simp only [qstep] at h ⊢
    split at h
    · rename_i p l r q hp hl hr hq
      split at h
      · rename_i u hu
        simp only [aslice3_push hu X]
        exact h
      · cases h
    · cases h
  · simp only [qstep] at h ⊢
    split at h
    · rename_i p hp
      split at h
      · rename_i u hu
        simp only [alen_push hu X]
        exact h
      · cases h
    · cases h
  · simp only [qstep] at h ⊢
    split at h
    · rename_i x k hx hk
      split at h
      · rename_i ks hks
        split at h
        · rename_i u hu
          simp only [alookup_push hu X]
          exact h
        · rename_i hu
          simp only [alookup_push hu X]
          exact h
        · cases h
      · cases h
    · cases h
/-- Which function a call calls, and with what. -/
def target (P : Program) (io : IOp) (env : AEnv) : Option (FuncId × List AV) :=
  match io with
  | .call f args => match evs env args with
    | some vs => some (f, vs)
    | none => none
  | .callv x args => match ev env x, evs env args with
    | some (.func (.func f) first caps), some vs => some (f, first ++ vs ++ caps)
    | _, _ => none
  | .invoke x name args => match ev env x, evs env args with
    | some (.iface t v), some vs => (match amethod P t name with
      | some f => some (f, v :: vs)
      | none => none)
    | _, _ => none
  | _ => none
/-- Guards: whether the statement is carried out; and what is known then. -/
def guardD (g : Option (Nat × Bool)) (env : AEnv) (on : AEnv → Prop) (off : AEnv → Prop) : Prop :=
  match g with
  | none => on env
  | some (g, want) => match AEnv.get env g with
    | some (.bool c) => (c = want → on ((g, .bool want) :: env)) ∧ (c = !want → off ((g, .bool (!want)) :: env))
    | some (.tuple []) => off env
    | _ => False
/-- The part of a region ahead of its first write: reads, new objects, calls of plain data. -/
def awpD1 (P : Program) : List IStmt → List (IOp × AEnv × AV) → (List (IOp × AEnv × AV) → AEnv → AHeap → Prop) → AEnv → AHeap → Prop
  | [], L, K, env, H => K L env H
  | s :: rest, L, K, env, H => guardD s.guard env
      (fun env => match cls s.op with
        | .pure => (match qstep s.op (AEnv.trim env s.uses) H with
          | some (.val v) => awpD1 P rest L K (envput s.dst v env) H
          | _ => False)
        | .load => (match qstep s.op (AEnv.trim env s.uses) H with
          | some (.val v) => awpD1 P rest (if s.late then (s.op, AEnv.trim env s.uses, v) :: L else L) K (envput s.dst v env) H
          | _ => False)
        | .alloc => (match qstep s.op (AEnv.trim env s.uses) H with
          | some (.box e sz cells) => awpD1 P rest L K (envput s.dst (.ptr H.length 1 0 0) env) (H ++ [some ⟨e, sz, [cells]⟩])
          | some (.arr e sz els) => awpD1 P rest L K (envput s.dst (.own H.length els.length 0 els.length) env) (H ++ [some ⟨e, sz, els⟩])
          | _ => False)
        | .call => (match target P s.op (AEnv.trim env s.uses) with
          | some (f, vs) => (∃ ys r, (∀ X : AHeap, FrzL (H ++ X) vs ys) ∧ PCall P f ys r ∧ awpD1 P rest L K (envput s.dst r env) H) ∨
              (∃ ys e sz els, (∀ X : AHeap, FrzL (H ++ X) vs ys) ∧ NCall P f ys e sz els ∧ awpD1 P rest L K (envput s.dst (.own H.length els.length 0 els.length) env) (H ++ [some ⟨e, sz, els⟩]))
          | none => False)
        | .write => False)
      (fun env => awpD1 P rest L K (envput s.dst (.tuple []) env) H)
/-- The part of a region from its first write on: what was read reads the same behind each write. -/
def awpD2 : List IStmt → List (IOp × AEnv × AV) → List AHeap → (AEnv → AHeap → Prop) → AEnv → AHeap → Prop
  | [], _, _, K, env, H => K env H
  | s :: rest, L, Ps, K, env, H => match s.guard, cls s.op with
    | none, .pure => (match qstep s.op (AEnv.trim env s.uses) H with
      | some (.val v) => awpD2 rest L Ps K (envput s.dst v env) H
      | _ => False)
    | none, .load => (match qstep s.op (AEnv.trim env s.uses) H with
      | some (.val v) => (∀ G, G ∈ Ps → qstep s.op (AEnv.trim env s.uses) G = some (.val v)) ∧ awpD2 rest ((s.op, AEnv.trim env s.uses, v) :: L) Ps K (envput s.dst v env) H
      | _ => False)
    | none, .write => (match sstep s.op (AEnv.trim env s.uses) H with
      | some (x, H') => (∀ t, t ∈ L → qstep t.1 t.2.1 H' = some (.val t.2.2)) ∧ awpD2 rest L (H :: Ps) K (envput s.dst (x.getD (.tuple [])) env) H'
      | none => False)
    | _, _ => False
/-- Ancestors of operations, as bits. -/
def ancStep (acc : List Nat) (o : Oper) : Nat := o.after.toList.foldl (fun s e => if Region.binds .any e then s ||| (2 ^ e.on) ||| (acc[e.on]?.getD 0) else s) 0
def ancs : List Nat → List Oper → List Nat
  | acc, [] => acc
  | acc, o :: r => ancs (acc ++ [ancStep acc o]) r
def Listed (ops : List Oper) (L : Nat → Prop) (i : Nat) : Prop := ∀ o, ops[i]? = some o → ∀ e, e ∈ o.after → Region.binds .any e = true → L e.on
theorem ancs_spec (ops : List Oper) (L : Nat → Prop) (hcl : ∀ j, L j → Listed ops L j) : ∀ (r : List Oper) (acc : List Nat), (∀ j, r[j]? = ops[acc.length + j]?) →
    (∀ i x, acc[i]? = some x → ∀ j, x.testBit j = true → Listed ops L i → L j) → ∀ i x, (ancs acc r)[i]? = some x → ∀ j, x.testBit j = true → Listed ops L i → L j
  | [], acc, _, h => h
  | o :: r, acc, hr, h => by
    simp only [ancs]
    refine ancs_spec ops L hcl r _ (fun j => ?_) fun i x hx j hj hL => ?_
    · have := hr (j + 1)
      simp only [List.getElem?_cons_succ] at this
      rw [this]; simp; congr 1; omega
    · rcases Nat.lt_or_ge i acc.length with hi | hi
      · rw [List.getElem?_append_left hi] at hx
        exact h i x hx j hj hL
      · rw [List.getElem?_append_right hi] at hx
        have hi0 : i = acc.length := by
          rcases Nat.eq_or_lt_of_le hi with e | e
          · exact e.symm
          · rw [List.getElem?_eq_none (by simp; omega)] at hx; cases hx
        subst hi0
        simp at hx
        subst hx
        have ho : ops[acc.length]? = some o := by have := hr 0; simpa using this.symm
        have hLo := hL o ho
        unfold ancStep at hj
        have key : ∀ (es : List Edge) (s : Nat), (∀ e, e ∈ es → e ∈ o.after) → (s.testBit j = true → L j) → (es.foldl (fun s e => if Region.binds .any e then s ||| (2 ^ e.on) ||| (acc[e.on]?.getD 0) else s) s).testBit j = true → L j := by
          intro es
          induction es with
          | nil => intro s _ hs hj; exact hs hj
          | cons e es ih =>
            intro s hes hs hj
            refine ih _ (fun e' he' => hes e' (by simp [he'])) (fun hb => ?_) hj
            simp only at hb
            split at hb
            · rename_i hbe
              have hLe := hLo e (hes e (by simp)) hbe
              simp only [Nat.testBit_or, Bool.or_eq_true] at hb
              rcases hb with (hb | hb) | hb
              · exact hs hb
              · rw [Nat.testBit_two_pow] at hb
                have : e.on = j := by simpa using hb
                rw [← this]; exact hLe
              · cases hx : acc[e.on]? with
                | none => rw [hx] at hb; simp at hb
                | some y =>
                  rw [hx] at hb
                  exact h e.on y hx j (by simpa using hb) (hcl e.on hLe)
            · exact hs hb
        exact key o.after.toList 0 (fun e he => by simpa using he) (fun hb => by simp at hb) hj
end Go.Awp
/- Regions that draw their order: what is owed of them, part 2: what the walk in the text's order tells of each statement. Generic in the program. -/
namespace Go.Awp
set_option linter.unusedSectionVars false
variable [Fx]
def slotsOf (s : IStmt) : List Nat := s.uses ++ (match s.guard with | some (g, _) => [g] | none => [])
def dstsOf (ss : List IStmt) : List Nat := ss.filterMap (·.dst)
def ssa : List IStmt → Bool
  | [] => true
  | s :: r => ((slotsOf s).all fun t => decide (s.dst ≠ some t) && !(dstsOf r).contains t) && (match s.dst with | some d => !(dstsOf r).contains d | none => true) && ssa r
theorem trim_congr {e e' : AEnv} : ∀ (k : List Nat), (∀ t, t ∈ k → AEnv.get e t = AEnv.get e' t) → AEnv.trim e k = AEnv.trim e' k
  | [], _ => rfl
  | t :: k, h => by
    simp only [AEnv.trim, h t (by simp), trim_congr k (fun t ht => h t (by simp [ht]))]
theorem get_envput_ne {d : Option Nat} {x : AV} {env : AEnv} {t : Nat} (h : d ≠ some t) : AEnv.get (envput d x env) t = AEnv.get env t := by
  cases d with
  | none => rfl
  | some d =>
    simp only [envput, AEnv.get]
    rw [if_neg (fun e => h (by rw [e]))]
theorem get_envput_eq {d : Nat} {x : AV} {env : AEnv} : AEnv.get (envput (some d) x env) d = some x := by simp [envput, AEnv.get]
def GOn (g : Option (Nat × Bool)) (env : AEnv) : Prop := ∀ s want, g = some (s, want) → AEnv.get env s = some (.bool want)
def GOff (g : Option (Nat × Bool)) (env : AEnv) : Prop := ∃ s want, g = some (s, want) ∧ (AEnv.get env s = some (.bool (!want)) ∨ AEnv.get env s = some (.tuple []))
theorem guardD_cases {g : Option (Nat × Bool)} {env : AEnv} {on off : AEnv → Prop} (h : guardD g env on off) : ∃ env1 : AEnv, (∀ t, AEnv.get env1 t = AEnv.get env t) ∧ (GOn g env1 ∧ on env1 ∨ GOff g env1 ∧ off env1) := by
  have over : ∀ (s : Nat) (x : AV), AEnv.get env s = some x → ∀ t, AEnv.get ((s, x) :: env) t = AEnv.get env t := by
    intro s x hx t
    simp only [AEnv.get]
    split
    · rename_i h; subst h; exact hx.symm
    · rfl
  unfold guardD at h
  split at h
  · exact ⟨env, fun _ => rfl, .inl ⟨(fun _ _ e => by cases e), h⟩⟩
  · rename_i s want
    split at h
    · rename_i c hc
      by_cases hw : c = want
      · subst hw
        exact ⟨_, over s _ hc, .inl ⟨(fun _ _ e => by cases e; simp [AEnv.get]), h.1 rfl⟩⟩
      · have hw' : c = !want := by cases c <;> cases want <;> simp_all
        subst hw'
        exact ⟨_, over s _ hc, .inr ⟨⟨s, want, rfl, .inl (by simp [AEnv.get])⟩, h.2 rfl⟩⟩
    · rename_i hc
      exact ⟨env, fun _ => rfl, .inr ⟨⟨s, want, rfl, .inr hc⟩, h⟩⟩
    · exact h.elim
/-- What is known of a statement ahead of the first write. -/
def Info1 (P : Program) (s : IStmt) (envF : AEnv) (G : AHeap) (L : List (IOp × AEnv × AV)) (V : AV) (hd : Option Nat) : Prop :=
  (GOff s.guard envF ∧ V = .tuple [] ∧ hd = none) ∨ (GOn s.guard envF ∧ match cls s.op with
    | .pure => hd = none ∧ ∀ H, qstep s.op (AEnv.trim envF s.uses) H = some (.val V)
    | .load => hd = none ∧ qstep s.op (AEnv.trim envF s.uses) G = some (.val V) ∧ (s.late = true → (s.op, AEnv.trim envF s.uses, V) ∈ L)
    | .alloc => ∃ h, hd = some h ∧ ((∃ e sz cells, qstep s.op (AEnv.trim envF s.uses) G = some (.box e sz cells) ∧ AHeap.obj G h = some ⟨e, sz, [cells]⟩ ∧ V = .ptr h 1 0 0) ∨
        (∃ e sz els, qstep s.op (AEnv.trim envF s.uses) G = some (.arr e sz els) ∧ AHeap.obj G h = some ⟨e, sz, els⟩ ∧ V = .own h els.length 0 els.length))
    | .call => (hd = none ∧ ∃ f vs ys, target P s.op (AEnv.trim envF s.uses) = some (f, vs) ∧ FrzL G vs ys ∧ PCall P f ys V) ∨
        (∃ h, hd = some h ∧ ∃ f vs ys e sz els, target P s.op (AEnv.trim envF s.uses) = some (f, vs) ∧ FrzL G vs ys ∧ NCall P f ys e sz els ∧ AHeap.obj G h = some ⟨e, sz, els⟩ ∧ V = .own h els.length 0 els.length)
    | .write => False)
theorem GOn.congr {g : Option (Nat × Bool)} {e e' : AEnv} (h : GOn g e) (he : ∀ s want, g = some (s, want) → AEnv.get e' s = AEnv.get e s) : GOn g e' := fun s want hg => (he s want hg).trans (h s want hg)
theorem GOff.congr {g : Option (Nat × Bool)} {e e' : AEnv} (h : GOff g e) (he : ∀ s want, g = some (s, want) → AEnv.get e' s = AEnv.get e s) : GOff g e' := by
  obtain ⟨s, want, hg, hh⟩ := h
  exact ⟨s, want, hg, by rw [he s want hg]; exact hh⟩
theorem Info1.congr {P s e e' G L V hd} (h : Info1 P s e G L V hd) (he : ∀ t, t ∈ slotsOf s → AEnv.get e' t = AEnv.get e t) : Info1 P s e' G L V hd := by
  have hg : ∀ q want, s.guard = some (q, want) → AEnv.get e' q = AEnv.get e q := fun q want hq => he q (by simp [slotsOf, hq])
  have ht : AEnv.trim e' s.uses = AEnv.trim e s.uses := trim_congr _ fun t ht => he t (by simp [slotsOf, ht])
  rcases h with ⟨h1, h2⟩ | ⟨h1, h2⟩
  · exact .inl ⟨h1.congr hg, h2⟩
  · exact .inr ⟨h1.congr hg, by rw [ht]; exact h2⟩
structure Ext1 (P : Program) (ss : List IStmt) (L : List (IOp × AEnv × AV)) (K : List (IOp × AEnv × AV) → AEnv → AHeap → Prop) (env : AEnv) (H : AHeap) (L' : List (IOp × AEnv × AV)) (envF : AEnv) (X : AHeap) (Vs : List AV) (hs : List (Option Nat)) : Prop where
  post : K L' envF (H ++ X)
  sub : ∀ t, t ∈ L → t ∈ L'
  lenV : Vs.length = ss.length
  lenh : hs.length = ss.length
  other : ∀ t, t ∉ dstsOf ss → AEnv.get envF t = AEnv.get env t
  info : ∀ (i : Nat) s V hd, ss[i]? = some s → Vs[i]? = some V → hs[i]? = some hd → (∀ d, s.dst = some d → AEnv.get envF d = some V) ∧ Info1 P s envF (H ++ X) L' V hd
  fresh : ∀ (i h : Nat), hs[i]? = some (some h) → H.length ≤ h
  inj : ∀ (i j h : Nat), hs[i]? = some (some h) → hs[j]? = some (some h) → i = j
  lok : ∀ t, t ∈ L' → t ∈ L ∨ qstep t.1 t.2.1 (H ++ X) = some (.val t.2.2)
theorem mem_dsts {s : IStmt} {r : List IStmt} {t : Nat} : t ∉ dstsOf (s :: r) ↔ s.dst ≠ some t ∧ t ∉ dstsOf r := by
  unfold dstsOf
  cases hd : s.dst with
  | none => simp [hd]
  | some d => simp [hd, eq_comm]
theorem awpD1_ext {P : Program} : ∀ (ss : List IStmt) (L : List (IOp × AEnv × AV)) (K : List (IOp × AEnv × AV) → AEnv → AHeap → Prop) (env : AEnv) (H : AHeap), ssa ss = true → awpD1 P ss L K env H → ∃ L' envF X Vs hs, Ext1 P ss L K env H L' envF X Vs hs
  | [], L, K, env, H, _, h => ⟨L, env, [], [], [], by rw [List.append_nil]; exact h, fun _ h => h, rfl, rfl, fun _ _ => rfl, by simp, by simp, by simp, fun t ht => .inl ht⟩
  | s :: r, L, K, env, H, hssa, h => by
    simp only [ssa, Bool.and_eq_true] at hssa
    obtain ⟨⟨hu, hd⟩, hr⟩ := hssa
    have huse : ∀ t, t ∈ slotsOf s → s.dst ≠ some t ∧ t ∉ dstsOf r := fun t ht => by
      have := List.all_eq_true.1 hu t ht
      simpa using this
    have hdst : ∀ d, s.dst = some d → d ∉ dstsOf r := fun d e => by rw [e] at hd; simpa using hd
    -- one step, and the rest
    have step : ∀ (env1 : AEnv) (V : AV) (hd : Option Nat) (L1 : List (IOp × AEnv × AV)) (X1 : AHeap), (∀ t, AEnv.get env1 t = AEnv.get env t) → (∀ t, t ∈ L → t ∈ L1) → awpD1 P r L1 K (envput s.dst V env1) (H ++ X1) →
        (∀ envF X L', (∀ t, t ∈ slotsOf s → AEnv.get envF t = AEnv.get env1 t) → (∀ t, t ∈ L1 → t ∈ L') → Info1 P s envF (H ++ X1 ++ X) L' V hd) → (∀ h, hd = some h → H.length ≤ h ∧ h < (H ++ X1).length) →
        (∀ t, t ∈ L1 → t ∈ L ∨ ∀ X, qstep t.1 t.2.1 (H ++ X1 ++ X) = some (.val t.2.2)) →
        ∃ L' envF X Vs hs, Ext1 P (s :: r) L K env H L' envF X Vs hs := by
      intro env1 V hd L1 X1 he1 hsub hrest hinfo hfr hlok
      obtain ⟨L', envF, X, Vs, hs, ex⟩ := awpD1_ext r L1 K _ _ hr hrest
      have hget : ∀ t, t ∈ slotsOf s → AEnv.get envF t = AEnv.get env1 t := fun t ht => by
        rw [ex.other t (huse t ht).2, get_envput_ne (huse t ht).1]
      refine ⟨L', envF, X1 ++ X, V :: Vs, hd :: hs, ?_, fun t ht => ex.sub t (hsub t ht), by simp [ex.lenV], by simp [ex.lenh], fun t ht => ?_, fun i s' V' hd' a1 a2 a3 => ?_, fun i h a1 => ?_, fun i j h a1 a2 => ?_, fun t ht => ?_⟩
      · have := ex.post; rwa [List.append_assoc] at this
      · obtain ⟨h1, h2⟩ := mem_dsts.1 ht
        rw [ex.other t h2, get_envput_ne h1, he1]
      · cases i with
        | zero =>
          simp at a1 a2 a3; subst a1; subst a2; subst a3
          refine ⟨fun d e => ?_, ?_⟩
          · rw [ex.other d (hdst d e), e, get_envput_eq]
          · have := hinfo envF X L' hget ex.sub
            rwa [List.append_assoc] at this
        | succ i =>
          have := ex.info i s' V' hd' (by simpa using a1) (by simpa using a2) (by simpa using a3)
          rwa [List.append_assoc] at this
      · cases i with
        | zero => simp at a1; exact (hfr h a1).1
        | succ i =>
          have := ex.fresh i h (by simpa using a1)
          simp at this; omega
      · cases i with
        | zero =>
          cases j with
          | zero => rfl
          | succ j =>
            simp at a1
            have h1 := (hfr h a1).2
            have h2 := ex.fresh j h (by simpa using a2)
            omega
        | succ i =>
          cases j with
          | zero =>
            simp at a2
            have h1 := (hfr h a2).2
            have h2 := ex.fresh i h (by simpa using a1)
            omega
          | succ j => have := ex.inj i j h (by simpa using a1) (by simpa using a2); omega
      · rcases ex.lok t ht with h1 | h1
        · rcases hlok t h1 with h2 | h2
          · exact .inl h2
          · have := h2 X; rw [List.append_assoc] at this; exact .inr this
        · rw [List.append_assoc] at h1; exact .inr h1
    simp only [awpD1] at h
    obtain ⟨env1, he1, ⟨hg, h⟩ | ⟨hg, h⟩⟩ := guardD_cases h
    · have tr : ∀ envF : AEnv, (∀ t, t ∈ slotsOf s → AEnv.get envF t = AEnv.get env1 t) → AEnv.trim envF s.uses = AEnv.trim env1 s.uses ∧ GOn s.guard envF := fun envF hge =>
        ⟨trim_congr _ fun t ht => hge t (by simp [slotsOf, ht]), hg.congr fun q want hq => hge q (by simp [slotsOf, hq])⟩
      split at h
      · rename_i hc
        split at h
        · rename_i v hv
          refine step env1 v none L [] he1 (fun _ h => h) (by simpa using h) (fun envF X L' hge hsub => .inr ⟨(tr envF hge).2, ?_⟩) (by simp) (fun t ht => .inl ht)
          rw [hc, (tr envF hge).1]
          exact ⟨rfl, fun H' => by rw [qstep_indep (.inl hc) _ H' H]; exact hv⟩
        · exact h.elim
      · rename_i hc
        split at h
        · rename_i v hv
          refine step env1 v none (if s.late then (s.op, AEnv.trim env1 s.uses, v) :: L else L) [] he1 (fun _ h => by split <;> simp [h]) (by simpa using h) (fun envF X L' hge hsub => .inr ⟨(tr envF hge).2, ?_⟩) (by simp) (fun t ht => ?_)
          · rw [hc, (tr envF hge).1]
            exact ⟨rfl, by rw [List.append_nil]; exact qstep_push hc hv X, fun hl => hsub _ (by simp [hl])⟩
          · split at ht
            · rcases List.mem_cons.1 ht with rfl | ht
              · exact .inr fun X => by rw [List.append_nil]; exact qstep_push hc hv X
              · exact .inl ht
            · exact .inl ht
        · exact h.elim
      · rename_i hc
        split at h
        · rename_i e sz cells hv
          refine step env1 _ (some H.length) L [some ⟨e, sz, [cells]⟩] he1 (fun _ h => h) h (fun envF X L' hge hsub => .inr ⟨(tr envF hge).2, ?_⟩) (fun h' e => by cases e; simp) (fun t ht => .inl ht)
          rw [hc, (tr envF hge).1]
          exact ⟨_, rfl, .inl ⟨e, sz, cells, by rw [qstep_indep (.inr hc) _ _ H]; exact hv, by rw [AHeap.obj_push_lt (by simp)]; exact AHeap.obj_push_eq, rfl⟩⟩
        · rename_i e sz els hv
          refine step env1 _ (some H.length) L [some ⟨e, sz, els⟩] he1 (fun _ h => h) h (fun envF X L' hge hsub => .inr ⟨(tr envF hge).2, ?_⟩) (fun h' e => by cases e; simp) (fun t ht => .inl ht)
          rw [hc, (tr envF hge).1]
          exact ⟨_, rfl, .inr ⟨e, sz, els, by rw [qstep_indep (.inr hc) _ _ H]; exact hv, by rw [AHeap.obj_push_lt (by simp)]; exact AHeap.obj_push_eq, rfl⟩⟩
        · exact h.elim
      · rename_i hc
        split at h
        · rename_i f vs hv
          rcases h with ⟨ys, r', hf, hp, h⟩ | ⟨ys, e, sz, els, hf, hp, h⟩
          · refine step env1 r' none L [] he1 (fun _ h => h) (by simpa using h) (fun envF X L' hge hsub => .inr ⟨(tr envF hge).2, ?_⟩) (by simp) (fun t ht => .inl ht)
            rw [hc, (tr envF hge).1]
            exact .inl ⟨rfl, f, vs, ys, hv, by rw [List.append_nil]; exact hf X, hp⟩
          · refine step env1 _ (some H.length) L [some ⟨e, sz, els⟩] he1 (fun _ h => h) h (fun envF X L' hge hsub => .inr ⟨(tr envF hge).2, ?_⟩) (fun h' e => by cases e; simp) (fun t ht => .inl ht)
            rw [hc, (tr envF hge).1]
            exact .inr ⟨_, rfl, f, vs, ys, e, sz, els, hv, by rw [List.append_assoc]; exact hf _, hp, by rw [AHeap.obj_push_lt (by simp)]; exact AHeap.obj_push_eq, rfl⟩
        · exact h.elim
      · exact h.elim
    · refine step env1 (.tuple []) none L [] he1 (fun _ h => h) (by simpa using h) (fun envF X L' hge hsub => .inl ⟨hg.congr fun q want hq => hge q (by simp [slotsOf, hq]), rfl, rfl⟩) (by simp) (fun t ht => .inl ht)
/-- What is known of a statement from the first write on. -/
def Info2 (s : IStmt) (envF : AEnv) (Ps : List AHeap) (N : Nat) (G : Nat → AHeap) (ph : Nat) (V : AV) : Prop :=
  s.guard = none ∧ match cls s.op with
    | .pure => ∀ H, qstep s.op (AEnv.trim envF s.uses) H = some (.val V)
    | .load => (∀ H, H ∈ Ps → qstep s.op (AEnv.trim envF s.uses) H = some (.val V)) ∧ ∀ p, p ≤ N → qstep s.op (AEnv.trim envF s.uses) (G p) = some (.val V)
    | .write => ∃ x, sstep s.op (AEnv.trim envF s.uses) (G ph) = some (x, G (ph + 1)) ∧ V = x.getD (.tuple [])
    | _ => False
def isW (s : IStmt) : Bool := match cls s.op with | .write => true | _ => false
def nW (ss : List IStmt) : Nat := (ss.filter isW).length
structure Ext2 (ss : List IStmt) (L : List (IOp × AEnv × AV)) (Ps : List AHeap) (K : AEnv → AHeap → Prop) (env : AEnv) (H : AHeap) (envF : AEnv) (G : Nat → AHeap) (Vs : List AV) : Prop where
  start : G 0 = H
  post : K envF (G (nW ss))
  lenV : Vs.length = ss.length
  other : ∀ t, t ∉ dstsOf ss → AEnv.get envF t = AEnv.get env t
  info : ∀ (i : Nat) s V, ss[i]? = some s → Vs[i]? = some V → (∀ d, s.dst = some d → AEnv.get envF d = some V) ∧ Info2 s envF Ps (nW ss) G (nW (ss.take i)) V
  lok : ∀ p, 0 < p → p ≤ nW ss → ∀ t, t ∈ L → qstep t.1 t.2.1 (G p) = some (.val t.2.2)
theorem Info2.congr {s e e' Ps N G ph V} (h : Info2 s e Ps N G ph V) (he : ∀ t, t ∈ s.uses → AEnv.get e' t = AEnv.get e t) : Info2 s e' Ps N G ph V := by
  unfold Info2 at *
  rw [trim_congr (e := e') (e' := e) _ he]
  exact h
theorem awpD2_ext : ∀ (ss : List IStmt) (L : List (IOp × AEnv × AV)) (Ps : List AHeap) (K : AEnv → AHeap → Prop) (env : AEnv) (H : AHeap), ssa ss = true → awpD2 ss L Ps K env H → ∃ envF G Vs, Ext2 ss L Ps K env H envF G Vs
  | [], L, Ps, K, env, H, _, h => ⟨env, fun _ => H, [], rfl, h, rfl, fun _ _ => rfl, by simp, fun p h1 h2 => by simp [nW] at h2; omega⟩
  | s :: r, L, Ps, K, env, H, hssa, h => by
    simp only [ssa, Bool.and_eq_true] at hssa
    obtain ⟨⟨hu, hd⟩, hr⟩ := hssa
    have huse : ∀ t, t ∈ s.uses → s.dst ≠ some t ∧ t ∉ dstsOf r := fun t ht => by
      have := List.all_eq_true.1 hu t (by simp [slotsOf, ht])
      simpa using this
    have hdst : ∀ d, s.dst = some d → d ∉ dstsOf r := fun d e => by rw [e] at hd; simpa using hd
    simp only [awpD2] at h
    split at h
    · rename_i hg hc
      split at h
      · rename_i v hv
        obtain ⟨envF, G, Vs, ex⟩ := awpD2_ext r L Ps K _ _ hr h
        have hW : isW s = false := by unfold isW; rw [hc]
        have hget : ∀ t, t ∈ s.uses → AEnv.get envF t = AEnv.get env t := fun t ht => by
          rw [ex.other t (huse t ht).2, get_envput_ne (huse t ht).1]
        have hn : ∀ l, nW (s :: l) = nW l := fun l => by simp [nW, hW]
        refine ⟨envF, G, v :: Vs, ex.start, by rw [hn]; exact ex.post, by simp [ex.lenV], fun t ht => ?_, fun i s' V' a1 a2 => ?_, by rw [hn]; exact ex.lok⟩
        · obtain ⟨h1, h2⟩ := mem_dsts.1 ht
          rw [ex.other t h2, get_envput_ne h1]
        · cases i with
          | zero =>
            simp at a1 a2; subst a1; subst a2
            refine ⟨fun d e => by rw [ex.other d (hdst d e), e, get_envput_eq], hg, ?_⟩
            rw [hc, trim_congr _ hget]
            exact fun H' => by rw [qstep_indep (.inl hc) _ H' H]; exact hv
          | succ i =>
            rw [List.take_succ_cons, hn, hn]
            exact ex.info i s' V' (by simpa using a1) (by simpa using a2)
      · exact h.elim
    · rename_i hg hc
      split at h
      · rename_i v hv
        obtain ⟨envF, G, Vs, ex⟩ := awpD2_ext r ((s.op, AEnv.trim env s.uses, v) :: L) Ps K _ _ hr h.2
        have hW : isW s = false := by unfold isW; rw [hc]
        have hget : ∀ t, t ∈ s.uses → AEnv.get envF t = AEnv.get env t := fun t ht => by
          rw [ex.other t (huse t ht).2, get_envput_ne (huse t ht).1]
        have hn : ∀ l, nW (s :: l) = nW l := fun l => by simp [nW, hW]
        refine ⟨envF, G, v :: Vs, ex.start, by rw [hn]; exact ex.post, by simp [ex.lenV], fun t ht => ?_, fun i s' V' a1 a2 => ?_, fun p h1 h2 t ht => ex.lok p h1 (by rw [hn] at h2; exact h2) t (by simp [ht])⟩
        · obtain ⟨h1, h2⟩ := mem_dsts.1 ht
          rw [ex.other t h2, get_envput_ne h1]
        · cases i with
          | zero =>
            simp at a1 a2; subst a1; subst a2
            refine ⟨fun d e => by rw [ex.other d (hdst d e), e, get_envput_eq], hg, ?_⟩
            rw [hc, trim_congr _ hget]
            refine ⟨h.1, fun p hp => ?_⟩
            rw [hn] at hp
            cases p with
            | zero => rw [ex.start]; exact hv
            | succ p => exact ex.lok (p + 1) (by omega) hp (s.op, AEnv.trim env s.uses, v) (by simp)
          | succ i =>
            rw [List.take_succ_cons, hn, hn]
            exact ex.info i s' V' (by simpa using a1) (by simpa using a2)
      · exact h.elim
    · rename_i hg hc
      split at h
      · rename_i x H' hv
        obtain ⟨envF, G, Vs, ex⟩ := awpD2_ext r L (H :: Ps) K _ _ hr h.2
        have hW : isW s = true := by unfold isW; rw [hc]
        have hget : ∀ t, t ∈ s.uses → AEnv.get envF t = AEnv.get env t := fun t ht => by
          rw [ex.other t (huse t ht).2, get_envput_ne (huse t ht).1]
        have hn : ∀ l, nW (s :: l) = nW l + 1 := fun l => by simp [nW, hW]
        let G' : Nat → AHeap := fun p => match p with | 0 => H | p + 1 => G p
        refine ⟨envF, G', (x.getD (.tuple [])) :: Vs, rfl, by rw [hn]; exact ex.post, by simp [ex.lenV], fun t ht => ?_, fun i s' V' a1 a2 => ?_, fun p h1 h2 t ht => ?_⟩
        · obtain ⟨h1, h2⟩ := mem_dsts.1 ht
          rw [ex.other t h2, get_envput_ne h1]
        · cases i with
          | zero =>
            simp at a1 a2; subst a1; subst a2
            refine ⟨fun d e => by rw [ex.other d (hdst d e), e, get_envput_eq], hg, ?_⟩
            rw [hc, trim_congr _ hget]
            exact ⟨x, by show sstep s.op _ H = some (x, G 0); rw [ex.start]; exact hv, rfl⟩
          | succ i =>
            rw [List.take_succ_cons, hn, hn]
            obtain ⟨j1, j2, j3⟩ := ex.info i s' V' (by simpa using a1) (by simpa using a2)
            refine ⟨j1, j2, ?_⟩
            generalize hcl : cls s'.op = cl at j3 ⊢
            cases cl with
            | pure => exact j3
            | load =>
              refine ⟨fun Q hQ => j3.1 Q (by simp [hQ]), fun p hp => ?_⟩
              cases p with
              | zero => exact j3.1 H (by simp)
              | succ p => exact j3.2 p (by omega)
            | alloc => exact j3
            | call => exact j3
            | write => exact j3
        · cases p with
          | zero => omega
          | succ p =>
            rw [hn] at h2
            show qstep t.1 t.2.1 (G p) = _
            cases p with
            | zero => rw [ex.start]; exact h.1 t ht
            | succ p => exact ex.lok (p + 1) (by omega) (by omega) t ht
      · exact h.elim
    · exact h.elim
end Go.Awp
/- Regions that draw their order, part 3: whatever the order. Generic in the program. -/
namespace Go.Awp
set_option linter.unusedSectionVars false
variable [Fx]
def isAC (s : IStmt) : Bool := match cls s.op with | .alloc | .call => true | .load => !s.late | _ => false
theorem nW_succ {ss : List IStmt} {i : Nat} {s : IStmt} (h : ss[i]? = some s) : nW (ss.take (i + 1)) = nW (ss.take i) + (if isW s then 1 else 0) := by
  have hlt : i < ss.length := (List.getElem?_eq_some_iff.1 h).1
  have he : ss[i] = s := (List.getElem?_eq_some_iff.1 h).2
  rw [List.take_succ_eq_append_getElem hlt, he]
  unfold nW
  rw [List.filter_append, List.length_append]
  cases hw : isW s <;> simp [hw]
theorem nW_mono (ss : List IStmt) : ∀ (d i : Nat), nW (ss.take i) ≤ nW (ss.take (i + d))
  | 0, i => Nat.le_refl _
  | d + 1, i => by
    refine Nat.le_trans (nW_mono ss d i) ?_
    cases h : ss[i + d]? with
    | some s => rw [← Nat.add_assoc, nW_succ h]; omega
    | none =>
      have := List.getElem?_eq_none_iff.1 h
      rw [List.take_of_length_le this, List.take_of_length_le (by omega)]
      exact Nat.le_refl _
theorem nW_lt {ss : List IStmt} {j k : Nat} {s : IStmt} (hj : ss[j]? = some s) (hw : isW s = true) (h : j < k) : nW (ss.take j) < nW (ss.take k) := by
  have h1 := nW_succ hj
  rw [if_pos hw] at h1
  have h2 := nW_mono ss (k - (j + 1)) (j + 1)
  rw [show j + 1 + (k - (j + 1)) = k by omega] at h2
  omega
theorem nW_find {ss : List IStmt} : ∀ (k q : Nat), q < nW (ss.take k) → ∃ j s, j < k ∧ ss[j]? = some s ∧ isW s = true ∧ nW (ss.take j) = q
  | 0, q, h => by simp [nW] at h
  | k + 1, q, h => by
    cases hk : ss[k]? with
    | none =>
      have := List.getElem?_eq_none_iff.1 hk
      rw [List.take_of_length_le (by omega)] at h
      obtain ⟨j, s, h1, h2⟩ := nW_find (ss := ss) k q (by rw [List.take_of_length_le this]; exact h)
      exact ⟨j, s, by omega, h2⟩
    | some s =>
      rw [nW_succ hk] at h
      by_cases hq : q < nW (ss.take k)
      · obtain ⟨j, s', h1, h2⟩ := nW_find (ss := ss) k q hq
        exact ⟨j, s', by omega, h2⟩
      · split at h
        · rename_i hw
          exact ⟨k, s, by omega, hk, hw, by omega⟩
        · omega
/-- What the walk in the text's order has told of all statements of a body. -/
structure Plan (P : Program) (ss : List IStmt) (envS : AEnv) (H : AHeap) (envF : AEnv) (G : Nat → AHeap) (V : Nat → AV) (hd : Nat → Option Nat) : Prop where
  g0 : ∃ X, G 0 = H ++ X
  other : ∀ t, t ∉ dstsOf ss → AEnv.get envF t = AEnv.get envS t
  dst : ∀ (i : Nat) (s : IStmt) (d : Nat), ss[i]? = some s → s.dst = some d → AEnv.get envF d = some (V i)
  info : ∀ (i : Nat) (s : IStmt), ss[i]? = some s → (GOff s.guard envF ∧ V i = .tuple [] ∧ hd i = none ∧ isW s = false) ∨ (GOn s.guard envF ∧ match cls s.op with
    | .pure => hd i = none ∧ ∀ H, qstep s.op (AEnv.trim envF s.uses) H = some (.val (V i))
    | .load => hd i = none ∧ ∀ p, p ≤ nW ss → (s.late = true ∨ p = 0) → qstep s.op (AEnv.trim envF s.uses) (G p) = some (.val (V i))
    | .alloc => ∃ h, hd i = some h ∧ ((∃ e sz cells, qstep s.op (AEnv.trim envF s.uses) (G 0) = some (.box e sz cells) ∧ AHeap.obj (G 0) h = some ⟨e, sz, [cells]⟩ ∧ V i = .ptr h 1 0 0) ∨
        (∃ e sz els, qstep s.op (AEnv.trim envF s.uses) (G 0) = some (.arr e sz els) ∧ AHeap.obj (G 0) h = some ⟨e, sz, els⟩ ∧ V i = .own h els.length 0 els.length))
    | .call => (hd i = none ∧ ∃ f vs ys, target P s.op (AEnv.trim envF s.uses) = some (f, vs) ∧ FrzL (G 0) vs ys ∧ PCall P f ys (V i)) ∨
        (∃ h, hd i = some h ∧ ∃ f vs ys e sz els, target P s.op (AEnv.trim envF s.uses) = some (f, vs) ∧ FrzL (G 0) vs ys ∧ NCall P f ys e sz els ∧ AHeap.obj (G 0) h = some ⟨e, sz, els⟩ ∧ V i = .own h els.length 0 els.length)
    | .write => hd i = none ∧ ∃ x, sstep s.op (AEnv.trim envF s.uses) (G (nW (ss.take i))) = some (x, G (nW (ss.take i) + 1)) ∧ V i = x.getD (.tuple []))
  fresh : ∀ i h, hd i = some h → H.length ≤ h
  inj : ∀ i j h, i < ss.length → j < ss.length → hd i = some h → hd j = some h → i = j
/-- The static look at a body. -/
structure Body (P : Program) (n : Nat) (lt : List Nat) (ops : List Oper) (ss : List IStmt) : Prop where
  tr : ∀ (i : Nat) (s : IStmt), ss[i]? = some s → ∃ o, ops[i]? = some o ∧ trStmt P n (some lt) ops o = some s
  avail : ∀ (i : Nat) (s : IStmt), ss[i]? = some s → ∀ t, t ∈ slotsOf s → ∀ (j : Nat) (sj : IStmt), ss[j]? = some sj → sj.dst = some t → ∃ o, ops[i]? = some o ∧ ∃ e, e ∈ o.after ∧ Region.binds .any e = true ∧ e.on = j
  dinj : ∀ (i j : Nat) (si sj : IStmt) (d : Nat), ss[i]? = some si → ss[j]? = some sj → si.dst = some d → sj.dst = some d → i = j
  word : ∀ (k : Nat) (sk : IStmt), ss[k]? = some sk → isW sk = true → ∀ (j : Nat) (sj : IStmt), ss[j]? = some sj → (isAC sj = true ∨ isW sj = true ∧ j < k) → ∃ x, (ancs [] ops)[k]? = some x ∧ x.testBit j = true
/-- What holds in the midst of a body, some statements done. -/
structure Mid (P : Program) (n : Nat) (ss : List IStmt) (wS : World) (mS : AMap) (HS : AHeap) (B : Nat) (aS : Act) (envF : AEnv) (G : Nat → AHeap) (V : Nat → AV) (hd : Nat → Option Nat) (done : Nat → Prop) (a : Act) (w : World) (p : Nat) (m : AMap) : Prop where
  st : St w m (G p) B
  ad : Adv wS mS HS w m (G p)
  defers : a.defers = []
  size : a.tmps.size = n
  vals : ∀ (i : Nat) (s : IStmt) (d : Nat), ss[i]? = some s → done i → s.dst = some d → ∃ v, a.tmps[d]? = some v ∧ RV w m (G p) B (V i) v
  rest : ∀ t, (∀ (i : Nat) (s : IStmt), ss[i]? = some s → done i → s.dst ≠ some t) → a.tmps[t]? = aS.tmps[t]?
  free : ∀ i h, i < ss.length → ¬ done i → hd i = some h → m h = none ∧ m (.p h) = none
  phle : p ≤ nW ss
  ph : ∀ (k : Nat) (s : IStmt), ss[k]? = some s → isW s = true → (done k ↔ nW (ss.take k) < p)
  late : 0 < p → ∀ (i : Nat) (s : IStmt), ss[i]? = some s → isAC s = true → done i
section
variable {P : Program} {n : Nat} {lt : List Nat} {ops : List Oper} {ss : List IStmt} {wS : World} {mS : AMap} {HS : AHeap} {B : Nat} {aS : Act} {envS envF : AEnv} {G : Nat → AHeap} {V : Nat → AV} {hd : Nat → Option Nat} {done : Nat → Prop} {a : Act} {w : World} {p : Nat} {m : AMap}
theorem Mid.frame (pl : Plan P ss envS HS envF G V hd) (fr : FR n wS mS HS B envS aS) (md : Mid P n ss wS mS HS B aS envF G V hd done a w p m) {t : Nat} {x : AV} (hx : AEnv.get envF t = some x) (hav : ∀ (j : Nat) (sj : IStmt), ss[j]? = some sj → sj.dst = some t → done j) :
    ∃ v, a.tmps[t]? = some v ∧ RV w m (G p) B x v := by
  by_cases ht : t ∈ dstsOf ss
  · obtain ⟨s, hs, hd'⟩ := List.mem_filterMap.1 ht
    obtain ⟨j, hj⟩ := List.mem_iff_getElem?.1 hs
    obtain ⟨v, h1, h2⟩ := md.vals j s t hj (hav j s hj hd') hd'
    have := pl.dst j s t hj hd'
    rw [this] at hx; cases hx
    exact ⟨v, h1, h2⟩
  · rw [pl.other t ht] at hx
    obtain ⟨v, h1, h2⟩ := fr.slots t x hx
    refine ⟨v, ?_, h2.mono md.ad⟩
    rw [md.rest t (fun i s hi _ e => ht (List.mem_filterMap.2 ⟨s, List.mem_of_getElem? hi, e⟩))]
    exact h1
/-- A value has come to a slot; the objects have gone on. -/
theorem Mid.step (bd : Body P n lt ops ss) (md : Mid P n ss wS mS HS B aS envF G V hd done a w p m) {i : Nat} {s : IStmt} (hi : ss[i]? = some s) (hdn : ¬ done i) {w' : World} {m' : AMap} {p' : Nat} {v : Value} (st : St w' m' (G p') B) (ad : Adv w m (G p) w' m' (G p')) (rv : RV w' m' (G p') B (V i) v) (hdst : ∀ d, s.dst = some d → d < n)
    (hfree : ∀ j h, j < ss.length → ¬ done j → j ≠ i → hd j = some h → m' h = none ∧ m' (.p h) = none) (hple : p' ≤ nW ss) (hph : ∀ (k : Nat) (sk : IStmt), ss[k]? = some sk → isW sk = true → ((done k ∨ k = i) ↔ nW (ss.take k) < p')) (hlate : 0 < p' → ∀ (j : Nat) (sj : IStmt), ss[j]? = some sj → isAC sj = true → done j ∨ j = i) :
    Mid P n ss wS mS HS B aS envF G V hd (fun j => done j ∨ j = i) (a.put s.dst v) w' p' m' := by
  have hput : ∀ t, s.dst ≠ some t → (a.put s.dst v).tmps[t]? = a.tmps[t]? := by
    intro t ht
    cases hd' : s.dst with
    | none => rfl
    | some d =>
      have : d ≠ t := fun e => ht (by rw [hd', e])
      simp [Act.put, this]
  refine ⟨st, md.ad.trans ad, ?_, ?_, fun j sj d hj hdj hd' => ?_, fun t ht => ?_, fun j h hj hnd hh => hfree j h hj (fun e => hnd (.inl e)) (fun e => hnd (.inr e)) hh, hple, hph, hlate⟩
  · cases s.dst <;> exact md.defers
  · cases s.dst with
    | none => exact md.size
    | some d => simp [Act.put, md.size]
  · by_cases hji : j = i
    · subst hji
      rw [hi] at hj; cases hj
      rw [hd']
      exact ⟨v, by simp [Act.put, md.size, hdst d hd'], rv⟩
    · have hdone : done j := by
        rcases hdj with h | h
        · exact h
        · exact absurd h hji
      obtain ⟨u, h1, h2⟩ := md.vals j sj d hj hdone hd'
      refine ⟨u, ?_, h2.mono ad⟩
      rw [hput d (fun e => hji (bd.dinj j i sj s d hj hi hd' e))]
      exact h1
  · rw [hput t (ht i s hi (.inr rfl))]
    exact md.rest t fun j sj hj hdj => ht j sj hj (.inl hdj)
theorem wanted_on {s : IStmt} {o : Oper} {env : AEnv} (htr : trStmt P n (some lt) ops o = some s) (hg : GOn s.guard env) (hs : ∀ t x, t ∈ slotsOf s → AEnv.get env t = some x → ∃ v, a.tmps[t]? = some v ∧ RV w m (G p) B x v) : Region.wanted o (yielded ops.toArray a.tmps) = true := by
  unfold trStmt at htr
  split at htr
  · split at htr
    · rename_i h; simp [Region.wanted, h]
    · rename_i j want hgo
      split at htr
      · rename_i g hj
        cases htr
        have h1 := hg g want rfl
        obtain ⟨v, h2, h3⟩ := hs g _ (by simp [slotsOf]) h1
        cases h3
        simp only [Region.wanted, hgo, yielded_eq hj, h2]
        simp
      · cases htr
  · cases htr
theorem wanted_off {s : IStmt} {o : Oper} {env : AEnv} (htr : trStmt P n (some lt) ops o = some s) (hg : GOff s.guard env) (hs : ∀ t x, t ∈ slotsOf s → AEnv.get env t = some x → ∃ v, a.tmps[t]? = some v ∧ RV w m (G p) B x v) : Region.wanted o (yielded ops.toArray a.tmps) = false := by
  obtain ⟨g, want, hsg, hh⟩ := hg
  unfold trStmt at htr
  split at htr
  · split at htr
    · cases htr; cases hsg
    · rename_i j want' hgo
      split at htr
      · rename_i g' hj
        cases htr
        simp only [Option.some.injEq, Prod.mk.injEq] at hsg
        obtain ⟨rfl, rfl⟩ := hsg
        rcases hh with h1 | h1
        · obtain ⟨v, h2, h3⟩ := hs g' _ (by simp [slotsOf]) h1
          cases h3
          simp only [Region.wanted, hgo, yielded_eq hj, h2]
          cases want' <;> rfl
        · obtain ⟨v, h2, h3⟩ := hs g' _ (by simp [slotsOf]) h1
          cases h3
          simp only [Region.wanted, hgo, yielded_eq hj, h2]
          rfl
      · cases htr
  · cases htr
theorem trStmt_op {s : IStmt} {o : Oper} (htr : trStmt P n (some lt) ops o = some s) : trOp P o = some s.op ∧ s.dst = o.dst ∧ ∀ d, s.dst = some d → d < n := by
  unfold trStmt at htr
  split at htr
  · rename_i io hio hd
    have hdd : ∀ d, o.dst = some d → d < n := by
      intro d e
      rw [e] at hd
      simpa using hd
    split at htr
    · cases htr; exact ⟨hio, rfl, hdd⟩
    · split at htr
      · cases htr; exact ⟨hio, rfl, hdd⟩
      · cases htr
  · cases htr
theorem get_trim {env : AEnv} {t : Nat} {x : AV} : ∀ (k : List Nat), AEnv.get (AEnv.trim env k) t = some x → t ∈ k ∧ AEnv.get env t = some x
  | [], h => by cases h
  | s :: k, h => by
    simp only [AEnv.trim] at h
    split at h
    · rename_i y hy
      simp only [AEnv.get] at h
      by_cases hst : s = t
      · rw [if_pos hst] at h
        exact ⟨by simp [hst], by rw [← h, ← hst]; exact hy⟩
      · rw [if_neg hst] at h
        obtain ⟨h1, h2⟩ := get_trim k h
        exact ⟨by simp [h1], h2⟩
    · obtain ⟨h1, h2⟩ := get_trim k h
      exact ⟨by simp [h1], h2⟩
theorem target_run {o : Oper} {io : IOp} (htr : trOp P o = some io) {env : AEnv} {H : AHeap} {f : FuncId} {vs : List AV} (ht : target P io env = some (f, vs)) (fr : FR n w m H B env a) (hc : callable P f = true) : ∃ as, (execOp a.eval o).run P w = .ok (.enter f as) w ∧ Args w m H B vs as := by
  unfold target at ht
  split at ht
  · rename_i f' args
    split at ht
    · rename_i us hus
      cases ht
      obtain ⟨as, ts, ho, rfl⟩ := trOp_call htr
      obtain ⟨p1, p2⟩ := evs_sound fr _ _ hus
      exact ⟨as.map a.eval, by simp [execOp, ho, resolve, Act.eval, Deferred.ofValue, invoke, run_callFunc_ok hc], by simpa using p1, fun i x v a b => p2 i x v a (by simpa using b)⟩
    · cases ht
  · rename_i x args
    split at ht
    · rename_i f' first caps us hx hus
      cases ht
      obtain ⟨as, ts, ho, rfl⟩ := trOp_callv htr
      obtain ⟨p1, p2⟩ := evs_sound fr _ _ hus
      have hxv := ev_sound fr hx
      generalize he : a.eval x = u at hxv
      cases hxv with
      | func _ _ _ f' c' hf hcl h1 h2 =>
        refine ⟨f' ++ as.map a.eval ++ c', by simp [execOp, ho, resolve, he, Deferred.ofValue, invoke, run_callFunc_ok hc], by simp [hf, hcl, p1], fun i x v e1 e2 => ?_⟩
        have e2' : (f'.toList ++ as.toList.map a.eval ++ c'.toList)[i]? = some v := by
          have : (f' ++ as.map a.eval ++ c').toList[i]? = some v := by rw [Array.getElem?_toList]; exact e2
          rwa [Array.toList_append, Array.toList_append, Array.toList_map] at this
        have hpl : us.length = (as.toList.map a.eval).length := by simpa using p1
        have hfl : first.length = f'.toList.length := by simpa using hf
        rcases Nat.lt_or_ge i first.length with hi | hi
        · rw [List.append_assoc, List.getElem?_append_left hi] at e1
          rw [List.append_assoc, List.getElem?_append_left (by omega)] at e2'
          exact h1 i x v e1 (by simpa using e2')
        · rw [List.append_assoc, List.getElem?_append_right hi] at e1
          rw [List.append_assoc, List.getElem?_append_right (by omega)] at e2'
          rw [← hfl] at e2'
          rcases Nat.lt_or_ge (i - first.length) us.length with hj | hj
          · rw [List.getElem?_append_left hj] at e1
            rw [List.getElem?_append_left (by omega)] at e2'
            exact p2 _ x v e1 e2'
          · rw [List.getElem?_append_right hj] at e1
            rw [List.getElem?_append_right (by omega), ← hpl] at e2'
            exact h2 _ x v e1 (by simpa using e2')
    · cases ht
  · rename_i x name args
    split at ht
    · rename_i t v us hx hus
      split at ht
      · rename_i f' hmt
        cases ht
        obtain ⟨as, ts, ho, rfl⟩ := trOp_invoke htr
        obtain ⟨p1, p2⟩ := evs_sound fr _ _ hus
        have hxv := ev_sound fr hx
        generalize he : a.eval x = u at hxv
        cases hxv with
        | iface _ _ v' hv' =>
          refine ⟨#[v'] ++ as.map a.eval, ?_, by simp [p1, Nat.add_comm], fun i x v e1 e2 => ?_⟩
          · have hd : P.types.size + Made.depth = (P.types.size + Made.depth - 1) + 1 := by simp [Made.depth]
            simp only [execOp, ho, resolve, Sem.run_bind, Sem.run_pure, Result.andThen_ok, he, invoke]
            have hz : (#[Value.iface t v'] ++ Array.map a.eval as)[0]? = some (Value.iface t v') := by rw [Array.getElem?_append_left (show 0 < 1 from Nat.zero_lt_one)]; rfl
            have hxs : (#[Value.iface t v'] ++ Array.map a.eval as).extract 1 (#[Value.iface t v'] ++ Array.map a.eval as).size = Array.map a.eval as := by simp
            rw [hz]
            simp only [hxs, callMethod, Sem.run_bind, run_program, Result.andThen_ok]
            rw [hd, amethod_run hmt]
            simp only [Result.andThen_ok]
            exact run_callFunc_ok hc _ _
          · cases i with
            | zero =>
              have e3 : (#[v'] ++ Array.map a.eval as)[0]? = some v' := by rw [Array.getElem?_append_left (show 0 < 1 from Nat.zero_lt_one)]; rfl
              rw [e3] at e2
              cases e1; cases e2; exact hv'
            | succ i =>
              simp only [List.getElem?_cons_succ] at e1
              rw [Array.getElem?_append_right (by simp)] at e2
              exact p2 i x v e1 (by simpa using e2)
      · cases ht
    · cases ht
  · cases ht
/-- One statement that is ready, whichever. -/
theorem Mid.go (bd : Body P n lt ops ss) (pl : Plan P ss envS HS envF G V hd) (fr : FR n wS mS HS B envS aS) (md : Mid P n ss wS mS HS B aS envF G V hd done a w p m) {i : Nat} {s : IStmt} {o : Oper} (hi : ss[i]? = some s) (ho : ops[i]? = some o) (htr : trStmt P n (some lt) ops o = some s) (hdn : ¬ done i)
    (hready : ∀ e, e ∈ o.after → Region.binds .any e = true → done e.on) (hanc : ∀ x, (ancs [] ops)[i]? = some x → ∀ j, x.testBit j = true → done j) {K : Act → World → Prop} {Q : Exit → Act → World → Prop}
    (hK : ∀ v w' p' m', Mid P n ss wS mS HS B aS envF G V hd (fun j => done j ∨ j = i) (a.put o.dst v) w' p' m' → K (a.put o.dst v) w') : wpOp P ops.toArray Q i K a w := by
  obtain ⟨hio, hdo, hdlt⟩ := trStmt_op htr
  have slots : ∀ t x, t ∈ slotsOf s → AEnv.get envF t = some x → ∃ v, a.tmps[t]? = some v ∧ RV w m (G p) B x v := by
    intro t x ht hx
    refine md.frame pl fr hx fun j sj hj hdj => ?_
    obtain ⟨o', ho', e, he, hb, hon⟩ := bd.avail i s hi t ht j sj hj hdj
    rw [ho] at ho'; cases ho'
    rw [← hon]; exact hready e he hb
  have frt : FR n w m (G p) B (AEnv.trim envF s.uses) a := ⟨md.defers, md.size, fun t x e => by
    obtain ⟨h1, h2⟩ := get_trim _ e
    exact slots t x (by simp [slotsOf, h1]) h2⟩
  have sameph : isW s = false → ∀ k sk, ss[k]? = some sk → isW sk = true → ((done k ∨ k = i) ↔ nW (ss.take k) < p) := by
    intro hw k sk hk hsk
    have hki : k ≠ i := by
      intro e; subst e; rw [hi] at hk; cases hk; rw [hw] at hsk; cases hsk
    rw [← md.ph k sk hk hsk]
    exact ⟨fun h => h.resolve_right hki, .inl⟩
  have free0 : ∀ j h, j < ss.length → ¬ done j → j ≠ i → hd j = some h → m h = none ∧ m (.p h) = none := fun j h hj hnd _ hh => md.free j h hj hnd hh
  have late0 : 0 < p → ∀ j sj, ss[j]? = some sj → isAC sj = true → done j ∨ j = i := fun hp j sj hj hac => .inl (md.late hp j sj hj hac)
  unfold wpOp
  have hoa : ops.toArray[i]? = some o := by simpa using ho
  simp only [hoa]
  rcases pl.info i s hi with ⟨hg, hV, hh, hw⟩ | ⟨hg, hinfo⟩
  · rw [if_neg (by rw [wanted_off htr hg slots]; simp)]
    refine hK undef w p m ?_
    rw [← hdo]
    exact md.step bd hi hdn md.st (Adv.refl _ _ _) (by rw [hV]; exact .tuple [] #[] rfl (by simp)) hdlt free0 md.phle (sameph hw) late0
  · rw [if_pos (wanted_on htr hg slots)]
    refine .inl ?_
    -- values without a new object
    have valstep : isW s = false → qstep s.op (AEnv.trim envF s.uses) (G p) = some (.val (V i)) → o.wp P a w K Q := by
      intro hw hq
      obtain ⟨v, h1, h2⟩ := qstep_sound hio md.st frt hq
      unfold Oper.wp
      rw [h1, Oper.upon_value]
      refine hK v w p m ?_
      rw [← hdo]
      exact md.step bd hi hdn md.st (Adv.refl _ _ _) h2 hdlt free0 md.phle (sameph hw) late0
    cases hc : cls s.op with
    | pure =>
      rw [hc] at hinfo
      exact valstep (by simp [isW, hc]) (hinfo.2 _)
    | load =>
      rw [hc] at hinfo
      refine valstep (by simp [isW, hc]) (hinfo.2 p md.phle ?_)
      cases hl : s.late with
      | true => exact .inl rfl
      | false =>
        refine .inr ?_
        rcases Nat.eq_zero_or_pos p with h | h
        · exact h
        · exact absurd (md.late h i s hi (by simp [isAC, hc, hl])) hdn
    | alloc =>
      rw [hc] at hinfo
      have hw : isW s = false := by simp [isW, hc]
      have hp0 : p = 0 := by
        rcases Nat.eq_zero_or_pos p with h | h
        · exact h
        · exact absurd (md.late h i s hi (by simp [isAC, hc])) hdn
      subst hp0
      obtain ⟨h, hh, hcase⟩ := hinfo
      have hm : m h = none ∧ m (.p h) = none := md.free i h (List.getElem?_eq_some_iff.1 hi).1 hdn hh
      have free1 : ∀ j h', j < ss.length → ¬ done j → j ≠ i → hd j = some h' → AMap.upd m h w.heap.size h' = none ∧ AMap.upd m h w.heap.size (.p h') = none := by
        intro j h' hj hnd hji hh'
        have hne : h' ≠ h := by
          intro e; subst e
          exact hji (pl.inj j i h' hj (List.getElem?_eq_some_iff.1 hi).1 hh' hh)
        exact ⟨by simp [AMap.upd, hne, (md.free j h' hj hnd hh').1], by rw [AMap.upd_p]; exact (md.free j h' hj hnd hh').2⟩
      rcases hcase with ⟨e, sz, cells, hq, hob, hV⟩ | ⟨e, sz, els, hq, hob, hV⟩
      · obtain ⟨hl, vs, h1, h2, h3⟩ := qstep_sound hio md.st frt hq
        obtain ⟨q1, q2, q3⟩ := box_ok md.st hob hm hl (vs := vs) h3
        unfold Oper.wp
        rw [h1, Oper.upon_value]
        refine hK _ _ 0 (AMap.upd m h w.heap.size) ?_
        rw [← hdo]
        exact md.step bd hi hdn q1 q2 (by rw [hV]; exact q3) hdlt free1 md.phle (sameph hw) late0
      · obtain ⟨hu, vs, cap, h1, h2, h3, h4, h5⟩ := qstep_sound hio md.st frt hq
        obtain ⟨q1, q2, q3⟩ := arr_ok md.st hob hm hu (w1 := w) rfl rfl rfl rfl h2 h3 h4 h5
        unfold Oper.wp
        rw [h1, Oper.upon_value]
        refine hK _ _ 0 (AMap.upd m h w.heap.size) ?_
        rw [← hdo]
        exact md.step bd hi hdn q1 q2 (by rw [hV]; exact q3) hdlt free1 md.phle (sameph hw) late0
    | call =>
      rw [hc] at hinfo
      have hw : isW s = false := by simp [isW, hc]
      have hp0 : p = 0 := by
        rcases Nat.eq_zero_or_pos p with h | h
        · exact h
        · exact absurd (md.late h i s hi (by simp [isAC, hc])) hdn
      subst hp0
      rcases hinfo with ⟨_, f, vs, ys, ht, hf, hp⟩ | ⟨h, hh, f, vs, ys, e, sz, els, ht, hf, hp, hob, hV⟩
      · obtain ⟨as, hrun, hargs⟩ := target_run (w := w) hio ht frt hp.1
        refine upon_calls (hp.2 w as (md.st.fx.keep md.st.base fun _ _ => rfl) (hf.args md.st hargs)) (fun e w' ⟨v, he, hb, hr⟩ => ⟨v, he, ?_⟩) hrun
        obtain ⟨q1, q2⟩ := below_adv md.st hb
        refine hK v w' 0 m ?_
        rw [← hdo]
        exact md.step bd hi hdn q1 q2 (hr m (G 0) B md.st.base (fun k b e => (md.st.mb k b e).2)) hdlt free0 md.phle (sameph hw) late0
      · obtain ⟨as, hrun, hargs⟩ := target_run (w := w) hio ht frt hp.1
        have hm : m h = none ∧ m (.p h) = none := md.free i h (List.getElem?_eq_some_iff.1 hi).1 hdn hh
        refine upon_calls (hp.2.2 w as (md.st.fx.keep md.st.base fun _ _ => rfl) (hf.args md.st hargs)) (fun en w' ⟨b, cap, us, he, hb, h1, h2, h3, h4, h5, h6, hcc⟩ => ⟨_, he, ?_⟩) hrun
        obtain ⟨q1, q2⟩ := adopt_call md.st hb hob hm h1 h2 h3 hp.2.1 hcc
        refine hK _ w' 0 (AMap.upd m h b) ?_
        rw [← hdo]
        refine md.step bd hi hdn q1 q2 (by rw [hV]; exact adopt_own hob h3 h4 h5 h6) hdlt (fun j h' hj hnd hji hh' => ?_) md.phle (sameph hw) late0
        have hne : h' ≠ h := by
          intro e; subst e
          exact hji (pl.inj j i h' hj (List.getElem?_eq_some_iff.1 hi).1 hh' hh)
        exact ⟨by simp [AMap.upd, hne, (md.free j h' hj hnd hh').1], by rw [AMap.upd_p]; exact (md.free j h' hj hnd hh').2⟩
    | write =>
      rw [hc] at hinfo
      have hw : isW s = true := by simp [isW, hc]
      obtain ⟨hh, x, hs, hV⟩ := hinfo
      have hanc' : ∀ j sj, ss[j]? = some sj → (isAC sj = true ∨ isW sj = true ∧ j < i) → done j := by
        intro j sj hj hcase
        obtain ⟨x, h1, h2⟩ := bd.word i s hi hw j sj hj hcase
        exact hanc x h1 j h2
      have hpi : p = nW (ss.take i) := by
        have h1 : ¬ nW (ss.take i) < p := fun h => hdn ((md.ph i s hi hw).2 h)
        rcases Nat.lt_or_ge p (nW (ss.take i)) with h | h
        · obtain ⟨j, sj, h2, h3, h4, h5⟩ := nW_find i p h
          have := (md.ph j sj h3 h4).1 (hanc' j sj h3 (.inr ⟨h4, h2⟩))
          omega
        · omega
      subst hpi
      obtain ⟨w', m', p1, p2, p3⟩ := sstep_sound hio md.st frt hs
      have fin : ∀ v, RV w' m' (G (nW (ss.take i) + 1)) B (V i) v → K (a.put o.dst v) w' := by
        intro v hv
        refine hK v w' (nW (ss.take i) + 1) m' ?_
        rw [← hdo]
        refine md.step bd hi hdn p1 p2 hv hdlt (fun j h' hj hnd hji hh' => ?_) ?_ (fun k sk hk hsk => ?_) (fun _ j sj hj hac => .inl (hanc' j sj hj (.inl hac)))
        · exfalso
          have hsj : ss[j]? = some ss[j] := List.getElem?_eq_getElem hj
          refine hnd (hanc' j _ hsj (.inl ?_))
          rcases pl.info j _ hsj with ⟨_, _, h, _⟩ | ⟨_, hinf⟩
          · rw [hh'] at h; cases h
          · unfold isAC
            cases hcj : cls ss[j].op <;> rw [hcj] at hinf
            all_goals (first | rfl | (rw [hh'] at hinf; exact absurd hinf.1 (by simp)))
        · have := nW_lt hi hw (show i < i + 1 by omega)
          have h2 := nW_mono ss (ss.length - (i + 1)) (i + 1)
          rw [show i + 1 + (ss.length - (i + 1)) = ss.length by have := (List.getElem?_eq_some_iff.1 hi).1; omega, List.take_length] at h2
          omega
        · by_cases hki : k = i
          · subst hki; exact ⟨fun _ => Nat.lt_succ_self _, fun _ => .inr rfl⟩
          · have hne : nW (ss.take k) ≠ nW (ss.take i) := by
              rcases Nat.lt_or_gt_of_ne hki with h | h
              · have := nW_lt hk hsk h; omega
              · have := nW_lt hi hw h; omega
            have := md.ph k sk hk hsk
            constructor
            · intro h
              have := this.1 (h.resolve_right hki); omega
            · intro h
              exact .inl (this.2 (by omega))
      cases x with
      | some x =>
        obtain ⟨v, h1, h2⟩ := p3
        unfold Oper.wp
        rw [h1, Oper.upon_value]
        exact fin v (by rw [hV]; exact h2)
      | none =>
        unfold Oper.wp
        rw [p3, Oper.upon_skip]
        exact fin undef (by rw [hV]; exact .tuple [] #[] rfl (by simp))
end
end Go.Awp
/- Regions that draw their order, part 4: the whole region. Generic in the program. -/
namespace Go.Awp
set_option linter.unusedSectionVars false
variable [Fx]
theorem nW_append (x y : List IStmt) : nW (x ++ y) = nW x + nW y := by simp [nW]
theorem ssa_append : ∀ (x y : List IStmt), ssa (x ++ y) = true → ssa x = true ∧ ssa y = true ∧ (∀ s, s ∈ x → ∀ t, t ∈ slotsOf s → t ∉ dstsOf y) ∧ (∀ d, d ∈ dstsOf x → d ∉ dstsOf y)
  | [], y, h => ⟨rfl, h, by simp, by simp [dstsOf]⟩
  | s :: x, y, h => by
    simp only [List.cons_append, ssa, Bool.and_eq_true] at h ⊢
    obtain ⟨⟨h1, h2⟩, h3⟩ := h
    obtain ⟨p1, p2, p3, p4⟩ := ssa_append x y h3
    have hds : dstsOf (x ++ y) = dstsOf x ++ dstsOf y := by simp [dstsOf]
    have h1' : ∀ t, t ∈ slotsOf s → s.dst ≠ some t ∧ t ∉ dstsOf x ∧ t ∉ dstsOf y := fun t ht => by
      have := List.all_eq_true.1 h1 t ht
      rw [hds] at this
      simpa using this
    have h2' : ∀ d, s.dst = some d → d ∉ dstsOf x ∧ d ∉ dstsOf y := fun d e => by
      rw [e] at h2
      simp only [hds] at h2
      simpa using h2
    refine ⟨⟨⟨List.all_eq_true.2 fun t ht => ?_, ?_⟩, p1⟩, p2, fun s' hs' t ht => ?_, fun d hd => ?_⟩
    · have := h1' t ht
      simp [this.1, this.2.1]
    · cases hd : s.dst with
      | none => rfl
      | some d => simp [(h2' d hd).1]
    · rcases List.mem_cons.1 hs' with rfl | hs'
      · exact (h1' t ht).2.2
      · exact p3 s' hs' t ht
    · cases hsd : s.dst with
      | none =>
        have : dstsOf (s :: x) = dstsOf x := by simp [dstsOf, hsd]
        rw [this] at hd; exact p4 d hd
      | some d' =>
        have : dstsOf (s :: x) = d' :: dstsOf x := by simp [dstsOf, hsd]
        rw [this] at hd
        rcases List.mem_cons.1 hd with rfl | hd
        · exact (h2' d hsd).2
        · exact p4 d hd
theorem plan_of {P : Program} {pre post : List IStmt} {env : AEnv} {H : AHeap} {K : AEnv → AHeap → Prop} (hssa : ssa (pre ++ post) = true) (hpre : ∀ s, s ∈ pre → isW s = false) (h : awpD1 P pre [] (fun L env H => awpD2 post L [] K env H) env H) :
    ∃ envF G V hd, Plan P (pre ++ post) env H envF G V hd ∧ K envF (G (nW (pre ++ post))) := by
  obtain ⟨a1, a2, a3, a4⟩ := ssa_append pre post hssa
  obtain ⟨L', env1, X, Vs1, hs, e1⟩ := awpD1_ext pre _ _ _ _ a1 h
  obtain ⟨envF, G, Vs2, e2⟩ := awpD2_ext post _ _ _ _ _ a2 e1.post
  have hn0 : nW pre = 0 := by
    unfold nW
    rw [List.filter_eq_nil_iff.2 (fun s hs => by simp [hpre s hs])]; rfl
  have hn : nW (pre ++ post) = nW post := by rw [nW_append, hn0, Nat.zero_add]
  refine ⟨envF, G, fun i => ((Vs1 ++ Vs2)[i]?).getD (.tuple []), fun i => ((hs[i]?).getD none), ⟨⟨X, e2.start⟩, fun t ht => ?_, fun i s d hi hd => ?_, fun i s hi => ?_, fun i h hh => ?_, fun i j h hi hj h1 h2 => ?_⟩, by rw [hn]; exact e2.post⟩
  · have : dstsOf (pre ++ post) = dstsOf pre ++ dstsOf post := by simp [dstsOf]
    rw [this] at ht
    simp only [List.mem_append, not_or] at ht
    rw [e2.other t ht.2, e1.other t ht.1]
  · rcases Nat.lt_or_ge i pre.length with hl | hl
    · rw [List.getElem?_append_left hl] at hi
      have h1 : Vs1[i]? = some (Vs1[i]'(by rw [e1.lenV]; exact hl)) := List.getElem?_eq_getElem _
      have h2 : hs[i]? = some (hs[i]'(by rw [e1.lenh]; exact hl)) := List.getElem?_eq_getElem _
      have := (e1.info i s _ _ hi h1 h2).1 d hd
      rw [List.getElem?_append_left (by rw [e1.lenV]; exact hl), h1]
      rw [e2.other d (a4 d (List.mem_filterMap.2 ⟨s, List.mem_of_getElem? hi, hd⟩))]
      exact this
    · rw [List.getElem?_append_right hl] at hi
      have hlt := (List.getElem?_eq_some_iff.1 hi).1
      have h1 : Vs2[i - pre.length]? = some (Vs2[i - pre.length]'(by rw [e2.lenV]; exact hlt)) := List.getElem?_eq_getElem _
      have := (e2.info _ s _ hi h1).1 d hd
      rw [List.getElem?_append_right (by rw [e1.lenV]; exact hl), e1.lenV, h1]
      exact this
  · rcases Nat.lt_or_ge i pre.length with hl | hl
    · rw [List.getElem?_append_left hl] at hi
      have h1 : Vs1[i]? = some (Vs1[i]'(by rw [e1.lenV]; exact hl)) := List.getElem?_eq_getElem _
      have h2 : hs[i]? = some (hs[i]'(by rw [e1.lenh]; exact hl)) := List.getElem?_eq_getElem _
      have hinf := ((e1.info i s _ _ hi h1 h2).2).congr (e' := envF) (fun t ht => e2.other t (a3 s (List.mem_of_getElem? hi) t ht))
      have hV : ((Vs1 ++ Vs2)[i]?).getD (.tuple []) = Vs1[i]'(by rw [e1.lenV]; exact hl) := by
        rw [List.getElem?_append_left (by rw [e1.lenV]; exact hl), h1]; rfl
      have hH : ((hs[i]?).getD none) = hs[i]'(by rw [e1.lenh]; exact hl) := by rw [h2]; rfl
      simp only [hV, hH]
      rcases hinf with ⟨g1, g2, g3⟩ | ⟨g1, g2⟩
      · exact .inl ⟨g1, g2, g3, hpre s (List.mem_of_getElem? hi)⟩
      · refine .inr ⟨g1, ?_⟩
        cases hc : cls s.op <;> rw [hc] at g2
        · exact g2
        · refine ⟨g2.1, fun p hp hor => ?_⟩
          rcases Nat.eq_zero_or_pos p with h0 | h0
          · subst h0; rw [e2.start]; exact g2.2.1
          · exact e2.lok p h0 (by rw [hn] at hp; exact hp) _ (g2.2.2 (hor.resolve_right (by omega)))
        · rw [e2.start]; exact g2
        · rw [e2.start]; exact g2
        · exact g2.elim
    · rw [List.getElem?_append_right hl] at hi
      have hlt := (List.getElem?_eq_some_iff.1 hi).1
      have h1 : Vs2[i - pre.length]? = some (Vs2[i - pre.length]'(by rw [e2.lenV]; exact hlt)) := List.getElem?_eq_getElem _
      obtain ⟨_, hg, hinf⟩ := e2.info _ s _ hi h1
      have hV : ((Vs1 ++ Vs2)[i]?).getD (.tuple []) = Vs2[i - pre.length]'(by rw [e2.lenV]; exact hlt) := by
        rw [List.getElem?_append_right (by rw [e1.lenV]; exact hl), e1.lenV, h1]; rfl
      have hH : ((hs[i]?).getD none) = none := by rw [List.getElem?_eq_none (by rw [e1.lenh]; exact hl)]; rfl
      have hph : nW ((pre ++ post).take i) = nW (post.take (i - pre.length)) := by
        rw [List.take_append, List.take_of_length_le hl, nW_append, hn0, Nat.zero_add]
      simp only [hV, hH]
      refine .inr ⟨(fun q want e => by rw [hg] at e; cases e), ?_⟩
      cases hc : cls s.op <;> rw [hc] at hinf
      · exact ⟨trivial, hinf⟩
      · exact ⟨trivial, fun p hp _ => hinf.2 p (by rw [hn] at hp; exact hp)⟩
      · exact hinf.elim
      · exact hinf.elim
      · rw [hph]; exact ⟨trivial, hinf⟩
  · cases hx : hs[i]? with
    | none => rw [hx] at hh; cases hh
    | some y =>
      rw [hx] at hh
      simp only [Option.getD_some] at hh
      subst hh
      exact e1.fresh i h hx
  · have e : ∀ (k : Nat), ((hs[k]?).getD none) = some h → hs[k]? = some (some h) := by
      intro k hk
      cases hx : hs[k]? with
      | none => rw [hx] at hk; cases hk
      | some y => rw [hx] at hk; simp only [Option.getD_some] at hk; rw [hk]
    exact e1.inj i j h (e i h1) (e j h2)
/-- The order of the tail, all of the body done. -/
def doneArr (n k : Nat) : Array Bool := ((List.range n).map fun i => decide (i < k)).toArray
/-- The static look at a region that draws: its first so many operations in any order, the others behind them. -/
def drawChk (ops : List Oper) (ss : List IStmt) (k : Nat) (np : Nat) : Bool :=
  decide (k < ops.length) && Region.sinkB .any ops.toArray k && Region.chainB .any ops.toArray k && Region.seqB .any ops.toArray (ops.length - k) k (doneArr ops.length k) &&
  ssa ss && decide (np ≤ ss.length) && ((ss.take np).all fun s => !isW s) && ((ss.drop np).all fun s => !isAC s) &&
  ((List.range k).all fun i => ((ops[i]?).map fun o => o.after.all fun e => !Region.binds .any e || decide (e.on < i)).getD false) &&
  ((List.range k).all fun i => ((List.range k).all fun j => match ops[i]?, ss[i]?, ss[j]? with
    | some o, some s, some sj => (match sj.dst with
      | some t => !(slotsOf s).contains t || o.after.any fun e => Region.binds .any e && e.on == j
      | none => true)
    | _, _, _ => false)) &&
  ((List.range k).all fun i => match ss[i]? with
    | some s => !isW s || ((List.range k).all fun j => match ss[j]?, (ancs [] ops)[i]? with
      | some sj, some x => !(isAC sj || isW sj && decide (j < i)) || x.testBit j
      | _, _ => false)
    | none => false)
theorem countP_upd {p q : Nat → Bool} {i : Nat} : ∀ (l : List Nat), l.Nodup → i ∈ l → p i = true → q i = false → (∀ j, j ≠ i → q j = p j) → l.countP p = l.countP q + 1
  | [], _, h, _, _, _ => by simp at h
  | x :: l, hn, h, hp, hq, he => by
    rw [List.nodup_cons] at hn
    by_cases hx : x = i
    · subst hx
      have : l.countP p = l.countP q := by
        apply List.countP_congr
        intro j hj
        rw [he j (fun e => hn.1 (by rw [← e]; exact hj))]
      rw [List.countP_cons_of_pos hp, List.countP_cons_of_neg (by simp [hq]), this]
    · have hi : i ∈ l := by
        rcases List.mem_cons.1 h with e | e
        · exact absurd e.symm hx
        · exact e
      have ih := countP_upd l hn.2 hi hp hq he
      rw [List.countP_cons, List.countP_cons, he x hx, ih]; omega
section
variable {P : Program} {n : Nat} {lt : List Nat} {ops : List Oper} {ss : List IStmt}
theorem trStmts_get {u : Option (List Nat)} : ∀ (l : List Oper) (ss : List IStmt), trStmts P n u ops l = some ss → ss.length = l.length ∧ ∀ (i : Nat) (s : IStmt), ss[i]? = some s → ∃ o, l[i]? = some o ∧ trStmt P n u ops o = some s
  | [], ss, h => by cases h; exact ⟨rfl, by simp⟩
  | o :: l, ss, h => by
    simp only [trStmts] at h
    split at h
    · rename_i s r hs hr
      cases h
      obtain ⟨q1, q2⟩ := trStmts_get l r hr
      refine ⟨by simp [q1], fun i s' e => ?_⟩
      cases i with
      | zero => simp at e; subst e; exact ⟨o, rfl, hs⟩
      | succ i => exact q2 i s' (by simpa using e)
    · cases h
theorem body_of {k np : Nat} (hk : k ≤ ops.length) (htr : trStmts P n (some lt) ops (ops.take k) = some ss) (h : drawChk ops ss k np = true) : Body P n lt ops ss ∧ (∀ i o, i < k → ops[i]? = some o → ∀ e, e ∈ o.after → Region.binds .any e = true → e.on < i) := by
  obtain ⟨hl, hg⟩ := trStmts_get _ _ htr
  have hlen : ss.length = k := by rw [hl, List.length_take]; omega
  simp only [drawChk, Bool.and_eq_true] at h
  obtain ⟨⟨⟨⟨⟨⟨⟨⟨⟨⟨h0, h1⟩, h2⟩, h3⟩, h4⟩, h5⟩, h6⟩, h7⟩, h8⟩, h9⟩, h10⟩ := h
  have hlt : ∀ {i : Nat} {s : IStmt}, ss[i]? = some s → i < k := fun hi => by rw [← hlen]; exact (List.getElem?_eq_some_iff.1 hi).1
  refine ⟨⟨fun i s hi => ?_, fun i s hi t ht j sj hj hd => ?_, fun i j si sj d hi hj hdi hdj => ?_, fun i s hi hw j sj hj hcase => ?_⟩, fun i o hi ho e he hb => ?_⟩
  · obtain ⟨o, ho, ht⟩ := hg i s hi
    rw [List.getElem?_take_of_lt (hlt hi)] at ho
    exact ⟨o, ho, ht⟩
  · have := List.all_eq_true.1 (List.all_eq_true.1 h9 i (List.mem_range.2 (hlt hi))) j (List.mem_range.2 (hlt hj))
    obtain ⟨o, ho, _⟩ := hg i s hi
    rw [List.getElem?_take_of_lt (hlt hi)] at ho
    simp only [ho, hi, hj, hd, Bool.or_eq_true, Bool.not_eq_true'] at this
    refine ⟨o, ho, ?_⟩
    rcases this with h | h
    · have : (slotsOf s).contains t = true := by simpa using ht
      rw [this] at h; cases h
    · obtain ⟨e, he, hb⟩ := Array.any_eq_true'.1 h
      simp only [Bool.and_eq_true, beq_iff_eq] at hb
      exact ⟨e, he, hb.1, hb.2⟩
  · have key : ∀ (l : List IStmt), ssa l = true → ∀ (i j : Nat) si sj, i < j → l[i]? = some si → l[j]? = some sj → si.dst = some d → sj.dst = some d → False := by
      intro l
      induction l with
      | nil => intro _ i j si sj _ h; simp at h
      | cons s l ih =>
        intro hs i j si sj hij hi hj hdi hdj
        simp only [ssa, Bool.and_eq_true] at hs
        cases j with
        | zero => omega
        | succ j =>
          cases i with
          | zero =>
            simp at hi hj; subst hi
            have h2 := hs.1.2
            rw [hdi] at h2
            have : d ∈ dstsOf l := List.mem_filterMap.2 ⟨sj, List.mem_of_getElem? hj, hdj⟩
            simp [this] at h2
          | succ i => exact ih hs.2 i j si sj (by omega) (by simpa using hi) (by simpa using hj) hdi hdj
    rcases Nat.lt_trichotomy i j with hij | hij | hij
    · exact (key ss h4 i j si sj hij hi hj hdi hdj).elim
    · exact hij
    · exact (key ss h4 j i sj si hij hj hi hdj hdi).elim
  · have := List.all_eq_true.1 h10 i (List.mem_range.2 (hlt hi))
    simp only [hi, hw, Bool.not_true, Bool.false_or] at this
    have := List.all_eq_true.1 this j (List.mem_range.2 (hlt hj))
    split at this
    · rename_i sj' x hj' hx
      rw [hj] at hj'; cases hj'
      refine ⟨x, hx, ?_⟩
      simp only [Bool.or_eq_true, Bool.not_eq_true', Bool.or_eq_false_iff, Bool.and_eq_false_iff] at this
      rcases this with ⟨h1, h2⟩ | h
      · rcases hcase with hc | ⟨hc1, hc2⟩
        · rw [hc] at h1; cases h1
        · rcases h2 with h2 | h2
          · rw [hc1] at h2; cases h2
          · simp [hc2] at h2
      · exact h
    · cases this
  · have := List.all_eq_true.1 h8 i (List.mem_range.2 hi)
    rw [ho] at this
    simp only [Option.map_some, Option.getD_some] at this
    have := Array.all_eq_true_iff_forall_mem.1 this e he
    simpa [hb] using this
end
end Go.Awp
