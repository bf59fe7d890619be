/- Calls; lists of operations in the text's order. Generic in the program. -/
import Derived.Test.YtepnijjgdhldeaaLq
namespace Go.Awp
open Go.RowKit (Below)

def callable (P : Program) (f : FuncId) : Bool :=
  match P.funcs[f]? with
  | some fn => !(fn.name == "runtime.NumGoroutine") && fn.body.isSome
  | none => false

/-- Arguments as they are known, and as they are. -/
def Args (w : World) (m : AMap) (H : AHeap) (B : Nat) (xs : List AV) (vs : Array Value) : Prop :=
  xs.length = vs.size ∧ ∀ (i : Nat) (x : AV) (v : Value), xs[i]? = some x → vs[i]? = some v → RV w m H B x v

/-- A call in the midst of objects of the activation's own. -/
def ACall (P : Program) (f : FuncId) (xs : List AV) (H : AHeap) (R : AV → AHeap → Prop) : Prop :=
  callable P f = true ∧ ∀ (w : World) (m : AMap) (B : Nat) (vs : Array Value), St w m H B → Args w m H B xs vs →
    Calls P f vs w fun e w' => ∃ v x m' H', e = .returned v ∧ R x H' ∧ St w' m' H' B ∧ Adv w m H w' m' H' ∧ RV w' m' H' B x v

theorem ACall.mono {P f xs H} {R R' : AV → AHeap → Prop} (h : ACall P f xs H R) (hr : ∀ x H', R x H' → R' x H') : ACall P f xs H R' :=
  ⟨h.1, fun w m B vs st ha => (h.2 w m B vs st ha).mono fun _ _ ⟨v, x, m', H', a, b, c⟩ => ⟨v, x, m', H', a, hr _ _ b, c⟩⟩

/-- A call whose arguments and results are plain data. -/
def PCall (P : Program) (f : FuncId) (xs : List AV) (r : AV) : Prop :=
  callable P f = true ∧ ∀ (w : World) (vs : Array Value), Args w (fun _ => none) [] w.heap.size xs vs →
    Calls P f vs w fun e w' => ∃ v, e = .returned v ∧ Below w.heap.size w w' ∧ ∀ (m : AMap) (H : AHeap) (B : Nat), B ≤ w.heap.size → (∀ h b, m h = some b → b < w.heap.size) → RV w' m H B r v

/-- Values that say nothing of any world. -/
def AV.simple : AV → Bool
  | .bool _ | .int _ _ | .str _ => true
  | _ => false

theorem RV.simple {w w' m m' H H' B B'} {x : AV} {v : Value} (h : RV w m H B x v) (hs : x.simple = true) : RV w' m' H' B' x v := by
  cases h <;> first | (cases hs; done) | constructor

theorem AV.simple_one {x : AV} (hs : x.simple = true) : x.one = true := by
  cases x <;> first | rfl | cases hs

/-- A call on plain data that hands back a new slice, of simple values. -/
def NCall (P : Program) (f : FuncId) (xs : List AV) (e : TypeId) (sz : Nat) (els : List (List AV)) : Prop :=
  callable P f = true ∧ (∀ el, el ∈ els → el.length = sz ∧ ∀ x, x ∈ el → x.simple = true) ∧ ∀ (w : World) (vs : Array Value), Args w (fun _ => none) [] w.heap.size xs vs →
    Calls P f vs w fun en w' => ∃ b cap us, en = .returned (.slice (some ⟨b, 0, none⟩) els.length cap) ∧ Below w.heap.size w w' ∧ w.heap.size ≤ b ∧ b < w'.heap.size ∧ w'.heap[b]? = some (.cells us e (0, 0)) ∧ els.length ≤ cap ∧ cap ≤ maxLen ∧ us.size = cap * sz ∧
      ∀ (i : Nat) (el : List AV) (j : Nat) (x : AV), els[i]? = some el → el[j]? = some x → ∃ v, us[i * sz + j]? = some v ∧ RV w' (fun _ => none) [] 0 x v

/-- A value, as plain data: as what a call is handed. -/
def Frz (H : AHeap) (x x' : AV) : Prop := ∀ (w : World) (m : AMap) (B : Nat) (v : Value), St w m H B → RV w m H B x v → RV w (fun _ => none) [] w.heap.size x' v

inductive FrzL (H : AHeap) : List AV → List AV → Prop
  | nil : FrzL H [] []
  | cons {x x' : AV} {l l' : List AV} (h : Frz H x x') (t : FrzL H l l') : FrzL H (x :: l) (x' :: l')

theorem FrzL.list {H : AHeap} {xs ys : List AV} (h : FrzL H xs ys) {w m B} (st : St w m H B) : ∀ (l : List Value), xs.length = l.length → (∀ (i : Nat) (x : AV) (v : Value), xs[i]? = some x → l[i]? = some v → RV w m H B x v) → ys.length = l.length ∧ ∀ (i : Nat) (x : AV) (v : Value), ys[i]? = some x → l[i]? = some v → RV w (fun _ => none) [] w.heap.size x v := by
  induction h with
  | nil => intro l hl _; exact ⟨hl, by simp⟩
  | cons hx _ ih =>
    intro l hl hr
    cases l with
    | nil => simp at hl
    | cons v l =>
      obtain ⟨q1, q2⟩ := ih l (by simpa using hl) (fun i x v a b => hr (i + 1) x v (by simpa using a) (by simpa using b))
      refine ⟨by simp [q1], fun i x v' a b => ?_⟩
      cases i with
      | zero => simp at a b; subst a; subst b; exact hx w m B _ st (hr 0 _ _ rfl rfl)
      | succ i => exact q2 i x v' (by simpa using a) (by simpa using b)

theorem FrzL.args {H : AHeap} {xs ys : List AV} (h : FrzL H xs ys) {w m B} {vs : Array Value} (st : St w m H B) (ha : Args w m H B xs vs) : Args w (fun _ => none) [] w.heap.size ys vs := by
  obtain ⟨q1, q2⟩ := h.list st vs.toList (by simpa using ha.1) (fun i x v a b => ha.2 i x v a (by simpa using b))
  exact ⟨by simpa using q1, fun i x v a b => q2 i x v a (by simpa using b)⟩

theorem below_adv {w w' : World} {m : AMap} {H : AHeap} {B : Nat} (st : St w m H B) (h : Below w.heap.size w w') : St w' m H B ∧ Adv w m H w' m H := by
  have ad : Adv w m H w' m H := ⟨h.os, h.tape, h.output, h.size, fun b hb _ => h.block b hb, fun _ _ e => .inl e, Nat.le_refl _, fun k o' _ e => ⟨o', e, rfl, rfl, Nat.le_refl _, fun _ b hb => ⟨hb, by simp only [World.shape?, h.block b (st.dom k b hb).2.1]⟩⟩⟩
  refine ⟨⟨Nat.le_trans st.base h.size, fun k b e => ?_, st.inj⟩, ad⟩
  obtain ⟨h1, h2, o1, cs, e1, e2, e3, e4⟩ := st.dom k b e
  refine ⟨h1, Nat.lt_of_lt_of_le h2 h.size, o1, cs, e1, by rw [h.block b h2]; exact e2, e3, fun i el j x a1 a2 => ?_⟩
  obtain ⟨v, q1, q2, q3⟩ := e4 i el j x a1 a2
  exact ⟨v, q1, q2.mono ad, q3⟩

theorem adopt_call {w w' : World} {m : AMap} {H : AHeap} {B : Nat} (st : St w m H B) (hb : Below w.heap.size w w') {h : Nat} {o : AObj} (ho : AHeap.obj H h = some o) (hm : m h = none) {b : Nat} {us : Array Value} (h1 : w.heap.size ≤ b) (h2 : b < w'.heap.size)
    (h3 : w'.heap[b]? = some (.cells us o.e (0, 0))) (hu : ∀ e, e ∈ o.elems → e.length = o.s ∧ ∀ x, x ∈ e → x.simple = true)
    (hc : ∀ (i : Nat) (e : List AV) (j : Nat) (x : AV), o.elems[i]? = some e → e[j]? = some x → ∃ v, us[i * o.s + j]? = some v ∧ RV w' (fun _ => none) [] 0 x v) : St w' (AMap.upd m h b) H B ∧ Adv w m H w' (AMap.upd m h b) H := by
  have ad : Adv w m H w' (AMap.upd m h b) H := by
    refine ⟨hb.os, hb.tape, hb.output, hb.size, fun k hk _ => hb.block k hk, fun k b' e => ?_, Nat.le_refl _, fun k o1 hk e => ⟨o1, e, rfl, rfl, Nat.le_refl _, fun _ b' hb' => ?_⟩⟩
    · unfold AMap.upd at e
      split at e
      · cases e; exact .inr h1
      · exact .inl e
    · have hkh : k ≠ h := by intro e; subst e; rw [hm] at hb'; cases hb'
      refine ⟨by simp [AMap.upd, hkh, hb'], ?_⟩
      simp only [World.shape?, hb.block b' (st.dom k b' hb').2.1]
  refine ⟨⟨Nat.le_trans st.base hb.size, fun k b' e => ?_, fun k k' b' e e' => ?_⟩, ad⟩
  · unfold AMap.upd at e
    split at e
    · rename_i hkh
      cases e; subst hkh
      refine ⟨Nat.le_trans st.base h1, h2, o, us, ho, h3, fun e he => (hu e he).1, fun i el j x a1 a2 => ?_⟩
      obtain ⟨v, q1, q2⟩ := hc i el j x a1 a2
      have hs := (hu el (List.mem_of_getElem? a1)).2 x (List.mem_of_getElem? a2)
      exact ⟨v, q1, q2.simple hs, AV.simple_one hs⟩
    · obtain ⟨g1, g2, o1, cs, e1, e2, e3, e4⟩ := st.dom k b' e
      refine ⟨g1, Nat.lt_of_lt_of_le g2 hb.size, o1, cs, e1, by rw [hb.block b' g2]; exact e2, e3, fun i el j x a1 a2 => ?_⟩
      obtain ⟨v, q1, q2, q3⟩ := e4 i el j x a1 a2
      exact ⟨v, q1, q2.mono ad, q3⟩
  · unfold AMap.upd at e e'
    split at e <;> split at e'
    · rename_i a b; rw [a, b]
    · cases e
      have := (st.dom k' _ e').2.1; omega
    · cases e'
      have := (st.dom k _ e).2.1; omega
    · exact st.inj k k' b' e e'

theorem adopt_own {w' : World} {m : AMap} {H : AHeap} {B : Nat} {h e sz : Nat} {els : List (List AV)} (ho : AHeap.obj H h = some ⟨e, sz, els⟩) {b cap : Nat} {us : Array Value} (h3 : w'.heap[b]? = some (.cells us e (0, 0))) (h4 : els.length ≤ cap) (h5 : cap ≤ maxLen) (h6 : us.size = cap * sz) :
    RV w' (AMap.upd m h b) H B (.own h els.length 0 els.length) (.slice (some ⟨b, 0, none⟩) els.length cap) := by
  refine .own _ _ _ _ _ _ _ (AHeap.obj_lt ho) fun o' ho' => ?_
  rw [ho] at ho'; cases ho'
  refine ⟨Nat.le_refl _, fun _ => ⟨b, by simp [AMap.upd], fun _ => by simp, rfl, by simp, h4, h5, ?_⟩⟩
  simp [World.shape?, h3, h6]

/-- The same in the midst of objects. -/
theorem NCall.lift {P f xs ys e sz els H} (h : NCall P f ys e sz els) (hf : FrzL H xs ys) : ACall P f xs H fun x H' => x = .own H.length els.length 0 els.length ∧ H' = H ++ [some ⟨e, sz, els⟩] := by
  refine ⟨h.1, fun w m B vs st ha => ?_⟩
  refine (h.2.2 w vs (hf.args st ha)).mono fun en w' ⟨b, cap, us, he, hb, h1, h2, h3, h4, h5, h6, hc⟩ => ?_
  obtain ⟨p1, p2⟩ := st.push [some ⟨e, sz, els⟩]
  have hm : m H.length = none := by
    cases hm : m H.length with
    | none => rfl
    | some b => exact absurd (st.mlt hm) (Nat.lt_irrefl _)
  have ho : AHeap.obj (H ++ [some ⟨e, sz, els⟩]) H.length = some ⟨e, sz, els⟩ := AHeap.obj_push_eq
  obtain ⟨q1, q2⟩ := adopt_call p1 hb ho hm h1 h2 h3 h.2.1 hc
  exact ⟨_, _, _, _, he, ⟨rfl, rfl⟩, q1, p2.trans q2, adopt_own ho h3 h4 h5 h6⟩

/-- A call of plain data, whatever objects there are. -/
theorem PCall.lift {P f xs ys r H} (h : PCall P f ys r) (hf : FrzL H xs ys) : ACall P f xs H fun x H' => x = r ∧ H' = H := by
  refine ⟨h.1, fun w m B vs st ha => ?_⟩
  refine (h.2 w vs (hf.args st ha)).mono fun e w' ⟨v, he, hb, hr⟩ => ?_
  obtain ⟨p, q⟩ := below_adv st hb
  exact ⟨v, r, m, H, he, ⟨rfl, rfl⟩, p, q, hr m H B st.base (fun k b e => (st.dom k b e).2.1)⟩

structure IStmt where
  dst : Option Nat
  op : IOp
  guard : Option (Nat × Bool)
  uses : List Nat
  late : Bool

def envput (d : Option Nat) (x : AV) (env : AEnv) : AEnv :=
  match d with
  | some d => (d, x) :: env
  | none => env

/-- The method of a type, where the interface's value is handed over as it is. -/
def amethod (P : Program) (t : TypeId) (name : String) : Option FuncId :=
  match P.info? t with
  | some i => (match i.methods.find? (·.name == name) with
    | some m => if m.path.isEmpty then (match m.func, P.underlying t with
      | some (f, true), some (.pointer _) => some f
      | some (_, false), some (.pointer _) => none
      | some (f, false), some _ => some f
      | _, _ => none) else none
    | none => none)
  | none => none

def acall (P : Program) (io : IOp) (env : AEnv) (H : AHeap) (K : AV → AHeap → Prop) : Prop :=
  match io with
  | .call f args => match evs env args with
    | some vs => ACall P f vs H K
    | none => False
  | .callv x args => match ev env x, evs env args with
    | some (.func (.func f) first caps), some vs => ACall P f (first ++ vs ++ caps) H K
    | _, _ => False
  | .isnil neg x => match ev env x with
    | some v => (match alen H v with
      | some (.int _ n) => if 0 < n then K (.bool neg) H else ∀ b, K (.bool b) H
      | _ => False)
    | none => False
  | .mknil => K .nilSlice H
  | .invoke x name args => match ev env x, evs env args with
    | some (.iface t v), some vs => (match amethod P t name with
      | some f => ACall P f (v :: vs) H K
      | none => False)
    | _, _ => False
  | io => match sstep io env H with
    | some (some x, H') => K x H'
    | some (none, H') => K (.tuple []) H'
    | none => False

def awpOps (P : Program) : List IStmt → (AEnv → AHeap → Prop) → AEnv → AHeap → Prop
  | [], K, env, H => K env H
  | s :: rest, K, env, H => match s.guard with
    | none => acall P s.op env H fun x H' => awpOps P rest K (envput s.dst x env) H'
    | some (g, want) => match AEnv.get env g with
      | some (.bool c) => (c = want → acall P s.op ((g, .bool want) :: env) H fun x H' => awpOps P rest K (envput s.dst x ((g, .bool want) :: env)) H') ∧
          (c = !want → awpOps P rest K (envput s.dst (.tuple []) ((g, .bool (!want)) :: env)) H)
      | some (.tuple []) => awpOps P rest K (envput s.dst (.tuple []) env) H
      | _ => False

/-- The translation of an operation with its target and its guard. -/
def usesOf (u : Bool) (o : Oper) : List Nat :=
  if u then o.op.operands.toList.filterMap fun | .tmp t => some t | _ => none else []

def lateOf (u : Option (List Nat)) (d : Option Nat) : Bool :=
  match u, d with
  | some lt, some d => lt.contains d
  | _, _ => false

def trStmt (P : Program) (n : Nat) (u : Option (List Nat)) (ops : List Oper) (o : Oper) : Option IStmt :=
  match trOp P o, (match o.dst with | some d => decide (d < n) | none => true) with
  | some io, true => (match o.guard with
    | none => some ⟨o.dst, io, none, usesOf u.isSome o, lateOf u o.dst⟩
    | some (j, want) => (match (ops[j]?).bind (·.dst) with
      | some g => some ⟨o.dst, io, some (g, want), usesOf u.isSome o, lateOf u o.dst⟩
      | none => none))
  | _, _ => none

def trStmts (P : Program) (n : Nat) (u : Option (List Nat)) (ops : List Oper) : List Oper → Option (List IStmt)
  | [] => some []
  | o :: l => match trStmt P n u ops o, trStmts P n u ops l with
    | some s, some r => some (s :: r)
    | _, _ => none

/-- What is known in the midst of a body: the objects' map is somewhere. -/
def Rel (n : Nat) (w0 : World) (m0 : AMap) (H0 : AHeap) (B : Nat) (env : AEnv) (H : AHeap) (a : Act) (w : World) : Prop :=
  ∃ m, FR n w m H B env a ∧ St w m H B ∧ Adv w0 m0 H0 w m H

end Go.Awp
