/- Operations that write: the steps, and their truth in the model. Generic in the program. -/
import Derived.Test.YtepnijjgdhldeaaLn
namespace Go.Awp

theorem flatten_get_inv {α : Type} {s : Nat} : ∀ (es : List (List α)), (∀ e, e ∈ es → e.length = s) → ∀ (k : Nat) (x : α), es.flatten[k]? = some x → ∃ i e j, es[i]? = some e ∧ e[j]? = some x ∧ k = i * s + j
  | [], _, k, x, h => by simp at h
  | e :: es, hs, k, x, h => by
    have h0 := hs e (by simp)
    simp only [List.flatten_cons] at h
    rcases Nat.lt_or_ge k e.length with hk | hk
    · rw [List.getElem?_append_left hk] at h
      exact ⟨0, e, k, rfl, h, by omega⟩
    · rw [List.getElem?_append_right hk] at h
      obtain ⟨i, e', j, h1, h2, h3⟩ := flatten_get_inv es (fun e he => hs e (by simp [he])) _ x h
      exact ⟨i + 1, e', j, by simpa using h1, h2, by rw [Nat.add_mul]; omega⟩

/-- The cells that a function gives are those of a flat list. -/
def FC (w : World) (m : AMap) (H : AHeap) (B : Nat) (xs : List AV) (f : Nat → Option Value) : Prop :=
  ∀ (k : Nat) (x : AV), xs[k]? = some x → ∃ v, f k = some v ∧ RV w m H B x v ∧ x.one = true

theorem FC.nested {w m H B} {es : List (List AV)} {s : Nat} {f : Nat → Option Value} (hs : ∀ e, e ∈ es → e.length = s) (h : FC w m H B es.flatten f) : ∀ (i : Nat) (e : List AV) (j : Nat) (x : AV), es[i]? = some e → e[j]? = some x → ∃ v, f (i * s + j) = some v ∧ RV w m H B x v ∧ x.one = true :=
  fun i e j x h1 h2 => h _ x (flatten_get es hs i e j x h1 h2)

theorem FC.flat {w m H B} {es : List (List AV)} {s : Nat} {f : Nat → Option Value} (hs : ∀ e, e ∈ es → e.length = s) (h : ∀ (i : Nat) (e : List AV) (j : Nat) (x : AV), es[i]? = some e → e[j]? = some x → ∃ v, f (i * s + j) = some v ∧ RV w m H B x v ∧ x.one = true) : FC w m H B es.flatten f := by
  intro k x hk
  obtain ⟨i, e, j, h1, h2, rfl⟩ := flatten_get_inv es hs k x hk
  exact h i e j x h1 h2

def asrc (H : AHeap) (s : Nat) : AV → Option (List (List AV))
  | .own h ver i len => match AHeap.obj H h with
    | some o => if ver = o.elems.length ∧ s = o.s then some ((o.elems.drop i).take len) else none
    | none => none
  | .ro _ l => if (l.all fun e => e.length == s) then some l else none
  | .nilSlice => some []
  | _ => none

theorem asrc_sound {w m H B} (st : St w m H B) {s : Nat} {y : AV} {v : Value} (hy : RV w m H B y v) {els : List (List AV)} (h : asrc H s y = some els) :
    ∃ ad cap, v = .slice ad els.length cap ∧ (∀ e, e ∈ els → e.length = s) ∧ els.length ≤ cap ∧ (ad = none → cap = 0) ∧ (els ≠ [] → ∃ b off, ad = some ⟨b, off, none⟩ ∧ FC w m H B els.flatten fun k => w.cell? ⟨b, off + k, none⟩) := by
  unfold asrc at h
  split at h
  · rename_i h' ver i len
    split at h
    · rename_i o ho
      split at h
      · rename_i hc
        obtain ⟨c1, c2⟩ := hc
        cases h
        cases hy with
        | own _ _ _ _ ad n cap hlt hh =>
          obtain ⟨b, q1, q2, q3, q4, q5, q6, q7⟩ := (hh o ho).2 c1
          obtain ⟨_, _, o', cs, e1, e2, e3, e4⟩ := st.dom h' b q1
          rw [ho] at e1; cases e1
          have hl : ((o.elems.drop i).take len).length = len := by simp; omega
          have hu : ∀ e, e ∈ (o.elems.drop i).take len → e.length = s := fun e he => by rw [c2]; exact e3 e (List.mem_of_mem_drop (List.mem_of_mem_take he))
          have key : ∀ b off, ad = some ⟨b, off, none⟩ → m h' = some b → off = i * o.s → FC w m H B ((o.elems.drop i).take len).flatten fun k => w.cell? ⟨b, off + k, none⟩ := by
            intro b off _ hb hoff
            subst hoff
            refine FC.flat (s := s) hu fun i' e j x h1 h2 => ?_
            rw [List.getElem?_take] at h1
            split at h1
            · rw [List.getElem?_drop] at h1
              have := st.cell hb ho h1 h2
              rw [show (i + i') * o.s + j = i * o.s + (i' * s + j) by rw [c2, Nat.add_mul]; omega] at this
              exact this
            · cases h1
          refine ⟨ad, cap, by rw [hl, q3], hu, by omega, fun e => ?_, fun hne => ?_⟩
          · rcases Nat.eq_zero_or_pos cap with h0 | h0
            · exact h0
            · rw [q2 (.inl h0)] at e; cases e
          · have h0 : 0 < cap := by
              rcases Nat.eq_zero_or_pos cap with h0 | h0
              · exact absurd (List.eq_nil_of_length_eq_zero (by omega)) hne
              · exact h0
            exact ⟨b, _, q2 (.inl h0), key b _ (q2 (.inl h0)) q1 rfl⟩
      · cases h
    · cases h
  · rename_i fl l
    split at h
    · rename_i hall
      injection h with h
      subst h
      have hu : ∀ e, e ∈ l → e.length = s := fun e he => by simpa using List.all_eq_true.1 hall e he
      cases hy with
      | roNil _ ad cap ha => exact ⟨ad, cap, rfl, hu, Nat.zero_le _, ha, fun hne => absurd rfl hne⟩
      | ro _ _ s' b off cap vs hl hb hfr hlt hs hcap hc hv =>
        have es : s' = s := by
          cases l with
          | nil => exact absurd rfl hl
          | cons e l => rw [← hs e (by simp), hu e (by simp)]
        subst es
        exact ⟨_, cap, rfl, hu, hcap, fun e => (by cases e), fun _ => ⟨b, off, rfl, FC.flat hu fun i e j x h1 h2 => ⟨vs i j, by rw [← Nat.add_assoc]; exact (hc i e j x h1 h2).1, hv i e j x h1 h2, (hc i e j x h1 h2).2⟩⟩⟩
    · cases h
  · cases h
    cases hy with
    | nilSlice ad => exact ⟨ad, 0, rfl, by simp, Nat.le_refl _, fun _ => rfl, fun hne => absurd rfl hne⟩
  · cases h

def sres : QR → AHeap → Option AV × AHeap
  | .val v, H => (some v, H)
  | .box e s cells, H => (some (.ptr H.length 1 0 0), H ++ [some ⟨e, s, [cells]⟩])
  | .arr e s els, H => (some (.own H.length els.length 0 els.length), H ++ [some ⟨e, s, els⟩])

def sstep (io : IOp) (env : AEnv) (H : AHeap) : Option (Option AV × AHeap) :=
  match io with
  | .store s _ x v => match ev env x, ev env v with
    | some (.ptr h ver i j), some y => (match AHeap.obj H h with
      | some o => (match o.elems[i]? with
        | some e => if ver = o.elems.length ∧ y.cells.length = s ∧ y.isTuple = false ∧ j + s ≤ e.length then some (none, H.set h (some { o with elems := o.elems.set i (setMany e j y.cells) })) else none
        | none => none)
      | none => none)
    | _, _ => none
  | .append e s bytes x y => match ev env x, ev env y with
    | some x, some y => (match asrc H s y with
      | some els => (match x with
        | .nilSlice => if els.length = 0 then some (some .nilSlice, H) else if els.length ≤ 140737488355328 ∧ els.length * bytes ≤ 140737488355328 then some (some (.own H.length els.length 0 els.length), H ++ [some ⟨e, s, els⟩]) else none
        | .own h ver i len => (match AHeap.obj H h with
          | some o => if ver = o.elems.length ∧ i = 0 ∧ len = ver ∧ e = o.e ∧ s = o.s ∧ len + els.length ≤ 140737488355328 ∧ (len + els.length) * bytes ≤ 140737488355328 then
              some (some (.own h (len + els.length) 0 (len + els.length)), H.set h (some { o with elems := o.elems ++ els })) else none
          | none => none)
        | _ => none)
      | none => none)
    | _, _ => none
  | .copy s x y => match ev env x, ev env y with
    | some (.own h ver i len), some y => (match asrc H s y with
      | some els => (match AHeap.obj H h with
        | some o => if ver = o.elems.length ∧ s = o.s then some (some (.int .i64 (Nat.min els.length len : Nat)), H.set h (some { o with elems := o.elems.take i ++ els.take (Nat.min els.length len) ++ o.elems.drop (i + Nat.min els.length len) })) else none
        | none => none)
      | none => none)
    | _, _ => none
  | io => match qstep io env H with
    | some r => some (sres r H)
    | none => none

def SOK (P : Program) (o : Oper) (a : Act) (w : World) (m : AMap) (H : AHeap) (B : Nat) (r : Option AV × AHeap) : Prop :=
  ∃ w' m', St w' m' r.2 B ∧ Adv w m H w' m' r.2 ∧ match r.1 with
    | some x => ∃ v, (execOp a.eval o).run P w = .ok (.value v) w' ∧ RV w' m' r.2 B x v
    | none => (execOp a.eval o).run P w = .ok .skip w'

section
variable {P : Program} {n : Nat} {w : World} {m : AMap} {H : AHeap} {B : Nat} {env : AEnv} {a : Act} {o : Oper} {io : IOp}

theorem shape_new {w' : World} {heap : Array Obj} {vs : Array Value} {e : TypeId} (h : w'.heap = heap.push (.cells vs e)) : w'.shape? heap.size = some (e, vs.size) := by
  simp [World.shape?, h]

/-- A new object, at a number that the objects already bear. -/
theorem box_ok (st : St w m H B) {e s h : Nat} {cells : List AV} (ho : AHeap.obj H h = some ⟨e, s, [cells]⟩) (hm : m h = none) (hl : cells.length = s) {vs : Array Value} (hc : ∀ (j : Nat) (x : AV), cells[j]? = some x → ∃ v, vs[j]? = some v ∧ RV w m H B x v ∧ x.one = true) :
    St (w.alloc (.cells vs e)) (AMap.upd m h w.heap.size) H B ∧ Adv w m H (w.alloc (.cells vs e)) (AMap.upd m h w.heap.size) H ∧ RV (w.alloc (.cells vs e)) (AMap.upd m h w.heap.size) H B (.ptr h 1 0 0) (.pointer (some ⟨w.heap.size, 0, none⟩)) := by
  obtain ⟨p, q⟩ := st.new ho hm (w' := w.alloc (.cells vs e)) rfl rfl rfl rfl (by simpa using hl) (fun i el j x a1 a2 => by
    cases i with
    | zero =>
      simp at a1; subst a1
      obtain ⟨v, h1, h2, h3⟩ := hc j x a2
      exact ⟨v, by simpa using h1, h2, h3⟩
    | succ i => simp at a1)
  refine ⟨p, q, .ptr _ _ _ _ _ (AHeap.obj_lt ho) fun o' ho' => ?_⟩
  rw [ho] at ho'; cases ho'
  exact ⟨by simp, fun _ => ⟨w.heap.size, by simp [AMap.upd], by simp⟩⟩

theorem arr_ok (st : St w m H B) {e s h : Nat} {els : List (List AV)} (ho : AHeap.obj H h = some ⟨e, s, els⟩) (hm : m h = none) (hu : ∀ el, el ∈ els → el.length = s) {w1 : World} (hw : w1.heap = w.heap) (os : w1.os = w.os) (tape : w1.tape = w.tape) (output : w1.output = w.output) {vs : Array Value} {cap : Nat} (h1 : els.length ≤ cap) (h2 : cap ≤ maxLen) (hsz : vs.size = cap * s)
    (hc : ∀ (i : Nat) (el : List AV) (j : Nat) (x : AV), els[i]? = some el → el[j]? = some x → ∃ v, vs[i * s + j]? = some v ∧ RV w m H B x v ∧ x.one = true) :
    St (w1.alloc (.cells vs e)) (AMap.upd m h w.heap.size) H B ∧ Adv w m H (w1.alloc (.cells vs e)) (AMap.upd m h w.heap.size) H ∧ RV (w1.alloc (.cells vs e)) (AMap.upd m h w.heap.size) H B (.own h els.length 0 els.length) (.slice (some ⟨w.heap.size, 0, none⟩) els.length cap) := by
  have heap : (w1.alloc (.cells vs e)).heap = w.heap.push (.cells vs e) := by show w1.heap.push _ = _; rw [hw]
  obtain ⟨p, q⟩ := st.new ho hm (w' := w1.alloc (.cells vs e)) os tape output heap hu hc
  refine ⟨p, q, .own _ _ _ _ _ _ _ (AHeap.obj_lt ho) fun o' ho' => ?_⟩
  rw [ho] at ho'; cases ho'
  refine ⟨Nat.le_refl _, fun _ => ⟨w.heap.size, by simp [AMap.upd], fun _ => by simp, rfl, by simp, h1, h2, ?_⟩⟩
  rw [shape_new heap, hsz, Nat.zero_add]

theorem quiet_ok (htr : trOp P o = some io) (st : St w m H B) (fr : FR n w m H B env a) {r : QR} (h : qstep io env H = some r) : SOK P o a w m H B (sres r H) := by
  have q := qstep_sound htr st fr h
  cases r with
  | val x =>
    obtain ⟨v, h1, h2⟩ := q
    exact ⟨w, m, st, Adv.refl _ _ _, v, h1, h2⟩
  | box e s cells =>
    obtain ⟨hl, vs, h1, h2, h3⟩ := q
    obtain ⟨p1, p2⟩ := st.push [some ⟨e, s, [cells]⟩]
    have hm : m H.length = none := by
      cases hm : m H.length with
      | none => rfl
      | some b => exact absurd (st.mlt hm) (Nat.lt_irrefl _)
    obtain ⟨q1, q2, q3⟩ := box_ok p1 (h := H.length) AHeap.obj_push_eq hm hl (vs := vs) (fun j x hj => by
      obtain ⟨v, a1, a2, a3⟩ := h3 j x hj
      exact ⟨v, a1, a2.mono p2, a3⟩)
    exact ⟨_, _, q1, p2.trans q2, _, h1, q3⟩
  | arr e s els =>
    obtain ⟨hu, vs, cap, h1, h2, h3, h4, h5⟩ := q
    obtain ⟨p1, p2⟩ := st.push [some ⟨e, s, els⟩]
    have hm : m H.length = none := by
      cases hm : m H.length with
      | none => rfl
      | some b => exact absurd (st.mlt hm) (Nat.lt_irrefl _)
    obtain ⟨q1, q2, q3⟩ := arr_ok p1 (h := H.length) AHeap.obj_push_eq hm hu (w1 := w) rfl rfl rfl rfl h2 h3 h4 (fun i el j x a1 a2 => by
      obtain ⟨v, b1, b2, b3⟩ := h5 i el j x a1 a2
      exact ⟨v, b1, b2.mono p2, b3⟩)
    exact ⟨_, _, q1, p2.trans q2, _, h1, q3⟩
end
end Go.Awp
