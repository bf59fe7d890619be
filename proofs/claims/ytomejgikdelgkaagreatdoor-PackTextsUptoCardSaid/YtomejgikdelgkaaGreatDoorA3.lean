/- Operations that write: the steps, and their truth in the model. Generic in the program. -/
import Derived.Test.YtomejgikdelgkaaGreatDoorA2
import Derived.Lib.AppendStr
set_option linter.unusedVariables false
set_option linter.unusedSimpArgs false
set_option linter.unusedSectionVars false
namespace Go.Awp
set_option linter.unusedSectionVars false
variable [Fx]
theorem flatten_get_inv {α : Type} {s : Nat} : ∀ (es : List (List α)), (∀ e, e ∈ es → e.length = s) → ∀ (k : Nat) (x : α), es.flatten[k]? = some x → ∃ i e j, es[i]? = some e ∧ e[j]? = some x ∧ k = i * s + j
  | [], _, k, x, h => by simp at h
  | e :: es, hs, k, x, h => by
    have h0 := hs e (by simp)
    simp only [List.flatten_cons] at h
    rcases Nat.lt_or_ge k e.length with hk | hk
    · rw [List.getElem?_append_left hk] at h
      exact ⟨0, e, k, rfl, h, by omega⟩
    · rw [List.getElem?_append_right hk] at h
      obtain ⟨i, e', j, h1, h2, h3⟩ := flatten_get_inv es (fun e he => hs e (by simp [he])) _ x h
      exact ⟨i + 1, e', j, by simpa using h1, h2, by rw [Nat.add_mul]; omega⟩
/-- The cells that a function gives are those of a flat list. -/
def FC (w : World) (m : AMap) (H : AHeap) (B : Nat) (xs : List AV) (f : Nat → Option Value) : Prop :=
  ∀ (k : Nat) (x : AV), xs[k]? = some x → ∃ v, f k = some v ∧ RV w m H B x v ∧ x.one = true
theorem FC.nested {w m H B} {es : List (List AV)} {s : Nat} {f : Nat → Option Value} (hs : ∀ e, e ∈ es → e.length = s) (h : FC w m H B es.flatten f) : ∀ (i : Nat) (e : List AV) (j : Nat) (x : AV), es[i]? = some e → e[j]? = some x → ∃ v, f (i * s + j) = some v ∧ RV w m H B x v ∧ x.one = true :=
  fun i e j x h1 h2 => h _ x (flatten_get es hs i e j x h1 h2)
theorem FC.flat {w m H B} {es : List (List AV)} {s : Nat} {f : Nat → Option Value} (hs : ∀ e, e ∈ es → e.length = s) (h : ∀ (i : Nat) (e : List AV) (j : Nat) (x : AV), es[i]? = some e → e[j]? = some x → ∃ v, f (i * s + j) = some v ∧ RV w m H B x v ∧ x.one = true) : FC w m H B es.flatten f := by
  intro k x hk
  obtain ⟨i, e, j, h1, h2, rfl⟩ := flatten_get_inv es hs k x hk
  exact h i e j x h1 h2
theorem chunks_length {s : Nat} : ∀ (k : Nat) (l : List AV), (chunks s k l).length = k
  | 0, _ => rfl
  | k + 1, l => by simp [chunks, chunks_length k]
theorem chunks_get {s : Nat} : ∀ (k : Nat) (l : List AV) (i : Nat), i < k → (chunks s k l)[i]? = some ((l.drop (i * s)).take s)
  | 0, _, _, h => absurd h (Nat.not_lt_zero _)
  | k + 1, l, 0, _ => by simp [chunks]
  | k + 1, l, i + 1, h => by
    simp only [chunks, List.getElem?_cons_succ]
    rw [chunks_get k _ i (by omega), List.drop_drop]
    congr 3
    rw [Nat.succ_mul, Nat.add_comm]
def asrc (H : AHeap) (s : Nat) : AV → Option (List (List AV))
  | .sub h ver i j s' len => match AHeap.obj H h with
    | some o => (match o.elems[i]? with
      | some e => if ver = o.elems.length ∧ s = s' ∧ j + len * s ≤ e.length then some (chunks s len (e.drop j)) else none
      | none => none)
    | none => none
  | .own h ver i len => match AHeap.obj H h with
    | some o => if ver = o.elems.length ∧ s = o.s then some ((o.elems.drop i).take len) else none
    | none => none
  | .ro _ l => if (l.all fun e => e.length == s) then some l else none
  | .nilSlice => some []
  | _ => none
theorem asrc_sound {w m H B} (st : St w m H B) {s : Nat} {y : AV} {v : Value} (hy : RV w m H B y v) {els : List (List AV)} (h : asrc H s y = some els) :
    ∃ ad cap, v = .slice ad els.length cap ∧ (∀ e, e ∈ els → e.length = s) ∧ els.length ≤ cap ∧ (ad = none → cap = 0) ∧ (els ≠ [] → ∃ b off, ad = some ⟨b, off, none⟩ ∧ FC w m H B els.flatten fun k => w.cell? ⟨b, off + k, none⟩) := by
  unfold asrc at h
  split at h
  · rename_i h' ver i j s' len
    split at h
    · rename_i o ho
      split at h
      · rename_i e he
        split at h
        · rename_i hc
          obtain ⟨c1, c2, c3⟩ := hc
          cases h
          cases hy with
          | sub _ _ _ _ _ _ ad n cap hlt hh =>
            obtain ⟨b, q1, q2, q3, q4⟩ := (hh o ho).2 c1
            have hl : (chunks s len (e.drop j)).length = len := chunks_length _ _
            have hrow : ∀ i' r, (chunks s len (e.drop j))[i']? = some r → i' < len ∧ r = (e.drop (j + i' * s)).take s := by
              intro i' r hr
              have hlt' : i' < len := by rw [← hl]; exact (List.getElem?_eq_some_iff.1 hr).1
              rw [chunks_get len _ i' hlt', List.drop_drop] at hr
              cases hr
              exact ⟨hlt', rfl⟩
            have hu : ∀ r, r ∈ chunks s len (e.drop j) → r.length = s := by
              intro r hr
              obtain ⟨i', hi'⟩ := List.mem_iff_getElem?.1 hr
              obtain ⟨h1, rfl⟩ := hrow i' r hi'
              have hm := Nat.mul_le_mul_right s h1
              rw [Nat.succ_mul] at hm
              simp; omega
            refine ⟨some ad, cap, by rw [hl, q3], hu, by omega, fun e => (by cases e), fun hne => ?_⟩
            have h0 : 0 < cap := by
              rcases Nat.eq_zero_or_pos cap with h0 | h0
              · exact absurd (List.eq_nil_of_length_eq_zero (by omega)) hne
              · exact h0
            refine ⟨b, _, by rw [q2 h0], FC.flat (s := s) hu fun i' r k x h1 h2 => ?_⟩
            obtain ⟨g1, rfl⟩ := hrow i' r h1
            rw [List.getElem?_take] at h2
            split at h2
            · rw [List.getElem?_drop] at h2
              have := st.cell q1 ho he h2
              rw [show i * o.s + (j + i' * s + k) = i * o.s + j + (i' * s + k) by omega] at this
              exact this
            · cases h2
        · cases h
      · cases h
    · cases h
  · rename_i h' ver i len
    split at h
    · rename_i o ho
      split at h
      · rename_i hc
        obtain ⟨c1, c2⟩ := hc
        cases h
        cases hy with
        | own _ _ _ _ ad n cap hlt hh =>
          obtain ⟨b, q1, q2, q3, q4, q5, q6, q7⟩ := (hh o ho).2 c1
          obtain ⟨_, _, o', cs, e1, e2, e3, e4⟩ := st.dom h' b q1
          rw [ho] at e1; cases e1
          have hl : ((o.elems.drop i).take len).length = len := by simp; omega
          have hu : ∀ e, e ∈ (o.elems.drop i).take len → e.length = s := fun e he => by rw [c2]; exact e3 e (List.mem_of_mem_drop (List.mem_of_mem_take he))
          have key : ∀ b off, ad = some ⟨b, off, none⟩ → m h' = some b → off = i * o.s → FC w m H B ((o.elems.drop i).take len).flatten fun k => w.cell? ⟨b, off + k, none⟩ := by
            intro b off _ hb hoff
            subst hoff
            refine FC.flat (s := s) hu fun i' e j x h1 h2 => ?_
            rw [List.getElem?_take] at h1
            split at h1
            · rw [List.getElem?_drop] at h1
              have := st.cell hb ho h1 h2
              rw [show (i + i') * o.s + j = i * o.s + (i' * s + j) by rw [c2, Nat.add_mul]; omega] at this
              exact this
            · cases h1
          refine ⟨ad, cap, by rw [hl, q3], hu, by omega, fun e => ?_, fun hne => ?_⟩
          · rcases Nat.eq_zero_or_pos cap with h0 | h0
            · exact h0
            · rw [q2 (.inl h0)] at e; cases e
          · have h0 : 0 < cap := by
              rcases Nat.eq_zero_or_pos cap with h0 | h0
              · exact absurd (List.eq_nil_of_length_eq_zero (by omega)) hne
              · exact h0
            exact ⟨b, _, q2 (.inl h0), key b _ (q2 (.inl h0)) q1 rfl⟩
      · cases h
    · cases h
  · rename_i fl l
    split at h
    · rename_i hall
      injection h with h
      subst h
      have hu : ∀ e, e ∈ l → e.length = s := fun e he => by simpa using List.all_eq_true.1 hall e he
      cases hy with
      | roNil _ ad cap ha => exact ⟨ad, cap, rfl, hu, Nat.zero_le _, ha, fun hne => absurd rfl hne⟩
      | ro _ _ s' b off cap vs hl hb hfr hlt hs hcap hc hv =>
        have es : s' = s := by
          cases l with
          | nil => exact absurd rfl hl
          | cons e l => rw [← hs e (by simp), hu e (by simp)]
        subst es
        exact ⟨_, cap, rfl, hu, hcap, fun e => (by cases e), fun _ => ⟨b, off, rfl, FC.flat hu fun i e j x h1 h2 => ⟨vs i j, by rw [← Nat.add_assoc]; exact (hc i e j x h1 h2).1, hv i e j x h1 h2, (hc i e j x h1 h2).2⟩⟩⟩
    · cases h
  · cases h
    cases hy with
    | nilSlice ad => exact ⟨ad, 0, rfl, by simp, Nat.le_refl _, fun _ => rfl, fun hne => absurd rfl hne⟩
  · cases h
def sres : QR → AHeap → Option AV × AHeap
  | .val v, H => (some v, H)
  | .box e s cells, H => (some (.ptr H.length 1 0 0), H ++ [some ⟨e, s, [cells]⟩])
  | .arr e s els, H => (some (.own H.length els.length 0 els.length), H ++ [some ⟨e, s, els⟩])
/-- A string's bytes, as rows. -/
def bys (s : ByteArray) : List (List AV) := s.data.toList.map fun b => [.int .u8 b.toNat]
def sstep (io : IOp) (env : AEnv) (H : AHeap) : Option (Option AV × AHeap) :=
  match io with
  | .store s _ x v => match ev env x, ev env v with
    | some (.ptr h ver i j), some y => (match AHeap.obj H h with
      | some o => (match o.elems[i]? with
        | some e => if ver = o.elems.length ∧ y.cells.length = s ∧ y.isTuple = false ∧ j + s ≤ e.length then some (none, H.set h (some { o with elems := o.elems.set i (setMany e j y.cells) })) else none
        | none => none)
      | none => none)
    | _, _ => none
  | .append e s bytes x y => match ev env x, ev env y with
    | some x, some y => (match asrc H s y with
      | some els => (match x with
        | .nilSlice => if els.length = 0 then some (some .nilSlice, H) else if els.length ≤ 140737488355328 ∧ els.length * bytes ≤ 140737488355328 then some (some (.own H.length els.length 0 els.length), H ++ [some ⟨e, s, els⟩]) else none
        | .own h ver i len => (match AHeap.obj H h with
          | some o => if ver = o.elems.length ∧ i = 0 ∧ len = ver ∧ e = o.e ∧ s = o.s ∧ len + els.length ≤ 140737488355328 ∧ (len + els.length) * bytes ≤ 140737488355328 then
              some (some (.own h (len + els.length) 0 (len + els.length)), H.set h (some { o with elems := o.elems ++ els }))
            else if ver = o.elems.length ∧ i = 0 ∧ e = o.e ∧ s = o.s ∧ 0 < s ∧ len + els.length ≤ ver then
              some (some (.own h ver 0 (len + els.length)), H.set h (some { o with elems := o.elems.take len ++ els ++ o.elems.drop (len + els.length) })) else none
          | none => none)
        | .full l => if els.length = 0 then some (some (.full l), H) else if (l.all fun e => e.length == s) ∧ l.length + els.length ≤ 140737488355328 ∧ (l.length + els.length) * bytes ≤ 140737488355328 then some (some (.own H.length (l.length + els.length) 0 (l.length + els.length)), H ++ [some ⟨e, s, l ++ els⟩]) else none
        | _ => none)
      | none => none)
    | _, _ => none
  | .copy s x y => match ev env x, ev env y with
    | some (.sub h ver i j s' len), some y => (match asrc H s y with
      | some els => (match AHeap.obj H h with
        | some o => (match o.elems[i]? with
          | some e => if ver = o.elems.length ∧ s = s' ∧ j + Nat.min els.length len * s ≤ e.length then some (some (.int .i64 (Nat.min els.length len : Nat)), H.set h (some { o with elems := o.elems.set i (setMany e j (els.take (Nat.min els.length len)).flatten) })) else none
          | none => none)
        | none => none)
      | none => none)
    | some (.own h ver i len), some y => (match asrc H s y with
      | some els => (match AHeap.obj H h with
        | some o => if ver = o.elems.length ∧ s = o.s then some (some (.int .i64 (Nat.min els.length len : Nat)), H.set h (some { o with elems := o.elems.take i ++ els.take (Nat.min els.length len) ++ o.elems.drop (i + Nat.min els.length len) })) else none
        | none => none)
      | none => none)
    | _, _ => none
  | .clear s z x => match ev env x with
    | some (.own h ver i len) => (match AHeap.obj H h with
      | some o => if ver = o.elems.length ∧ s = o.s ∧ i + len ≤ ver then some (some (.tuple []), H.set h (some { o with elems := o.elems.take i ++ List.replicate len z ++ o.elems.drop (i + len) })) else none
      | none => none)
    | some .nilSlice => some (some (.tuple []), H)
    | _ => none
  | .appS e x y => match ev env x, ev env y with
    | some .nilSlice, some (.str s) => if s.size = 0 then some (some .nilSlice, H) else if s.size ≤ 140737488355328 then some (some (.own H.length s.size 0 s.size), H ++ [some ⟨e, 1, bys s⟩]) else none
    | some (.own h ver i len), some (.str s) => (match AHeap.obj H h with
      | some o => if ver = o.elems.length ∧ i = 0 ∧ len = ver ∧ e = o.e ∧ o.s = 1 ∧ len + s.size ≤ 140737488355328 then some (some (.own h (len + s.size) 0 (len + s.size)), H.set h (some { o with elems := o.elems ++ bys s })) else none
      | none => none)
    | _, _ => none
  | .mkmap => some (some (.map H.length), H ++ [some ⟨0, 0, []⟩])
  | .mapset nk x k v => match ev env x, ev env k, ev env v with
    | some (.map h), some ka, some va => (match AHeap.obj H h, keyCells nk ka with
      | some o, some ks => if va.simp1 then (match mput ks va o.elems with
        | some rows => some (none, H.set h (some { o with elems := rows }))
        | none => none) else none
      | _, _ => none)
    | _, _, _ => none
  | io => match qstep io env H with
    | some r => some (sres r H)
    | none => none
def SOK (P : Program) (o : Oper) (a : Act) (w : World) (m : AMap) (H : AHeap) (B : Nat) (r : Option AV × AHeap) : Prop :=
  ∃ w' m', St w' m' r.2 B ∧ Adv w m H w' m' r.2 ∧ match r.1 with
    | some x => ∃ v, (execOp a.eval o).run P w = .ok (.value v) w' ∧ RV w' m' r.2 B x v
    | none => (execOp a.eval o).run P w = .ok .skip w'
section
variable {P : Program} {n : Nat} {w : World} {m : AMap} {H : AHeap} {B : Nat} {env : AEnv} {a : Act} {o : Oper} {io : IOp}
theorem shape_new {w' : World} {heap : Array Obj} {vs : Array Value} {e : TypeId} (h : w'.heap = heap.push (.cells vs e)) : w'.shape? heap.size = some (e, vs.size) := by
  simp [World.shape?, h]
/-- A new object, at a number that the objects already bear. -/
theorem box_ok (st : St w m H B) {e s h : Nat} {cells : List AV} (ho : AHeap.obj H h = some ⟨e, s, [cells]⟩) (hm : m h = none ∧ m (.p h) = none) (hl : cells.length = s) {vs : Array Value} (hc : ∀ (j : Nat) (x : AV), cells[j]? = some x → ∃ v, vs[j]? = some v ∧ RV w m H B x v ∧ x.one = true) :
    St (w.alloc (.cells vs e)) (AMap.upd m h w.heap.size) H B ∧ Adv w m H (w.alloc (.cells vs e)) (AMap.upd m h w.heap.size) H ∧ RV (w.alloc (.cells vs e)) (AMap.upd m h w.heap.size) H B (.ptr h 1 0 0) (.pointer (some ⟨w.heap.size, 0, none⟩)) := by
  obtain ⟨p, q⟩ := st.new ho hm (w' := w.alloc (.cells vs e)) rfl rfl rfl rfl (by simpa using hl) (fun i el j x a1 a2 => by
    cases i with
    | zero =>
      simp at a1; subst a1
      obtain ⟨v, h1, h2, h3⟩ := hc j x a2
      exact ⟨v, by simpa using h1, h2, h3⟩
    | succ i => simp at a1)
  refine ⟨p, q, .ptr _ _ _ _ _ (AHeap.obj_lt ho) fun o' ho' => ?_⟩
  rw [ho] at ho'; cases ho'
  exact ⟨by simp, fun _ => ⟨w.heap.size, by simp [AMap.upd], by simp⟩⟩
theorem arr_ok (st : St w m H B) {e s h : Nat} {els : List (List AV)} (ho : AHeap.obj H h = some ⟨e, s, els⟩) (hm : m h = none ∧ m (.p h) = none) (hu : ∀ el, el ∈ els → el.length = s) {w1 : World} (hw : w1.heap = w.heap) (os : w1.os = w.os) (tape : w1.tape = w.tape) (output : w1.output = w.output) {vs : Array Value} {cap : Nat} (h1 : els.length ≤ cap) (h2 : cap ≤ maxLen) (hsz : vs.size = cap * s)
    (hc : ∀ (i : Nat) (el : List AV) (j : Nat) (x : AV), els[i]? = some el → el[j]? = some x → ∃ v, vs[i * s + j]? = some v ∧ RV w m H B x v ∧ x.one = true) :
    St (w1.alloc (.cells vs e)) (AMap.upd m h w.heap.size) H B ∧ Adv w m H (w1.alloc (.cells vs e)) (AMap.upd m h w.heap.size) H ∧ RV (w1.alloc (.cells vs e)) (AMap.upd m h w.heap.size) H B (.own h els.length 0 els.length) (.slice (some ⟨w.heap.size, 0, none⟩) els.length cap) := by
  have heap : (w1.alloc (.cells vs e)).heap = w.heap.push (.cells vs e) := by show w1.heap.push _ = _; rw [hw]
  obtain ⟨p, q⟩ := st.new ho hm (w' := w1.alloc (.cells vs e)) os tape output heap hu hc
  refine ⟨p, q, .own _ _ _ _ _ _ _ (AHeap.obj_lt ho) fun o' ho' => ?_⟩
  rw [ho] at ho'; cases ho'
  refine ⟨Nat.le_refl _, fun _ => ⟨w.heap.size, by simp [AMap.upd], fun _ => by simp, rfl, by simp, h1, h2, ?_⟩⟩
  rw [shape_new heap, hsz, Nat.zero_add]
theorem quiet_ok (htr : trOp P o = some io) (st : St w m H B) (fr : FR n w m H B env a) {r : QR} (h : qstep io env H = some r) : SOK P o a w m H B (sres r H) := by
  have q := qstep_sound htr st fr h
  cases r with
  | val x =>
    obtain ⟨v, h1, h2⟩ := q
    exact ⟨w, m, st, Adv.refl _ _ _, v, h1, h2⟩
  | box e s cells =>
    obtain ⟨hl, vs, h1, h2, h3⟩ := q
    obtain ⟨p1, p2⟩ := st.push [some ⟨e, s, [cells]⟩]
    have hm := st.fresh
    obtain ⟨q1, q2, q3⟩ := box_ok p1 (h := H.length) AHeap.obj_push_eq hm hl (vs := vs) (fun j x hj => by
      obtain ⟨v, a1, a2, a3⟩ := h3 j x hj
      exact ⟨v, a1, a2.mono p2, a3⟩)
    exact ⟨_, _, q1, p2.trans q2, _, h1, q3⟩
  | arr e s els =>
    obtain ⟨hu, vs, cap, h1, h2, h3, h4, h5⟩ := q
    obtain ⟨p1, p2⟩ := st.push [some ⟨e, s, els⟩]
    have hm := st.fresh
    obtain ⟨q1, q2, q3⟩ := arr_ok p1 (h := H.length) AHeap.obj_push_eq hm hu (w1 := w) rfl rfl rfl rfl h2 h3 h4 (fun i el j x a1 a2 => by
      obtain ⟨v, b1, b2, b3⟩ := h5 i el j x a1 a2
      exact ⟨v, b1, b2.mono p2, b3⟩)
    exact ⟨_, _, q1, p2.trans q2, _, h1, q3⟩
end
end Go.Awp
/- Operations that write: their truth in the model. Generic in the program. -/
namespace Go.Awp
set_option linter.unusedSectionVars false
variable [Fx]
theorem setMany_get : ∀ (ys xs : List AV) (off k : Nat), off + ys.length ≤ xs.length → (setMany xs off ys)[k]? = if off ≤ k ∧ k < off + ys.length then ys[k - off]? else xs[k]?
  | [], xs, off, k, _ => by
    rw [if_neg (by simp only [List.length_nil]; omega)]; rfl
  | y :: ys, xs, off, k, h => by
    simp only [List.length_cons] at h
    simp only [setMany]
    rw [setMany_get ys (xs.set off y) (off + 1) k (by simp; omega)]
    by_cases hk : off = k
    · subst hk
      rw [if_neg (by omega), if_pos (by simp only [List.length_cons]; omega), Nat.sub_self, List.getElem?_set_self (by omega)]; rfl
    · by_cases h1 : off + 1 ≤ k ∧ k < off + 1 + ys.length
      · rw [if_pos h1, if_pos (by simp only [List.length_cons]; omega)]
        rw [show k - off = (k - (off + 1)) + 1 by omega]; rfl
      · rw [if_neg h1, if_neg (by simp only [List.length_cons]; omega), List.getElem?_set_ne hk]
theorem splice_get (cs : Array Value) (vs : List Value) (k q : Nat) (h : k + vs.length ≤ cs.size) :
    (cs.toList.take k ++ vs ++ cs.toList.drop (k + vs.length)).toArray[q]? = if k ≤ q ∧ q < k + vs.length then vs[q - k]? else cs[q]? := by
  have hl : (cs.toList.take k).length = k := by simp; omega
  rw [List.getElem?_toArray, List.append_assoc]
  rcases Nat.lt_or_ge q k with h1 | h1
  · rw [List.getElem?_append_left (by omega), if_neg (by omega), List.getElem?_take_of_lt h1, Array.getElem?_toList]
  · rw [List.getElem?_append_right (by omega), hl]
    rcases Nat.lt_or_ge q (k + vs.length) with h2 | h2
    · rw [List.getElem?_append_left (by omega), if_pos ⟨h1, h2⟩]
    · rw [List.getElem?_append_right (by omega), if_neg (by omega), List.getElem?_drop, Array.getElem?_toList]
      congr 1; omega
theorem splice_size (cs : Array Value) (vs : List Value) (k : Nat) (h : k + vs.length ≤ cs.size) : (cs.toList.take k ++ vs ++ cs.toList.drop (k + vs.length)).toArray.size = cs.size := by
  simp; omega
section
variable {P : Program} {n : Nat} {w : World} {m : AMap} {H : AHeap} {B : Nat} {env : AEnv} {a : Act} {o : Oper} {io : IOp}
/-- The block of an object holds at least its cells. -/
theorem block_fits {o : AObj} {cs : Array Value} (hu : ∀ e, e ∈ o.elems → e.length = o.s) (hc : ∀ (i : Nat) (e : List AV) (j : Nat) (x : AV), o.elems[i]? = some e → e[j]? = some x → ∃ v, cs[i * o.s + j]? = some v ∧ RV w m H B x v ∧ x.one = true) : o.elems.length * o.s ≤ cs.size := by
  rcases Nat.eq_zero_or_pos (o.elems.length * o.s) with h0 | h0
  · omega
  · have hs : 0 < o.s := Nat.pos_of_mul_pos_left h0
    have hl : 0 < o.elems.length := Nat.pos_of_mul_pos_right h0
    have h1 : o.elems[o.elems.length - 1]? = some (o.elems[o.elems.length - 1]'(by omega)) := List.getElem?_eq_getElem _
    have hlen := hu _ (List.mem_of_getElem? h1)
    obtain ⟨v, hv, _⟩ := hc _ _ (o.s - 1) _ h1 (List.getElem?_eq_getElem (by omega))
    have := (Array.getElem?_eq_some_iff.1 hv).1
    have e1 : (o.elems.length - 1) * o.s + o.s = o.elems.length * o.s := by
      rw [← Nat.succ_mul]; congr 1; omega
    omega
theorem store_ok {t : TypeId} {x v : Operand} {i : TypeInfo} {d : TypeDesc} (hi : P.info? t = some i) (ho : o.op = .store t x v) (st : St w m H B) (fr : FR n w m H B env a) {r : Option AV × AHeap} (h : sstep (.store i.size (isAggD d) x v) env H = some r) : SOK P o a w m H B r := by
  simp only [sstep] at h
  split at h
  · rename_i h' ver i' j y hx hy
    split at h
    · rename_i o' ho'
      split at h
      · rename_i e he
        split at h
        · rename_i hc
          obtain ⟨c1, c2, c3, c4⟩ := hc
          cases h
          have hxv := ev_sound fr hx
          have hyv := ev_sound fr hy
          generalize hex : a.eval x = u at hxv
          generalize hey : a.eval v = z at hyv
          cases hxv with
          | ptr _ _ _ _ ad hlt hh =>
            obtain ⟨b, hb, hae⟩ := (hh o' ho').2 c1
            subst hae
            obtain ⟨g1, g2, o2, cs, e1, e2, e3, e4⟩ := st.dom h' b hb
            rw [ho'] at e1; cases e1
            have hfit := block_fits e3 e4
            obtain ⟨l1, l2, l3⟩ := hyv.cells (RV.not_tuple c3)
            have hel := e3 e (List.mem_of_getElem? he)
            have hil : i' < o'.elems.length := by
              rcases Nat.lt_or_ge i' o'.elems.length with h1 | h1
              · exact h1
              · rw [List.getElem?_eq_none h1] at he; cases he
            have hmul : i' * o'.s + o'.s ≤ o'.elems.length * o'.s := by
              have := Nat.mul_le_mul_right o'.s hil
              rw [Nat.succ_mul] at this; exact this
            have hzl : z.cells.toList.length = i.size := by simp; omega
            have hk : (i' * o'.s + j) + z.cells.toList.length ≤ cs.size := by omega
            have ones : ∀ u ∈ z.cells.toList, u.oneCell' = true := by
              intro u hu
              obtain ⟨q, hq⟩ := List.mem_iff_getElem?.1 hu
              have hql : q < y.cells.length := by
                have := (List.getElem?_eq_some_iff.1 hq).1
                simp at this; omega
              have := l3 q _ u (List.getElem?_eq_getElem hql) (by simpa using hq)
              rw [this.one_eq]
              exact l2 _ (List.getElem_mem hql)
            have hrun := run_storeCells_at P b (i' * o'.s + j) o'.e z.cells.toList 0 cs w e2 (by simpa using hk) ones
            simp only [Nat.add_zero] at hrun
            have hst : (execOp a.eval o).run P w = .ok .skip (w.setRow b (cs.toList.take (i' * o'.s + j) ++ z.cells.toList ++ cs.toList.drop (i' * o'.s + j + z.cells.toList.length)).toArray) := by
              have hsz : z.cells.size = i.size := by simpa using hzl
              simp only [execOp, ho, hex, hey, Instr.storeAt, Instr.sureAddr, storeVar, Sem.run_bind, Sem.run_pure, Result.andThen_ok, run_sizeOf' hi, Sem.run_ite, ne_eq, hsz, not_true, if_false, hrun]
            have hset : (setMany e j y.cells).length = o'.s := by rw [length_setMany, hel]
            obtain ⟨p1, p2⟩ := st.upd ho' hb (o' := { o' with elems := o'.elems.set i' (setMany e j y.cells) }) rfl rfl (by simp) (w' := w.setRow b (cs.toList.take (i' * o'.s + j) ++ z.cells.toList ++ cs.toList.drop (i' * o'.s + j + z.cells.toList.length)).toArray) rfl rfl rfl (by simp) (fun k hk => setRow_other w b k _ hk) e2 (setRow_heap w b cs _ o'.e _ e2) (splice_size cs _ _ hk) (fun e' he' => by
              rcases List.mem_or_eq_of_mem_set he' with he' | rfl
              · exact e3 e' he'
              · exact hset) (fun i2 e' j2 q a1 a2 => by
              have hj2 : j2 < o'.s := by
                have hm := List.mem_of_getElem? a1
                have hl2 : e'.length = o'.s := by
                  rcases List.mem_or_eq_of_mem_set hm with hm | rfl
                  · exact e3 e' hm
                  · exact hset
                have := (List.getElem?_eq_some_iff.1 a2).1
                omega
              simp only
              rw [splice_get cs _ _ _ hk]
              by_cases hii : i' = i2
              · subst hii
                rw [List.getElem?_set_self hil] at a1
                cases a1
                rw [setMany_get _ _ _ _ (by omega)] at a2
                by_cases hin : j ≤ j2 ∧ j2 < j + y.cells.length
                · rw [if_pos hin] at a2
                  rw [if_pos (by omega)]
                  have hlt2 : j2 - j < z.cells.size := by omega
                  refine ⟨z.cells[j2 - j], ?_, l3 _ q _ a2 (Array.getElem?_eq_getElem hlt2), l2 q (List.mem_of_getElem? a2)⟩
                  rw [show i' * o'.s + j2 - (i' * o'.s + j) = j2 - j by omega]
                  simp [hlt2]
                · rw [if_neg hin] at a2
                  rw [if_neg (by omega)]
                  exact e4 i' e j2 q he a2
              · rw [List.getElem?_set_ne hii] at a1
                rw [if_neg ?_]
                · exact e4 i2 e' j2 q a1 a2
                · intro hin
                  rcases Nat.lt_or_gt_of_ne hii with hlt' | hlt'
                  · have := Nat.mul_le_mul_right o'.s hlt'
                    rw [Nat.succ_mul] at this; omega
                  · have := Nat.mul_le_mul_right o'.s hlt'
                    rw [Nat.succ_mul] at this; omega)
            exact ⟨_, m, p1, p2, hst⟩
        · cases h
      · cases h
    · cases h
  · cases h
end
end Go.Awp
/- Operations that write: append, their truth in the model. Generic in the program. -/
namespace Go.Awp
set_option linter.unusedSectionVars false
variable [Fx]
section
variable {P : Program} {n : Nat} {w : World} {m : AMap} {H : AHeap} {B : Nat} {env : AEnv} {a : Act} {o : Oper} {io : IOp}
/-- The cells of the elements that are appended, as a list of values. -/
theorem src_values {s : Nat} {ad : Option Addr} {els : List (List AV)} (hu : ∀ e, e ∈ els → e.length = s) (hf : els ≠ [] → ∃ b off, ad = some ⟨b, off, none⟩ ∧ FC w m H B els.flatten fun k => w.cell? ⟨b, off + k, none⟩) (hne : els ≠ []) :
    ∃ (x : Addr) (news : List Value), ad = some x ∧ news.length = els.length * s ∧ (∀ j u, news[j]? = some u → w.cell? (x.add j) = some u) ∧ (∀ u ∈ news, u.oneCell' = true) ∧ FC w m H B els.flatten fun k => news[k]? := by
  obtain ⟨b, off, had, hc⟩ := hf hne
  have hl := flatten_length els hu
  have key : ∀ k, k < els.length * s → ∃ v, w.cell? ⟨b, off + k, none⟩ = some v ∧ RV w m H B (els.flatten[k]!) v ∧ (els.flatten[k]!).one = true := by
    intro k hk
    have h1 : els.flatten[k]? = some (els.flatten[k]'(by omega)) := List.getElem?_eq_getElem _
    obtain ⟨v, q1, q2, q3⟩ := hc k _ h1
    rw [getElem!_pos els.flatten k (by omega)]
    exact ⟨v, q1, q2, q3⟩
  let news := (List.range (els.length * s)).map fun k => (w.cell? ⟨b, off + k, none⟩).getD undef
  have hget : ∀ j, j < els.length * s → news[j]? = w.cell? ⟨b, off + j, none⟩ := by
    intro j hj
    obtain ⟨v, q1, _⟩ := key j hj
    simp [news, hj, q1]
  refine ⟨_, news, had, by simp [news], fun j u hj => ?_, fun u hu' => ?_, fun k x hk => ?_⟩
  · have hlt : j < els.length * s := by
      have := (List.getElem?_eq_some_iff.1 hj).1
      simpa [news] using this
    rw [add_none, ← hget j hlt]; exact hj
  · obtain ⟨j, hj⟩ := List.mem_iff_getElem?.1 hu'
    have hlt : j < els.length * s := by
      have := (List.getElem?_eq_some_iff.1 hj).1
      simpa [news] using this
    obtain ⟨v, q1, q2, q3⟩ := key j hlt
    rw [hget j hlt, q1] at hj
    cases hj
    rw [q2.one_eq]; exact q3
  · have hlt : k < els.length * s := by
      have := (List.getElem?_eq_some_iff.1 hk).1
      omega
    obtain ⟨v, q1, q2, q3⟩ := hc k x hk
    exact ⟨v, by show news[k]? = _; rw [hget k hlt]; exact q1, q2, q3⟩
theorem run_append_zero {t e ty : TypeId} {i : TypeInfo} (ht : P.underlying t = some (.slice e)) (hi : P.info? e = some i) (ad : Option Addr) (len cap : Nat) (hle : len ≤ cap) (bd : Option Addr) (c : Nat) :
    (Builtin.append_ #[t, t] ty #[.slice ad len cap, .slice bd 0 c]).run P w = .ok (.slice ad len cap) w := by
  cases ad <;> cases bd <;> simp [Builtin.append_, run_underlying ht, sizeOf, typeInfo, hi, Builtin.lenOf, Builtin.firstCells, loadCells, loadCellsFrom, storeCells, hle]
theorem obj_set_self {H : AHeap} {h : Nat} {o : AObj} (ho : AHeap.obj H h = some o) : H.set h (some o) = H := by
  have hlt := AHeap.obj_lt ho
  apply List.ext_getElem?
  intro k
  by_cases hk : h = k
  · subst hk
    rw [List.getElem?_set_self hlt]
    unfold AHeap.obj at ho
    rw [List.getElem?_eq_getElem hlt] at ho ⊢
    simp at ho
    rw [ho]
  · rw [List.getElem?_set_ne hk]
theorem append_ok {t e : TypeId} {x y : Operand} {i : TypeInfo} {z : Value} (ht : P.underlying t = some (.slice e)) (hi : P.info? e = some i) (hz : i.zero = some z) (hzs : z.cells.size = i.size) 
    (ho : o.op = .call { callee := .builtin .append, args := #[x, y], argTypes := #[t, t] }) (st : St w m H B) (fr : FR n w m H B env a) {r : Option AV × AHeap} (h : sstep (.append e i.size i.bytes x y) env H = some r) : SOK P o a w m H B r := by
  have ex : ∀ {v : Value} {w' : World}, (Builtin.append_ #[t, t] o.type #[a.eval x, a.eval y]).run P w = .ok v w' → (execOp a.eval o).run P w = .ok (.value v) w' := by
    intro v w' hr
    simp [execOp, ho, resolve, invoke, builtin, hr]
  simp only [sstep] at h
  split at h
  · rename_i xv yv hx hy
    have hxv := ev_sound fr hx
    have hyv := ev_sound fr hy
    generalize hex : a.eval x = u at hxv ex
    generalize hey : a.eval y = q at hyv ex
    split at h
    · rename_i els hsrc
      obtain ⟨ad, cap, rfl, hu, hlc, hnone, hcells⟩ := asrc_sound st hyv hsrc
      split at h
      · obtain ⟨ad1, rfl⟩ : ∃ ad1, u = .slice ad1 0 0 := by cases hxv; exact ⟨_, rfl⟩
        split at h
        · rename_i h0
          cases h
          refine ⟨w, m, st, Adv.refl _ _ _, .slice ad1 0 0, ex ?_, .nilSlice _⟩
          rw [h0]
          exact run_append_zero ht hi ad1 0 0 (Nat.le_refl _) ad cap
        · rename_i h0
          split at h
          · rename_i hc
            cases h
            have hne : els ≠ [] := fun e => h0 (by rw [e]; rfl)
            obtain ⟨xa, news, rfl, n1, n2, n3, n4⟩ := src_values hu hcells hne
            have hr : (Builtin.append_ #[t, t] o.type #[.slice ad1 0 0, .slice (some xa) els.length cap]).run P w = .ok (.slice (some ⟨w.heap.size, 0, none⟩) els.length (grownCap w els.length 0 e)) (w.drew.alloc (.cells (news.toArray ++ Builtin.zeroCells z.cells (grownCap w els.length 0 e - els.length)) e)) := by
              cases ad1 with
              | none => exact run_append_nil (P := P) w t o.type e i z ht hi hz xa els.length cap news n1 n2 (by omega) (by omega) (by omega)
              | some a1 =>
                have := run_append_grow (P := P) w t o.type e i z ht hi hz a1 0 0 [] (by simp) (by simp) xa els.length cap news n1 n2 (by omega) (by omega) (growslice_fits (by omega) (by rw [Nat.zero_add]; omega))
                simpa using this
            obtain ⟨p1, p2⟩ := st.push [some ⟨e, i.size, els⟩]
            have hm := st.fresh
            have hge := grownCap_ge w els.length 0 e
            have hle := grownCap_le_maxLen w els.length 0 e (by unfold maxLen; omega)
            obtain ⟨q1, q2, q3⟩ := arr_ok p1 (h := H.length) AHeap.obj_push_eq hm hu (w1 := w.drew) rfl rfl rfl rfl hge hle (vs := news.toArray ++ Builtin.zeroCells z.cells (grownCap w els.length 0 e - els.length)) (by
              rw [Array.size_append, size_zeroCells, hzs, List.size_toArray, n1, ← Nat.add_mul]; congr 1; omega) (fun i' el j x' a1 a2 => by
              obtain ⟨v, b1, b2, b3⟩ := FC.nested hu n4 i' el j x' a1 a2
              refine ⟨v, ?_, b2.mono p2, b3⟩
              have := (List.getElem?_eq_some_iff.1 b1).1
              rw [Array.getElem?_append_left (by simpa using this)]
              simpa using b1)
            exact ⟨_, _, q1, p2.trans q2, _, ex hr, q3⟩
          · cases h
      · rename_i h' ver i0 len
        split at h
        · rename_i o' ho'
          split at h
          · rename_i hc
            obtain ⟨c1, c2, c3, c4, c5, c6, c7⟩ := hc
            cases h
            subst c2 c4
            cases hxv with
            | own _ _ _ _ ad0 len0 cap0 hlt hh =>
              obtain ⟨hv1, hv2⟩ := hh o' ho'
              obtain ⟨b, q1, q2, q3, q4, q5, q6, q7⟩ := hv2 c1
              have had := q2 (.inr rfl)
              subst had q3
              simp only [Nat.zero_mul] at *
              obtain ⟨g1, g2, o2, cs, e1, e2, e3, e4⟩ := st.dom h' b q1
              rw [ho'] at e1; cases e1
              have hcs : cs.size = cap0 * o'.s := by
                have := q7
                simp only [World.shape?, e2] at this
                simp at this
                omega
              by_cases hnil : els = []
              · subst hnil
                simp only [List.length_nil, Nat.add_zero, List.append_nil]
                have hset : H.set h' (some o') = H := by
                  apply List.ext_getElem?
                  intro k
                  by_cases hk : h' = k
                  · subst hk
                    rw [List.getElem?_set_self hlt]
                    unfold AHeap.obj at ho'
                    rw [List.getElem?_eq_getElem hlt] at ho' ⊢
                    simp at ho'
                    rw [ho']
                  · rw [List.getElem?_set_ne hk]
                rw [show ({ o' with elems := o'.elems } : AObj) = o' from rfl, hset]
                refine ⟨w, m, st, Adv.refl _ _ _, _, ex (run_append_zero ht hi _ len0 cap0 q5 ad cap), ?_⟩
                rw [c3]
                refine .own _ _ _ _ _ _ _ hlt fun o3 ho3 => ?_
                rw [ho'] at ho3; cases ho3
                exact ⟨hv1, fun _ => ⟨b, q1, fun _ => by simp, rfl, by omega, by omega, q6, by rw [Nat.zero_add]; rw [Nat.zero_add] at q7; exact q7⟩⟩
              · obtain ⟨xa, news, rfl, n1, n2, n3, n4⟩ := src_values hu hcells hnil
                have hpos : 0 < els.length := by
                  rcases Nat.eq_zero_or_pos els.length with h0 | h0
                  · exact absurd (List.eq_nil_of_length_eq_zero h0) hnil
                  · exact h0
                have hlen : o'.elems.length = len0 := by omega
                have hu' : ∀ e', e' ∈ o'.elems ++ els → e'.length = i.size := by
                  intro e' he'
                  rcases List.mem_append.1 he' with he' | he'
                  · exact (e3 e' he').trans c5.symm
                  · exact hu e' he'
                have hflat : (o'.elems ++ els).flatten = o'.elems.flatten ++ els.flatten := List.flatten_append
                have hl1 : o'.elems.flatten.length = len0 * i.size := by rw [flatten_length (s := i.size) o'.elems (fun e' he' => (e3 e' he').trans c5.symm), hlen]
                have hold : FC w m H B o'.elems.flatten fun k => cs[k]? := FC.flat (s := o'.s) e3 e4
                by_cases hroom : len0 + els.length ≤ cap0
                · have hfit : len0 * i.size + news.length ≤ cs.size := by
                    rw [n1, hcs, ← c5, ← Nat.add_mul]; exact Nat.mul_le_mul_right _ hroom
                  have hr := run_append_room (P := P) w t o.type o'.e i ht hi b len0 cap0 cs e2 xa els.length cap news n1 n2 n3 hroom hfit
                  obtain ⟨p1, p2⟩ := st.upd ho' q1 (o' := { o' with elems := o'.elems ++ els }) rfl rfl (by simp) (w' := w.setRow b (cs.toList.take (len0 * i.size) ++ news ++ cs.toList.drop (len0 * i.size + news.length)).toArray) rfl rfl rfl (by simp) (fun k hk => setRow_other w b k _ hk) e2 (setRow_heap w b cs _ o'.e _ e2) (splice_size cs _ _ hfit) (fun e' he' => (hu' e' he').trans c5) (fun i2 e' j2 q a1 a2 => by
                    have hfc : FC w m H B (o'.elems ++ els).flatten fun k => (cs.toList.take (len0 * i.size) ++ news ++ cs.toList.drop (len0 * i.size + news.length)).toArray[k]? := by
                      intro k x' hk
                      simp only
                      rw [hflat] at hk
                      rw [splice_get cs _ _ _ hfit]
                      rcases Nat.lt_or_ge k (len0 * i.size) with h1 | h1
                      · rw [List.getElem?_append_left (by omega)] at hk
                        rw [if_neg (by omega)]
                        exact hold k x' hk
                      · rw [List.getElem?_append_right (by omega), hl1] at hk
                        have hk2 := (List.getElem?_eq_some_iff.1 hk).1
                        rw [flatten_length els hu] at hk2
                        rw [if_pos (by omega)]
                        exact n4 _ x' hk
                    have := FC.nested hu' hfc i2 e' j2 q a1 a2
                    have e5 : i2 * i.size + j2 = i2 * o'.s + j2 := by rw [c5]
                    rw [e5] at this
                    exact this)
                  refine ⟨_, m, p1, p2, _, ex hr, ?_⟩
                  rw [c3]
                  have hlt' : h' < (H.set h' (some { o' with elems := o'.elems ++ els })).length := by simpa using hlt
                  refine .own _ _ _ _ _ _ _ hlt' fun o3 ho3 => ?_
                  rw [AHeap.obj_set_eq hlt] at ho3
                  cases ho3
                  refine ⟨by simp; omega, fun _ => ⟨b, q1, fun _ => by simp, by omega, by omega, by omega, q6, ?_⟩⟩
                  simp [World.shape?, setRow_heap w b cs _ o'.e _ e2]
                  rw [← hcs]
                  have := splice_size cs news (len0 * i.size) hfit
                  rw [c3] at this
                  simpa using this
                · have hvals : ∃ olds : List Value, olds.length = len0 * i.size ∧ (∀ j u, olds[j]? = some u → w.cell? ((⟨b, 0, none⟩ : Addr).add j) = some u) ∧ ∀ k, k < len0 * i.size → olds[k]? = cs[k]? := by
                    have hle : len0 * i.size ≤ cs.size := by rw [hcs, ← c5]; exact Nat.mul_le_mul_right _ q5
                    refine ⟨cs.toList.take (len0 * i.size), by simp; omega, fun j u hj => ?_, fun k hk => by rw [List.getElem?_take_of_lt hk, Array.getElem?_toList]⟩
                    have hjl := (List.getElem?_eq_some_iff.1 hj).1
                    simp at hjl
                    rw [List.getElem?_take_of_lt (by omega), Array.getElem?_toList] at hj
                    rw [add_none]
                    simp [World.cell?, e2, hj]
                  obtain ⟨olds, m1, m2, m3⟩ := hvals
                  have hr := run_append_grow (P := P) w t o.type o'.e i z ht hi hz ⟨b, 0, none⟩ len0 cap0 olds m1 m2 xa els.length cap news n1 n2 (by omega) (by omega) (growslice_fits (by omega) (by omega))
                  have hge := grownCap_ge w (len0 + els.length) cap0 o'.e
                  have hle := grownCap_le_maxLen w (len0 + els.length) cap0 o'.e (by unfold maxLen; omega)
                  obtain ⟨p1, p2⟩ := st.drop ho' (some { o' with elems := o'.elems ++ els }) (fun o1 e => by cases e; exact ⟨rfl, rfl, by simp; omega⟩) (st.noP q1)
                  have ho2 : AHeap.obj (H.set h' (some { o' with elems := o'.elems ++ els })) h' = some ⟨o'.e, i.size, o'.elems ++ els⟩ := by
                    rw [AHeap.obj_set_eq hlt, c5]
                  have hm : AMap.without m h' h' = none ∧ AMap.without m h' (.p h') = none := ⟨by simp [AMap.without], by rw [AMap.without_p]; exact st.noP q1⟩
                  obtain ⟨r1, r2, r3⟩ := arr_ok p1 (h := h') ho2 hm hu' (w1 := w.drew) rfl rfl rfl rfl (cap := grownCap w (len0 + els.length) cap0 o'.e) (by rw [List.length_append, hlen]; exact hge) hle (vs := olds.toArray ++ news.toArray ++ Builtin.zeroCells z.cells (grownCap w (len0 + els.length) cap0 o'.e - (len0 + els.length))) (by
                    rw [Array.size_append, Array.size_append, size_zeroCells, hzs, List.size_toArray, List.size_toArray, n1, m1, ← Nat.add_mul, ← Nat.add_mul]; congr 1; omega) (fun i2 e' j2 q a1 a2 => by
                    have hfc : FC w m H B (o'.elems ++ els).flatten fun k => (olds.toArray ++ news.toArray ++ Builtin.zeroCells z.cells (grownCap w (len0 + els.length) cap0 o'.e - (len0 + els.length)))[k]? := by
                      intro k x' hk
                      simp only
                      rw [hflat] at hk
                      rcases Nat.lt_or_ge k (len0 * i.size) with h1 | h1
                      · rw [List.getElem?_append_left (by omega)] at hk
                        rw [Array.append_assoc, Array.getElem?_append_left (by simp; omega)]
                        obtain ⟨v, b1, b2⟩ := hold k x' hk
                        refine ⟨v, ?_, b2⟩
                        have := m3 k h1
                        simp only [List.getElem?_toArray]
                        rw [this]; exact b1
                      · rw [List.getElem?_append_right (by omega), hl1] at hk
                        have hk2 := (List.getElem?_eq_some_iff.1 hk).1
                        rw [flatten_length els hu] at hk2
                        obtain ⟨v, b1, b2⟩ := n4 _ x' hk
                        refine ⟨v, ?_, b2⟩
                        rw [Array.getElem?_append_left (by simp; omega), Array.getElem?_append_right (by simp; omega)]
                        simp only [List.size_toArray, List.getElem?_toArray, m1]
                        exact b1
                    obtain ⟨v, b1, b2, b3⟩ := FC.nested hu' hfc i2 e' j2 q a1 a2
                    exact ⟨v, b1, b2.mono p2, b3⟩)
                  refine ⟨_, _, r1, p2.trans r2, _, ex hr, ?_⟩
                  rw [List.length_append, hlen] at r3
                  rw [c3]
                  rw [← c3] at *
                  exact r3
          · split at h
            · rename_i hc
              obtain ⟨c1, c2, c4, c5, c6, c7⟩ := hc
              cases h
              subst c2 c4
              cases hxv with
              | own _ _ _ _ ad0 len0 cap0 hlt hh =>
                obtain ⟨hv1, hv2⟩ := hh o' ho'
                obtain ⟨b, q1, q2, q3, q4, q5, q6, q7⟩ := hv2 c1
                have had := q2 (.inr rfl)
                subst had q3
                simp only [Nat.zero_mul] at *
                have hroom0 := own_room st ho' q1 (by omega) q7 (by omega)
                obtain ⟨g1, g2, o2, cs, e1, e2, e3, e4⟩ := st.dom h' b q1
                rw [ho'] at e1; cases e1
                have hcs : cs.size = cap0 * o'.s := by
                  have := q7
                  simp only [World.shape?, e2] at this
                  simp at this
                  omega
                by_cases hnil : els = []
                · subst hnil
                  simp only [List.length_nil, Nat.add_zero, List.append_nil, List.take_append_drop]
                  rw [show ({ o' with elems := o'.elems } : AObj) = o' from rfl, obj_set_self ho']
                  refine ⟨w, m, st, Adv.refl _ _ _, _, ex (run_append_zero ht hi _ len0 cap0 q5 ad cap), ?_⟩
                  refine .own _ _ _ _ _ _ _ hlt fun o3 ho3 => ?_
                  rw [ho'] at ho3; cases ho3
                  exact ⟨hv1, fun _ => ⟨b, q1, fun _ => by simp, rfl, by omega, by omega, q6, by rw [Nat.zero_add]; rw [Nat.zero_add] at q7; exact q7⟩⟩
                · obtain ⟨xa, news, rfl, n1, n2, n3, n4⟩ := src_values hu hcells hnil
                  have hroom : len0 + els.length ≤ cap0 := by omega
                  have hfit : len0 * i.size + news.length ≤ cs.size := by
                    rw [n1, hcs, ← c5, ← Nat.add_mul]; exact Nat.mul_le_mul_right _ hroom
                  have hr := run_append_room (P := P) w t o.type o'.e i ht hi b len0 cap0 cs e2 xa els.length cap news n1 n2 n3 hroom hfit
                  have hnl : (o'.elems.take len0 ++ els ++ o'.elems.drop (len0 + els.length)).length = o'.elems.length := by simp; omega
                  have hu' : ∀ e', e' ∈ o'.elems.take len0 ++ els ++ o'.elems.drop (len0 + els.length) → e'.length = o'.s := by
                    intro e' he'
                    rcases List.mem_append.1 he' with he' | he'
                    · rcases List.mem_append.1 he' with he' | he'
                      · exact e3 e' (List.mem_of_mem_take he')
                      · rw [← c5]; exact hu e' he'
                    · exact e3 e' (List.mem_of_mem_drop he')
                  obtain ⟨p1, p2⟩ := st.upd ho' q1 (o' := { o' with elems := o'.elems.take len0 ++ els ++ o'.elems.drop (len0 + els.length) }) rfl rfl (by rw [hnl]; exact Nat.le_refl _) (w' := w.setRow b (cs.toList.take (len0 * i.size) ++ news ++ cs.toList.drop (len0 * i.size + news.length)).toArray) rfl rfl rfl (by simp) (fun k hk => setRow_other w b k _ hk) e2 (setRow_heap w b cs _ o'.e _ e2) (splice_size cs _ _ hfit) hu' (fun i2 e' j2 q a1 a2 => by
                    have hj2 : j2 < o'.s := by
                      have := hu' e' (List.mem_of_getElem? a1)
                      have := (List.getElem?_eq_some_iff.1 a2).1
                      omega
                    simp only
                    rw [splice_get cs _ _ _ hfit, n1]
                    have hlt0 : (o'.elems.take len0).length = len0 := by simp; omega
                    have hlt1 : (o'.elems.take len0 ++ els).length = len0 + els.length := by simp; omega
                    rcases Nat.lt_or_ge i2 len0 with hA | hA
                    · have hm := Nat.mul_le_mul_right o'.s hA
                      rw [Nat.succ_mul] at hm
                      rw [if_neg (by rw [c5]; omega)]
                      rw [List.getElem?_append_left (by omega), List.getElem?_append_left (by omega), List.getElem?_take_of_lt hA] at a1
                      exact e4 i2 e' j2 q a1 a2
                    · rcases Nat.lt_or_ge i2 (len0 + els.length) with hB | hB
                      · rw [List.getElem?_append_left (by omega), List.getElem?_append_right (by omega), hlt0] at a1
                        have hm := Nat.mul_le_mul_right o'.s hA
                        have hm2 := Nat.mul_le_mul_right o'.s hB
                        rw [Nat.succ_mul, Nat.add_mul] at hm2
                        rw [if_pos (by rw [c5]; omega)]
                        obtain ⟨v, b1, b2, b3⟩ := FC.nested hu n4 (i2 - len0) e' j2 q a1 a2
                        refine ⟨v, ?_, b2, b3⟩
                        have hsub : i2 * o'.s + j2 - len0 * i.size = (i2 - len0) * i.size + j2 := by
                          rw [c5, Nat.sub_mul]; omega
                        rw [hsub]; exact b1
                      · have hm2 := Nat.mul_le_mul_right o'.s hB
                        rw [Nat.add_mul] at hm2
                        rw [if_neg (by rw [c5]; omega)]
                        rw [List.getElem?_append_right (by omega), hlt1, List.getElem?_drop, show len0 + els.length + (i2 - (len0 + els.length)) = i2 by omega] at a1
                        exact e4 i2 e' j2 q a1 a2)
                  refine ⟨_, m, p1, p2, _, ex hr, ?_⟩
                  have hlt' : h' < (H.set h' (some { o' with elems := o'.elems.take len0 ++ els ++ o'.elems.drop (len0 + els.length) })).length := by simpa using hlt
                  refine .own _ _ _ _ _ _ _ hlt' fun o3 ho3 => ?_
                  rw [AHeap.obj_set_eq hlt] at ho3
                  cases ho3
                  refine ⟨by rw [hnl]; omega, fun _ => ⟨b, q1, fun _ => by simp, by omega, by omega, by omega, q6, ?_⟩⟩
                  simp [World.shape?, setRow_heap w b cs _ o'.e _ e2]
                  rw [← hcs]
                  have := splice_size cs news (len0 * i.size) hfit
                  simpa using this
            · cases h
        · cases h
      · rename_i l0
        split at h
        · rename_i h0
          cases h
          cases hxv with
          | full _ n0 ad1 hr =>
            refine ⟨w, m, st, Adv.refl _ _ _, .slice ad1 n0 n0, ex ?_, .full _ _ _ hr⟩
            rw [h0]
            exact run_append_zero ht hi ad1 n0 n0 (Nat.le_refl _) ad cap
        · rename_i h0
          split at h
          · rename_i hc
            obtain ⟨c1, c2, c3⟩ := hc
            cases h
            have hne : els ≠ [] := fun e => h0 (by rw [e]; rfl)
            obtain ⟨xa, news, rfl, n1, n2, n3, n4⟩ := src_values hu hcells hne
            cases hxv with
            | full _ n0 ad1 hrv =>
              obtain ⟨ad2, cap2, hv2, hu2, hlc2, hnone2, hcells2⟩ := asrc_sound st hrv (s := i.size) (els := l0) (by simp only [asrc]; rw [if_pos c1])
              have hn0 : n0 = l0.length := by injection hv2
              have had2 : ad2 = ad1 := by injection hv2 with h1; exact h1.symm
              subst had2
              subst hn0
              have huu : ∀ e', e' ∈ l0 ++ els → e'.length = i.size := fun e' he' => by
                rcases List.mem_append.1 he' with he' | he'
                · exact hu2 e' he'
                · exact hu e' he'
              obtain ⟨olds, m1, m2, m3⟩ : ∃ olds : List Value, olds.length = l0.length * i.size ∧ (∀ x1, ad2 = some x1 → ∀ j u, olds[j]? = some u → w.cell? (x1.add j) = some u) ∧ FC w m H B l0.flatten fun k => olds[k]? := by
                by_cases hl0 : l0 = []
                · subst hl0; exact ⟨[], by simp, fun _ _ j u hj => by simp at hj, fun k x hk => by simp at hk⟩
                · obtain ⟨xb, olds, hxb, o1, o2, o3, o4⟩ := src_values hu2 hcells2 hl0
                  exact ⟨olds, o1, fun x1 hx1 => by rw [hxb] at hx1; cases hx1; exact o2, o4⟩
              have hpos : 0 < els.length := by omega
              have hr : (Builtin.append_ #[t, t] o.type #[.slice ad2 l0.length l0.length, .slice (some xa) els.length cap]).run P w = .ok (.slice (some ⟨w.heap.size, 0, none⟩) (l0.length + els.length) (grownCap w (l0.length + els.length) l0.length e)) (w.drew.alloc (.cells (olds.toArray ++ news.toArray ++ Builtin.zeroCells z.cells (grownCap w (l0.length + els.length) l0.length e - (l0.length + els.length))) e)) := by
                cases ad2 with
                | none =>
                  have hz0 : l0.length = 0 := by have := hnone2 rfl; omega
                  have hl0 : l0 = [] := List.eq_nil_of_length_eq_zero hz0
                  subst hl0
                  have ho0 : olds = [] := List.eq_nil_of_length_eq_zero (by simpa using m1)
                  subst ho0
                  simp only [List.length_nil, Nat.zero_add] at c2 c3
                  have := run_append_nil (P := P) w t o.type e i z ht hi hz xa els.length cap news n1 n2 (by omega) (by omega) (by omega)
                  simpa using this
                | some a1 =>
                  exact run_append_grow (P := P) w t o.type e i z ht hi hz a1 l0.length l0.length olds m1 (m2 a1 rfl) xa els.length cap news n1 n2 (by omega) (by omega) (growslice_fits (by omega) (by omega))
              obtain ⟨p1, p2⟩ := st.push [some ⟨e, i.size, l0 ++ els⟩]
              have hm := st.fresh
              have hge := grownCap_ge w (l0.length + els.length) l0.length e
              have hle := grownCap_le_maxLen w (l0.length + els.length) l0.length e (by unfold maxLen; omega)
              have hl1 : l0.flatten.length = l0.length * i.size := flatten_length l0 hu2
              obtain ⟨q1, q2, q3⟩ := arr_ok p1 (h := H.length) AHeap.obj_push_eq hm huu (w1 := w.drew) rfl rfl rfl rfl (cap := grownCap w (l0.length + els.length) l0.length e) (by rw [List.length_append]; exact hge) hle (vs := olds.toArray ++ news.toArray ++ Builtin.zeroCells z.cells (grownCap w (l0.length + els.length) l0.length e - (l0.length + els.length))) (by
                rw [Array.size_append, Array.size_append, size_zeroCells, hzs, List.size_toArray, List.size_toArray, n1, m1, ← Nat.add_mul, ← Nat.add_mul]; congr 1; omega) (fun i2 e' j2 q a1 a2 => by
                have hfc : FC w m H B (l0 ++ els).flatten fun k => (olds.toArray ++ news.toArray ++ Builtin.zeroCells z.cells (grownCap w (l0.length + els.length) l0.length e - (l0.length + els.length)))[k]? := by
                  intro k x' hk
                  simp only
                  rw [List.flatten_append] at hk
                  rcases Nat.lt_or_ge k (l0.length * i.size) with h1 | h1
                  · rw [List.getElem?_append_left (by omega)] at hk
                    rw [Array.append_assoc, Array.getElem?_append_left (by simp; omega)]
                    obtain ⟨v, b1, b2⟩ := m3 k x' hk
                    exact ⟨v, by simpa using b1, b2⟩
                  · rw [List.getElem?_append_right (by omega), hl1] at hk
                    have hk2 := (List.getElem?_eq_some_iff.1 hk).1
                    rw [flatten_length els hu] at hk2
                    obtain ⟨v, b1, b2⟩ := n4 _ x' hk
                    refine ⟨v, ?_, b2⟩
                    rw [Array.getElem?_append_left (by simp; omega), Array.getElem?_append_right (by simp; omega)]
                    simp only [List.size_toArray, List.getElem?_toArray, m1]
                    exact b1
                obtain ⟨v, b1, b2, b3⟩ := FC.nested huu hfc i2 e' j2 q a1 a2
                exact ⟨v, b1, b2.mono p2, b3⟩)
              rw [List.length_append] at q3
              exact ⟨_, _, q1, p2.trans q2, _, ex hr, q3⟩
          · cases h
      · cases h
    · cases h
  · cases h
theorem run_copy_cells (w : World) (dT ty elem : TypeId) (g o dLen dCap : Nat) (a : Addr) (sLen sCap : Nat) (cur : Array Value) (t : TypeId) (cs : List Value) {i : TypeInfo}
    (hu : P.underlying dT = some (.slice elem)) (hq : P.info? elem = some i)
    (hg : w.heap[g]? = some (.cells cur t (0, 0))) (hn : cs.length = Nat.min sLen dLen * i.size)
    (hsrc : ∀ j v, cs[j]? = some v → w.cell? (a.add j) = some v) (hfit : o + cs.length ≤ cur.size) (h1 : ∀ v ∈ cs, v.oneCell' = true) :
    (Builtin.copy_ #[dT, dT] ty #[.slice (some ⟨g, o, none⟩) dLen dCap, .slice (some a) sLen sCap]).run P w =
      .ok (goInt (Nat.min sLen dLen)) (w.setRow g (cur.toList.take o ++ cs ++ cur.toList.drop (o + cs.length)).toArray) := by
  have hl := run_loadCells_list (P := P) w a cs hsrc
  have hst := run_storeCells_at P g o t cs 0 cur w hg (by simpa using hfit) h1
  simp [Builtin.copy_, run_underlying hu, Builtin.lenOf, Builtin.firstCells, sizeOf, typeInfo, hq, ← hn, hl, hst]
theorem run_copy_zero (w : World) (dT ty elem : TypeId) (ad bd : Option Addr) (dLen dCap sLen sCap : Nat) {i : TypeInfo}
    (hu : P.underlying dT = some (.slice elem)) (hq : P.info? elem = some i) (hn : Nat.min sLen dLen = 0) :
    (Builtin.copy_ #[dT, dT] ty #[.slice ad dLen dCap, .slice bd sLen sCap]).run P w = .ok (goInt 0) w := by
  cases ad <;> cases bd <;> simp [Builtin.copy_, run_underlying hu, Builtin.lenOf, Builtin.firstCells, sizeOf, typeInfo, hq, hn, loadCells, loadCellsFrom, storeCells]
theorem copy_ok {t e : TypeId} {x y : Operand} {i : TypeInfo} (ht : P.underlying t = some (.slice e)) (hi : P.info? e = some i)
    (ho : o.op = .call { callee := .builtin .copy, args := #[x, y], argTypes := #[t, t] }) (st : St w m H B) (fr : FR n w m H B env a) {r : Option AV × AHeap} (h : sstep (.copy i.size x y) env H = some r) : SOK P o a w m H B r := by
  have ex : ∀ {v : Value} {w' : World}, (Builtin.copy_ #[t, t] o.type #[a.eval x, a.eval y]).run P w = .ok v w' → (execOp a.eval o).run P w = .ok (.value v) w' := by
    intro v w' hr
    simp [execOp, ho, resolve, invoke, builtin, hr]
  simp only [sstep] at h
  split at h
  · rename_i h' ver i0 j0 s' len yv hx hy
    have hxv := ev_sound fr hx
    have hyv := ev_sound fr hy
    generalize hex : a.eval x = u at hxv ex
    generalize hey : a.eval y = q at hyv ex
    split at h
    · rename_i els hsrc
      obtain ⟨bd, cap, rfl, hu, hlc, hnone, hcells⟩ := asrc_sound st hyv hsrc
      split at h
      · rename_i o' ho'
        split at h
        · rename_i el hel
          split at h
          · rename_i hc
            obtain ⟨c1, c2, c3⟩ := hc
            cases h
            cases hxv with
            | sub _ _ _ _ _ _ ad n0 cap0 hlt hh =>
              obtain ⟨hv1, hv2⟩ := hh o' ho'
              obtain ⟨b, q1, q2, q3, q4⟩ := hv2 c1
              subst q3
              obtain ⟨g1, g2, o2, cs, e1, e2, e3, e4⟩ := st.dom h' b q1
              rw [ho'] at e1; cases e1
              have hmin : Nat.min els.length n0 = min els.length n0 := rfl
              by_cases hz : Nat.min els.length n0 = 0
              · rw [hz]
                have hset : o'.elems.set i0 el = o'.elems := by
                  obtain ⟨hi0, rfl⟩ := List.getElem?_eq_some_iff.1 hel
                  exact List.set_getElem_self hi0
                simp only [List.take_zero, List.flatten_nil, setMany, hset]
                rw [show ({ o' with elems := o'.elems } : AObj) = o' from rfl, obj_set_self ho']
                exact ⟨w, m, st, Adv.refl _ _ _, _, ex (run_copy_zero w t o.type e (some ad) bd n0 cap0 els.length cap ht hi hz), .int _ _⟩
              · generalize hk : Nat.min els.length n0 = k at hz c3
                have hk1 : k ≤ els.length := by omega
                have hk2 : k ≤ n0 := by omega
                have hne : els ≠ [] := fun e => by subst e; simp at hk1; omega
                obtain ⟨xa, news, rfl, n1, n2, n3, n4⟩ := src_values hu hcells hne
                have had := q2 (by omega)
                subst had
                have hi0 : i0 < o'.elems.length := (List.getElem?_eq_some_iff.1 hel).1
                have hell : el.length = o'.s := e3 el (List.mem_of_getElem? hel)
                have hfit0 := block_fits e3 e4
                have hks : k * i.size ≤ els.length * i.size := Nat.mul_le_mul_right _ hk1
                have hcl : (news.take (k * i.size)).length = k * i.size := by simp; omega
                have hb1 : i0 * o'.s + o'.s ≤ o'.elems.length * o'.s := by rw [← Nat.succ_mul]; exact Nat.mul_le_mul_right _ hi0
                have hfit : i0 * o'.s + j0 + (news.take (k * i.size)).length ≤ cs.size := by
                  rw [hcl]; omega
                have hr := run_copy_cells (P := P) w t o.type e b (i0 * o'.s + j0) n0 cap0 xa els.length cap cs o'.e (news.take (k * i.size)) ht hi e2 (by rw [hcl, hk]) (fun j v hj => by
                  rw [List.getElem?_take] at hj
                  split at hj
                  · exact n2 j v hj
                  · cases hj) hfit (fun v hv => n3 v (List.mem_of_mem_take hv))
                rw [hk] at hr
                have hfl : (els.take k).flatten.length = k * i.size := by
                  rw [flatten_length (s := i.size) _ fun e he => hu e (List.mem_of_mem_take he), List.length_take, Nat.min_eq_left hk1]
                have hpre : ∀ q, q < k * i.size → (els.take k).flatten[q]? = els.flatten[q]? := by
                  intro q hq
                  conv => rhs; rw [← List.take_append_drop k els]
                  rw [List.flatten_append, List.getElem?_append_left (by rw [hfl]; exact hq)]
                have hu' : ∀ e', e' ∈ o'.elems.set i0 (setMany el j0 (els.take k).flatten) → e'.length = o'.s := by
                  intro e' he'
                  rcases List.mem_or_eq_of_mem_set he' with he' | rfl
                  · exact e3 e' he'
                  · rw [length_setMany]; exact hell
                obtain ⟨p1, p2⟩ := st.upd ho' q1 (o' := { o' with elems := o'.elems.set i0 (setMany el j0 (els.take k).flatten) }) rfl rfl (by simp) (w' := w.setRow b (cs.toList.take (i0 * o'.s + j0) ++ news.take (k * i.size) ++ cs.toList.drop (i0 * o'.s + j0 + (news.take (k * i.size)).length)).toArray) rfl rfl rfl (by simp) (fun k hk => setRow_other w b k _ hk) e2 (setRow_heap w b cs _ o'.e _ e2) (splice_size cs _ _ hfit) hu' (fun i2 e' j2 q a1 a2 => by
                  have hj2 : j2 < o'.s := by
                    have := hu' e' (List.mem_of_getElem? a1)
                    have := (List.getElem?_eq_some_iff.1 a2).1
                    omega
                  simp only
                  rw [splice_get cs _ _ _ hfit, hcl]
                  by_cases hi2 : i0 = i2
                  · subst hi2
                    rw [List.getElem?_set_self hi0] at a1
                    cases a1
                    rw [setMany_get _ _ _ _ (by rw [hfl]; exact c3), hfl] at a2
                    by_cases hin : j0 ≤ j2 ∧ j2 < j0 + k * i.size
                    · rw [if_pos hin, hpre _ (by omega)] at a2
                      rw [if_pos (by omega)]
                      obtain ⟨v, b1, b2, b3⟩ := n4 _ q a2
                      refine ⟨v, ?_, b2, b3⟩
                      rw [show i0 * o'.s + j2 - (i0 * o'.s + j0) = j2 - j0 by omega, List.getElem?_take_of_lt (by omega)]
                      exact b1
                    · rw [if_neg hin] at a2
                      rw [if_neg (by omega)]
                      exact e4 i0 el j2 q hel a2
                  · rw [List.getElem?_set_ne hi2] at a1
                    have hout : ¬ (i0 * o'.s + j0 ≤ i2 * o'.s + j2 ∧ i2 * o'.s + j2 < i0 * o'.s + j0 + k * i.size) := by
                      rcases Nat.lt_or_gt_of_ne hi2 with hA | hA
                      · have hm := Nat.mul_le_mul_right o'.s hA
                        rw [Nat.succ_mul] at hm
                        omega
                      · have hm := Nat.mul_le_mul_right o'.s hA
                        rw [Nat.succ_mul] at hm
                        omega
                    rw [if_neg hout]
                    exact e4 i2 e' j2 q a1 a2)
                exact ⟨_, m, p1, p2, _, ex hr, .int _ _⟩
          · cases h
        · cases h
      · cases h
    · cases h
  · rename_i h' ver i0 len yv hx hy
    have hxv := ev_sound fr hx
    have hyv := ev_sound fr hy
    generalize hex : a.eval x = u at hxv ex
    generalize hey : a.eval y = q at hyv ex
    split at h
    · rename_i els hsrc
      obtain ⟨bd, cap, rfl, hu, hlc, hnone, hcells⟩ := asrc_sound st hyv hsrc
      split at h
      · rename_i o' ho'
        split at h
        · rename_i hc
          obtain ⟨c1, c2⟩ := hc
          cases h
          cases hxv with
          | own _ _ _ _ ad n0 cap0 hlt hh =>
            obtain ⟨hv1, hv2⟩ := hh o' ho'
            obtain ⟨b, q1, q2, q3, q4, q5, q6, q7⟩ := hv2 c1
            subst q3
            obtain ⟨g1, g2, o2, cs, e1, e2, e3, e4⟩ := st.dom h' b q1
            rw [ho'] at e1; cases e1
            have hmin : Nat.min els.length n0 = min els.length n0 := rfl
            by_cases hz : Nat.min els.length n0 = 0
            · rw [hz]
              simp only [List.take_zero, List.append_nil, Nat.add_zero, List.take_append_drop]
              rw [show ({ o' with elems := o'.elems } : AObj) = o' from rfl, obj_set_self ho']
              exact ⟨w, m, st, Adv.refl _ _ _, _, ex (run_copy_zero w t o.type e ad bd n0 cap0 els.length cap ht hi hz), .int _ _⟩
            · generalize hk : Nat.min els.length n0 = k at hz
              have hk1 : k ≤ els.length := by omega
              have hk2 : k ≤ n0 := by omega
              have hne : els ≠ [] := fun e => by subst e; simp at hk1; omega
              obtain ⟨xa, news, rfl, n1, n2, n3, n4⟩ := src_values hu hcells hne
              have had := q2 (.inl (by omega))
              subst had
              have hfit0 := block_fits e3 e4
              have hks : k * i.size ≤ els.length * i.size := Nat.mul_le_mul_right _ hk1
              have hcl : (news.take (k * i.size)).length = k * i.size := by simp; omega
              have hb1 : (i0 + k) * o'.s ≤ o'.elems.length * o'.s := Nat.mul_le_mul_right _ (by omega)
              have hfit : i0 * o'.s + (news.take (k * i.size)).length ≤ cs.size := by
                rw [hcl, c2, ← Nat.add_mul]; omega
              have hr := run_copy_cells (P := P) w t o.type e b (i0 * o'.s) n0 cap0 xa els.length cap cs o'.e (news.take (k * i.size)) ht hi e2 (by rw [hcl, hk]) (fun j v hj => by
                rw [List.getElem?_take] at hj
                split at hj
                · exact n2 j v hj
                · cases hj) hfit (fun v hv => n3 v (List.mem_of_mem_take hv))
              rw [hk] at hr
              have hnl : (o'.elems.take i0 ++ els.take k ++ o'.elems.drop (i0 + k)).length = o'.elems.length := by simp; omega
              have hu' : ∀ e', e' ∈ o'.elems.take i0 ++ els.take k ++ o'.elems.drop (i0 + k) → e'.length = o'.s := by
                intro e' he'
                rcases List.mem_append.1 he' with he' | he'
                · rcases List.mem_append.1 he' with he' | he'
                  · exact e3 e' (List.mem_of_mem_take he')
                  · rw [← c2]; exact hu e' (List.mem_of_mem_take he')
                · exact e3 e' (List.mem_of_mem_drop he')
              obtain ⟨p1, p2⟩ := st.upd ho' q1 (o' := { o' with elems := o'.elems.take i0 ++ els.take k ++ o'.elems.drop (i0 + k) }) rfl rfl (by rw [hnl]; exact Nat.le_refl _) (w' := w.setRow b (cs.toList.take (i0 * o'.s) ++ news.take (k * i.size) ++ cs.toList.drop (i0 * o'.s + (news.take (k * i.size)).length)).toArray) rfl rfl rfl (by simp) (fun k hk => setRow_other w b k _ hk) e2 (setRow_heap w b cs _ o'.e _ e2) (splice_size cs _ _ hfit) hu' (fun i2 e' j2 q a1 a2 => by
                have hj2 : j2 < o'.s := by
                  have := hu' e' (List.mem_of_getElem? a1)
                  have := (List.getElem?_eq_some_iff.1 a2).1
                  omega
                simp only
                rw [splice_get cs _ _ _ hfit, hcl]
                have hlt0 : (o'.elems.take i0).length = i0 := by simp; omega
                have hlt1 : (o'.elems.take i0 ++ els.take k).length = i0 + k := by simp; omega
                rcases Nat.lt_or_ge i2 i0 with hA | hA
                · have hm := Nat.mul_le_mul_right o'.s hA
                  rw [Nat.succ_mul] at hm
                  rw [if_neg (by omega)]
                  rw [List.getElem?_append_left (by omega), List.getElem?_append_left (by omega), List.getElem?_take_of_lt hA] at a1
                  exact e4 i2 e' j2 q a1 a2
                · rcases Nat.lt_or_ge i2 (i0 + k) with hB | hB
                  · rw [List.getElem?_append_left (by omega), List.getElem?_append_right (by omega), hlt0, List.getElem?_take_of_lt (by omega)] at a1
                    have hm := Nat.mul_le_mul_right o'.s hA
                    have hm2 := Nat.mul_le_mul_right o'.s hB
                    rw [Nat.succ_mul, Nat.add_mul] at hm2
                    rw [if_pos (by rw [c2]; omega)]
                    obtain ⟨v, b1, b2, b3⟩ := FC.nested hu n4 (i2 - i0) e' j2 q a1 a2
                    refine ⟨v, ?_, b2, b3⟩
                    have hsub : i2 * o'.s + j2 - i0 * o'.s = (i2 - i0) * i.size + j2 := by
                      rw [c2, Nat.sub_mul]; omega
                    rw [hsub, List.getElem?_take_of_lt]
                    · exact b1
                    · rw [← hsub, c2]; omega
                  · have hm2 := Nat.mul_le_mul_right o'.s hB
                    rw [Nat.add_mul] at hm2
                    rw [if_neg (by rw [c2]; omega)]
                    rw [List.getElem?_append_right (by omega), hlt1, List.getElem?_drop, show i0 + k + (i2 - (i0 + k)) = i2 by omega] at a1
                    exact e4 i2 e' j2 q a1 a2)
              exact ⟨_, m, p1, p2, _, ex hr, .int _ _⟩
        · cases h
      · cases h
    · cases h
  · cases h
theorem clear_ok {t e : TypeId} {x : Operand} {i : TypeInfo} {z : Value} {y : AV} (ht : P.underlying t = some (.slice e)) (hi : P.info? e = some i) (hz : i.zero = some z) (hcz : cst z = some y) (h1 : y.cells.all AV.one = true) (hyl : y.cells.length = i.size) (hzs : z.cells.size = i.size) (hs : 0 < i.size)
    (ho : o.op = .call { callee := .builtin .clear, args := #[x], argTypes := #[t] }) (st : St w m H B) (fr : FR n w m H B env a) {r : Option AV × AHeap} (h : sstep (.clear i.size y.cells x) env H = some r) : SOK P o a w m H B r := by
  have ex : ∀ {v : Value} {w' : World}, (Builtin.clear_ #[t] o.type #[a.eval x]).run P w = .ok v w' → (execOp a.eval o).run P w = .ok (.value v) w' := by
    intro v w' hr
    simp [execOp, ho, resolve, invoke, builtin, hr]
  have tup : ∀ {w' : World} {m' : AMap} {H' : AHeap}, RV w' m' H' B (.tuple []) (.tuple #[]) := .tuple [] #[] rfl (by simp)
  have zero : ∀ (ad : Option Addr) (c : Nat), (Builtin.clear_ #[t] o.type #[.slice ad 0 c]).run P w = .ok (.tuple #[]) w := by
    intro ad c
    cases ad <;> simp [Builtin.clear_, run_underlying ht]
  simp only [sstep] at h
  split at h
  · rename_i h' ver i0 len hx
    have hxv := ev_sound fr hx
    generalize hex : a.eval x = u at hxv ex
    split at h
    · rename_i o' ho'
      split at h
      · rename_i hc
        obtain ⟨c1, c2, c3⟩ := hc
        cases h
        cases hxv with
        | own _ _ _ _ ad n0 cap0 hlt hh =>
          obtain ⟨hv1, hv2⟩ := hh o' ho'
          obtain ⟨b, q1, q2, q3, q4, q5, q6, q7⟩ := hv2 c1
          subst q3
          obtain ⟨g1, g2, o2, cs, e1, e2, e3, e4⟩ := st.dom h' b q1
          rw [ho'] at e1; cases e1
          rcases Nat.eq_zero_or_pos n0 with hz0 | hz0
          · subst hz0
            simp only [List.replicate_zero, List.append_nil, Nat.add_zero, List.take_append_drop]
            rw [show ({ o' with elems := o'.elems } : AObj) = o' from rfl, obj_set_self ho']
            exact ⟨w, m, st, Adv.refl _ _ _, _, ex (zero ad cap0), tup⟩
          · have had := q2 (.inl (by omega))
            subst had
            have hfit0 := block_fits e3 e4
            have hrl := RL_zeros (zero_RL (w := w) (m := m) (H := H) (B := B) hcz h1) hyl hs n0
            have hzl : (Builtin.zeroCells z.cells n0).toList.length = n0 * i.size := by simp [Builtin.zeroCells, hzs]
            have hurep : ∀ e', e' ∈ List.replicate n0 y.cells → e'.length = i.size := fun e' he' => by rw [List.eq_of_mem_replicate he']; exact hyl
            have hcells := arr_cells hurep hrl
            have ones : ∀ v ∈ (Builtin.zeroCells z.cells n0).toList, v.oneCell' = true := by
              intro v hv
              obtain ⟨k, hk⟩ := List.mem_iff_getElem?.1 hv
              have hkl := (List.getElem?_eq_some_iff.1 hk).1
              rw [hzl] at hkl
              have hfl : ((List.replicate n0 y.cells).flatten).length = n0 * i.size := by rw [flatten_length (s := i.size) _ hurep]; simp
              have hfg : ((List.replicate n0 y.cells).flatten)[k]? = some (((List.replicate n0 y.cells).flatten)[k]'(by omega)) := List.getElem?_eq_getElem _
              obtain ⟨i2, e', j2, a1, a2, a3⟩ := flatten_get_inv _ hurep k _ hfg
              obtain ⟨v', b1, b2, b3⟩ := hcells i2 e' j2 _ a1 a2
              rw [← a3] at b1
              have hk' : ((Array.range (n0 * i.size)).map fun i => z.cells[i % z.cells.size]!)[k]? = some v := by
                rw [Array.getElem?_toList] at hk
                rw [← hk]; simp only [Builtin.zeroCells, hzs]
              rw [hk'] at b1
              cases b1
              rw [b2.one_eq]; exact b3
            have hb1 : (i0 + n0) * o'.s ≤ o'.elems.length * o'.s := Nat.mul_le_mul_right _ (by omega)
            have hfit : i0 * o'.s + (Builtin.zeroCells z.cells n0).toList.length ≤ cs.size := by
              rw [hzl, c2, ← Nat.add_mul]; omega
            have hst := run_storeCells_at P b (i0 * o'.s) o'.e (Builtin.zeroCells z.cells n0).toList 0 cs w e2 (by simpa using hfit) ones
            simp only [Nat.add_zero] at hst
            have hr : (Builtin.clear_ #[t] o.type #[.slice (some ⟨b, i0 * o'.s, none⟩) n0 cap0]).run P w = .ok (.tuple #[]) (w.setRow b (cs.toList.take (i0 * o'.s) ++ (Builtin.zeroCells z.cells n0).toList ++ cs.toList.drop (i0 * o'.s + (Builtin.zeroCells z.cells n0).toList.length)).toArray) := by
              obtain ⟨n1, rfl⟩ : ∃ n1, n0 = n1 + 1 := ⟨n0 - 1, by omega⟩
              have hzv : (zeroValue e).run P w = .ok z w := by simp [zeroValue, typeInfo, hi, hz]
              simp only [Builtin.clear_, List.getElem?_toArray, List.getElem?_cons_zero, Sem.run_bind, run_underlying ht, Result.andThen_ok, hzv, hst, Sem.run_pure]
            have hnl : (o'.elems.take i0 ++ List.replicate n0 y.cells ++ o'.elems.drop (i0 + n0)).length = o'.elems.length := by simp; omega
            have hu' : ∀ e', e' ∈ o'.elems.take i0 ++ List.replicate n0 y.cells ++ o'.elems.drop (i0 + n0) → e'.length = o'.s := by
              intro e' he'
              rcases List.mem_append.1 he' with he' | he'
              · rcases List.mem_append.1 he' with he' | he'
                · exact e3 e' (List.mem_of_mem_take he')
                · rw [← c2]; exact hurep e' he'
              · exact e3 e' (List.mem_of_mem_drop he')
            obtain ⟨p1, p2⟩ := st.upd ho' q1 (o' := { o' with elems := o'.elems.take i0 ++ List.replicate n0 y.cells ++ o'.elems.drop (i0 + n0) }) rfl rfl (by rw [hnl]; exact Nat.le_refl _) (w' := w.setRow b (cs.toList.take (i0 * o'.s) ++ (Builtin.zeroCells z.cells n0).toList ++ cs.toList.drop (i0 * o'.s + (Builtin.zeroCells z.cells n0).toList.length)).toArray) rfl rfl rfl (by simp) (fun k hk => setRow_other w b k _ hk) e2 (setRow_heap w b cs _ o'.e _ e2) (splice_size cs _ _ hfit) hu' (fun i2 e' j2 q a1 a2 => by
              have hj2 : j2 < o'.s := by
                have := hu' e' (List.mem_of_getElem? a1)
                have := (List.getElem?_eq_some_iff.1 a2).1
                omega
              simp only
              rw [splice_get cs _ _ _ hfit, hzl]
              have hlt0 : (o'.elems.take i0).length = i0 := by simp; omega
              have hlt1 : (o'.elems.take i0 ++ List.replicate n0 y.cells).length = i0 + n0 := by simp; omega
              rcases Nat.lt_or_ge i2 i0 with hA | hA
              · have hm := Nat.mul_le_mul_right o'.s hA
                rw [Nat.succ_mul] at hm
                rw [if_neg (by omega)]
                rw [List.getElem?_append_left (by omega), List.getElem?_append_left (by omega), List.getElem?_take_of_lt hA] at a1
                exact e4 i2 e' j2 q a1 a2
              · rcases Nat.lt_or_ge i2 (i0 + n0) with hB | hB
                · rw [List.getElem?_append_left (by omega), List.getElem?_append_right (by omega), hlt0] at a1
                  have hm := Nat.mul_le_mul_right o'.s hA
                  have hm2 := Nat.mul_le_mul_right o'.s hB
                  rw [Nat.succ_mul, Nat.add_mul] at hm2
                  rw [if_pos (by rw [c2]; omega)]
                  obtain ⟨v, b1, b2, b3⟩ := hcells (i2 - i0) e' j2 q a1 a2
                  refine ⟨v, ?_, b2, b3⟩
                  have hsub : i2 * o'.s + j2 - i0 * o'.s = (i2 - i0) * i.size + j2 := by
                    rw [c2, Nat.sub_mul]; omega
                  rw [hsub, Array.getElem?_toList, ← b1]
                  simp only [Builtin.zeroCells, hzs]
                · have hm2 := Nat.mul_le_mul_right o'.s hB
                  rw [Nat.add_mul] at hm2
                  rw [if_neg (by rw [c2]; omega)]
                  rw [List.getElem?_append_right (by omega), hlt1, List.getElem?_drop, show i0 + n0 + (i2 - (i0 + n0)) = i2 by omega] at a1
                  exact e4 i2 e' j2 q a1 a2)
            exact ⟨_, m, p1, p2, _, ex hr, tup⟩
      · cases h
    · cases h
  · rename_i hx
    have hxv := ev_sound fr hx
    generalize hex : a.eval x = u at hxv ex
    cases h
    cases hxv with
    | nilSlice ad => exact ⟨w, m, st, Adv.refl _ _ _, _, ex (zero ad 0), tup⟩
  · cases h
theorem trOp_clear {s : Nat} {z : List AV} {x : Operand} (h : trOp P o = some (.clear s z x)) : ∃ t e i zv y, o.op = .call { callee := .builtin .clear, args := #[x], argTypes := #[t] } ∧ P.underlying t = some (.slice e) ∧ P.info? e = some i ∧ i.zero = some zv ∧ cst zv = some y ∧ (y.cells.all AV.one = true ∧ y.cells.length = i.size ∧ zv.cells.size = i.size ∧ 0 < i.size) ∧ s = i.size ∧ z = y.cells := by
  replace h := trOp_old rfl h
  unfold trOp1 at h
  repeat' (split at h)
  all_goals (first | (cases h; done) | skip)
  cases h
  have hargs : ∀ {as : Array Operand}, as.toList = [x] → as = #[x] := by intro as h; cases as; simp_all
  have htys : ∀ {ts : Array TypeId} {p : TypeId}, ts.toList = [p] → ts = #[p] := by intro ts p h; cases ts; simp_all
  rename_i hts ho hop _ ht hu _ hi hinf _ hz hzz _ hy hc hcond has
  refine ⟨_, _, _, _, _, ?_, hu, hinf, hzz, hc, hcond, rfl, rfl⟩
  rw [hop, hargs has, htys ho]
theorem trOp_copy {s : Nat} {x y : Operand} (h : trOp P o = some (.copy s x y)) : ∃ t e i, o.op = .call { callee := .builtin .copy, args := #[x, y], argTypes := #[t, t] } ∧ P.underlying t = some (.slice e) ∧ P.info? e = some i ∧ s = i.size := by
  replace h := trOp_old rfl h
  unfold trOp1 at h
  repeat' (split at h)
  all_goals (first | (cases h; done) | skip)
  cases h
  have hargs : ∀ {as : Array Operand}, as.toList = [x, y] → as = #[x, y] := by intro as h; cases as; simp_all
  have htys : ∀ {ts : Array TypeId} {p : TypeId}, ts.toList = [p, p] → ts = #[p, p] := by intro ts p h; cases ts; simp_all
  rename_i hts ho htu _ _ _ _ _ hi has
  subst htu
  refine ⟨_, _, _, ?_, ‹_›, hi, rfl⟩
  rw [ho, hargs has, htys hts]
theorem trOp_store {s : Nat} {g : Bool} {x v : Operand} (h : trOp P o = some (.store s g x v)) : ∃ t i d, o.op = .store t x v ∧ P.info? t = some i ∧ P.underlying t = some d ∧ s = i.size ∧ g = isAggD d := by
  replace h := trOp_old rfl h
  unfold trOp1 at h
  repeat' (split at h)
  all_goals (first | (cases h; done) | skip)
  cases h
  exact ⟨_, _, _, ‹_›, ‹_›, ‹_›, rfl, rfl⟩
theorem trOp_append {e s bytes : Nat} {x y : Operand} (h : trOp P o = some (.append e s bytes x y)) : ∃ t i z, o.op = .call { callee := .builtin .append, args := #[x, y], argTypes := #[t, t] } ∧ P.underlying t = some (.slice e) ∧ P.info? e = some i ∧ i.zero = some z ∧ z.cells.size = i.size ∧ s = i.size ∧ bytes = i.bytes := by
  replace h := trOp_old rfl h
  unfold trOp1 at h
  repeat' (split at h)
  all_goals (first | (cases h; done) | skip)
  cases h
  have hargs : ∀ {as : Array Operand}, as.toList = [x, y] → as = #[x, y] := by intro as h; cases as; simp_all
  have htys : ∀ {ts : Array TypeId} {p : TypeId}, ts.toList = [p, p] → ts = #[p, p] := by intro ts p h; cases ts; simp_all
  rename_i hl hr htu _ _ _ _ _ _ hc _ _ ha
  subst htu
  refine ⟨_, _, _, ?_, ‹_›, ‹_›, ‹_›, hc.1, rfl, rfl⟩
  rw [hr, hargs ha, htys hl]
end
end Go.Awp
/- Operations that write: strings that are appended, maps; their truth in the model. Generic in the program. -/
namespace Go.Awp
set_option linter.unusedSectionVars false
set_option linter.unusedVariables false
set_option linter.unusedSimpArgs false
variable [Fx]
section
variable {P : Program} {n : Nat} {w : World} {m : AMap} {H : AHeap} {B : Nat} {env : AEnv} {a : Act} {o : Oper} {io : IOp}
theorem trOp_appS {e : Nat} {x y : Operand} (h : trOp P o = some (.appS e x y)) : ∃ t u i, o.op = .call { callee := .builtin .append, args := #[x, y], argTypes := #[t, u] } ∧ P.underlying t = some (.slice e) ∧ P.underlying u = some .string ∧ P.info? e = some i ∧ i.zero = some (.int .u8 0) ∧ i.size = 1 ∧ i.bytes = 1 := by
  unfold trOp at h
  split at h
  · rename_i h1
    cases h
    unfold trOp1 at h1
    repeat' (split at h1)
    all_goals (cases h1)
  · unfold trOp2 at h
    repeat' (split at h)
    all_goals (first | (cases h; done) | skip)
    cases h
    have hargs : ∀ {as : Array Operand}, as.toList = [x, y] → as = #[x, y] := by intro as h; cases as; simp_all
    have htys : ∀ {ts : Array TypeId} {p q : TypeId}, ts.toList = [p, q] → ts = #[p, q] := by intro ts p q h; cases ts; simp_all
    rename_i hop _ _ _ _ hts _ _ hu _ _ _ hz hc ht hi has
    exact ⟨_, _, _, by rw [hop, hargs has, htys hts], ht, hu, hi, hz, hc.1, hc.2⟩
theorem trOp_mkmap (h : trOp P o = some .mkmap) : ∃ t k e, o.op = .makeMap t none ∧ P.underlying t = some (.map k e) := by
  unfold trOp at h
  split at h
  · rename_i h1
    cases h
    unfold trOp1 at h1
    repeat' (split at h1)
    all_goals (cases h1)
  · unfold trOp2 at h
    repeat' (split at h)
    all_goals (first | (cases h; done) | skip)
    exact ⟨_, _, _, ‹_›, ‹_›⟩
theorem trOp_mapset {nk : Nat} {x k v : Operand} (h : trOp P o = some (.mapset nk x k v)) : ∃ t kt e, o.op = .mapUpdate t x k v ∧ P.underlying t = some (.map kt e) ∧ keyT P kt = some nk := by
  unfold trOp at h
  split at h
  · rename_i h1
    cases h
    unfold trOp1 at h1
    repeat' (split at h1)
    all_goals (cases h1)
  · unfold trOp2 at h
    repeat' (split at h)
    all_goals (first | (cases h; done) | skip)
    cases h
    exact ⟨_, _, _, ‹_›, ‹_›, ‹_›⟩
theorem mkmap_ok {t : TypeId} (ho : o.op = .makeMap t none) (st : St w m H B) {r : Option AV × AHeap} (h : sstep .mkmap env H = some r) : SOK P o a w m H B r := by
  cases h
  obtain ⟨p1, p2⟩ := st.newP (e := 0) (s := 0) (w' := w.alloc (.map #[] 0)) rfl rfl rfl rfl
  refine ⟨_, _, p1, p2, .map (some w.heap.size), by (simp only [execOp, ho, Option.map_none, Instr.makeMap, Sem.run_bind, Sem.run_pure]; rfl), ?_⟩
  exact .map _ _ (by simp) fun o' _ => by simp [AMap.updP]
/-- Strings that are appended. -/
theorem bys_length (s : ByteArray) : (bys s).length = s.size := by unfold bys; rw [List.length_map, Array.length_toList]; rfl
theorem bys_row (s : ByteArray) : ∀ e, e ∈ bys s → e.length = 1 := by
  intro e he
  obtain ⟨b, _, rfl⟩ := List.mem_map.1 he
  rfl
theorem bys_get {s : ByteArray} {i : Nat} {e : List AV} {j : Nat} {x : AV} (h1 : (bys s)[i]? = some e) (h2 : e[j]? = some x) : ∃ v, (Lib.strCells s)[i]? = some v ∧ j = 0 ∧ RV w m H B x v ∧ x.one = true := by
  simp only [bys, List.getElem?_map, Option.map_eq_some_iff] at h1
  obtain ⟨b, hb, rfl⟩ := h1
  match j with
  | 0 =>
    simp at h2; subst h2
    exact ⟨.int .u8 b.toNat, by simp only [Lib.strCells, List.getElem?_map, hb, Option.map_some], rfl, .int _ _, rfl⟩
  | j + 1 => simp at h2
theorem run_append_zero_string {t u e ty : TypeId} {i : TypeInfo} (ht : P.underlying t = some (.slice e)) (hu : P.underlying u = some .string) (hi : P.info? e = some i) (ad : Option Addr) (len cap : Nat) (hle : len ≤ cap) (s : ByteArray) (hs : s.size = 0) :
    (Builtin.append_ #[t, u] ty #[.slice ad len cap, .string s]).run P w = .ok (.slice ad len cap) w := by
  have hf := Lib.run_firstCells_string (P := P) w i.size s
  rw [hs] at hf
  have hn : Lib.strCells s = [] := List.eq_nil_of_length_eq_zero (by rw [Lib.strCells_length]; exact hs)
  rw [hn] at hf
  cases ad <;> simp [Builtin.append_, run_underlying ht, run_underlying hu, sizeOf, typeInfo, hi, Builtin.lenOf, hs, hf, storeCells, hle]
theorem appS_ok {t u e : TypeId} {x y : Operand} {i : TypeInfo} (ht : P.underlying t = some (.slice e)) (hu : P.underlying u = some .string) (hi : P.info? e = some i) (hz : i.zero = some (.int .u8 0)) (hs1 : i.size = 1) (hb1 : i.bytes = 1)
    (ho : o.op = .call { callee := .builtin .append, args := #[x, y], argTypes := #[t, u] }) (st : St w m H B) (fr : FR n w m H B env a) {r : Option AV × AHeap} (h : sstep (.appS e x y) env H = some r) : SOK P o a w m H B r := by
  have ex : ∀ {v : Value} {w' : World}, (Builtin.append_ #[t, u] o.type #[a.eval x, a.eval y]).run P w = .ok v w' → (execOp a.eval o).run P w = .ok (.value v) w' := by
    intro v w' hr
    simp [execOp, ho, resolve, invoke, builtin, hr]
  simp only [sstep] at h
  split at h
  · rename_i s hx hy
    have hxv := ev_sound fr hx
    have hyv := ev_sound fr hy
    generalize hex : a.eval x = xv at hxv ex
    generalize hey : a.eval y = q at hyv ex
    cases hyv
    obtain ⟨ad1, rfl⟩ : ∃ ad1, xv = .slice ad1 0 0 := by cases hxv; exact ⟨_, rfl⟩
    split at h
    · rename_i h0
      cases h
      exact ⟨w, m, st, Adv.refl _ _ _, .slice ad1 0 0, ex (run_append_zero_string ht hu hi ad1 0 0 (Nat.le_refl _) s h0), .nilSlice _⟩
    · rename_i h0
      split at h
      · rename_i hc
        cases h
        have hr : (Builtin.append_ #[t, u] o.type #[.slice ad1 0 0, .string s]).run P w = .ok (.slice (some ⟨w.heap.size, 0, none⟩) s.size (grownCap w s.size 0 e)) (w.drew.alloc (.cells ((Lib.strCells s).toArray ++ Builtin.zeroCells (Value.int .u8 0).cells (grownCap w s.size 0 e - s.size)) e)) := by
          have e1 : (s.data.map fun b => Value.int .u8 b.toNat) = (Lib.strCells s).toArray := by
            apply Array.ext'
            simp [Lib.strCells]
          cases ad1 with
          | none =>
            have := run_append_nil_string (P := P) w t u o.type e i (.int .u8 0) ht hu hi hz s (by omega) (by omega) (by rw [hb1]; omega)
            rw [e1] at this
            exact this
          | some a1 =>
            have := Lib.run_append_grow_string (P := P) w t u o.type e i (.int .u8 0) ht hu hi hz a1 0 0 [] (by simp) (by simp) s (by omega) (by omega) (by rw [hb1]; exact growslice_fits (by omega) (by omega))
            simpa using this
        obtain ⟨p1, p2⟩ := st.push [some ⟨e, 1, bys s⟩]
        have hm := st.fresh
        have hge := grownCap_ge w s.size 0 e
        have hle := grownCap_le_maxLen w s.size 0 e (by unfold maxLen; omega)
        have hzc : (Value.int IntKind.u8 0).cells.size = 1 := rfl
        obtain ⟨q1, q2, q3⟩ := arr_ok p1 (h := H.length) AHeap.obj_push_eq hm (bys_row s) (w1 := w.drew) rfl rfl rfl rfl (cap := grownCap w s.size 0 e) (by rw [bys_length]; exact hge) hle (vs := (Lib.strCells s).toArray ++ Builtin.zeroCells (Value.int .u8 0).cells (grownCap w s.size 0 e - s.size)) (by
          rw [Array.size_append, size_zeroCells, hzc, List.size_toArray, Lib.strCells_length]; omega) (fun i' el j x' a1 a2 => by
          obtain ⟨v, b1, rfl, b2, b3⟩ := bys_get (w := w) (m := m) (H := H ++ [some ⟨e, 1, bys s⟩]) (B := B) a1 a2
          refine ⟨v, ?_, b2, b3⟩
          have := (List.getElem?_eq_some_iff.1 b1).1
          rw [Nat.mul_one, Nat.add_zero, Array.getElem?_append_left (by simpa using this)]
          simpa using b1)
        rw [bys_length] at q3
        exact ⟨_, _, q1, p2.trans q2, _, ex hr, q3⟩
      · cases h
  · rename_i h' ver i0 len s hx hy
    have hxv := ev_sound fr hx
    have hyv := ev_sound fr hy
    generalize hex : a.eval x = xv at hxv ex
    generalize hey : a.eval y = q at hyv ex
    cases hyv
    split at h
    · rename_i o' ho'
      split at h
      · rename_i hc
        obtain ⟨c1, c2, c3, c4, c5, c6⟩ := hc
        cases h
        subst c2 c4
        cases hxv with
        | own _ _ _ _ ad0 len0 cap0 hlt hh =>
          obtain ⟨hv1, hv2⟩ := hh o' ho'
          obtain ⟨b, q1, q2, q3, q4, q5, q6, q7⟩ := hv2 c1
          have had := q2 (.inr rfl)
          subst had q3
          simp only [Nat.zero_mul] at *
          obtain ⟨g1, g2, o2, cs, e1, e2, e3, e4⟩ := st.dom h' b q1
          rw [ho'] at e1; cases e1
          have hcs : cs.size = cap0 := by
            have := q7
            simp only [World.shape?, e2] at this
            simp [c5] at this
            omega
          have hlen : o'.elems.length = len0 := by omega
          have hu' : ∀ e', e' ∈ o'.elems ++ bys s → e'.length = 1 := by
            intro e' he'
            rcases List.mem_append.1 he' with he' | he'
            · rw [← c5]; exact e3 e' he'
            · exact bys_row s e' he'
          have hcap : len0 + s.size ≤ maxLen := by unfold maxLen; omega
          by_cases hroom : len0 + s.size ≤ cap0
          · have hfit : len0 + (Lib.strCells s).length ≤ cs.size := by rw [hcs, Lib.strCells_length]; exact hroom
            have hr := Lib.run_append_room_string (P := P) w t u o.type o'.e i ht hu hi hs1 b len0 cap0 cs e2 s hroom (by rw [hcs]; exact hroom)
            obtain ⟨p1, p2⟩ := st.upd ho' q1 (o' := { o' with elems := o'.elems ++ bys s }) rfl rfl (by simp) (w' := w.setRow b (cs.toList.take len0 ++ Lib.strCells s ++ cs.toList.drop (len0 + s.size)).toArray) rfl rfl rfl (by simp) (fun k hk => setRow_other w b k _ hk) e2 (setRow_heap w b cs _ o'.e _ e2) (by
              have := splice_size cs (Lib.strCells s) len0 hfit
              rw [Lib.strCells_length] at this; exact this) (fun e' he' => (hu' e' he').trans c5.symm) (fun i2 e' j2 q a1 a2 => by
              simp only
              have hj2 : j2 = 0 := by
                have := hu' e' (List.mem_of_getElem? a1)
                have := (List.getElem?_eq_some_iff.1 a2).1
                omega
              subst hj2
              have hsp := splice_get cs (Lib.strCells s) len0 (i2 * o'.s + 0) hfit
              rw [Lib.strCells_length] at hsp
              rw [hsp]
              simp only [c5, Nat.mul_one, Nat.add_zero]
              rcases Nat.lt_or_ge i2 len0 with hA | hA
              · rw [if_neg (by omega)]
                rw [List.getElem?_append_left (by omega)] at a1
                have := e4 i2 e' 0 q a1 a2
                simpa [c5] using this
              · rw [List.getElem?_append_right (by omega), hlen] at a1
                obtain ⟨v, b1, _, b2, b3⟩ := bys_get (w := w) (m := m) (H := H) (B := B) a1 a2
                have := (List.getElem?_eq_some_iff.1 b1).1
                rw [Lib.strCells_length] at this
                rw [if_pos (by omega)]
                exact ⟨v, b1, b2, b3⟩)
            refine ⟨_, m, p1, p2, _, ex hr, ?_⟩
            have hlt' : h' < (H.set h' (some { o' with elems := o'.elems ++ bys s })).length := by simpa using hlt
            rw [c3]
            refine .own _ _ _ _ _ _ _ hlt' fun o3 ho3 => ?_
            rw [AHeap.obj_set_eq hlt] at ho3
            cases ho3
            refine ⟨by simp [bys_length]; omega, fun _ => ⟨b, q1, fun _ => by simp, by omega, by omega, by omega, q6, ?_⟩⟩
            have hsz := splice_size cs (Lib.strCells s) len0 hfit
            rw [Lib.strCells_length] at hsz
            simp only [World.shape?, setRow_heap w b cs _ o'.e _ e2, hsz, hcs, c5]
            rw [c3] at hsz
            rw [hsz, hcs]
            simp
          · have hold : ∀ j v, (cs.toList.take len0)[j]? = some v → w.cell? ((⟨b, 0, none⟩ : Addr).add j) = some v := fun j v hj => by
              have hjl := (List.getElem?_eq_some_iff.1 hj).1
              simp at hjl
              rw [List.getElem?_take_of_lt (by omega), Array.getElem?_toList] at hj
              rw [add_none]
              simp [World.cell?, e2, hj]
            have hr := Lib.run_append_grow_string (P := P) w t u o.type o'.e i (.int .u8 0) ht hu hi hz ⟨b, 0, none⟩ len0 cap0 (cs.toList.take len0) (by rw [hs1]; simp; omega) hold s (by omega) (by omega) (by rw [hb1]; exact growslice_fits (by omega) (by omega))
            have hge := grownCap_ge w (len0 + s.size) cap0 o'.e
            have hle := grownCap_le_maxLen w (len0 + s.size) cap0 o'.e hcap
            have hpos : 0 < s.size := by omega
            obtain ⟨p1, p2⟩ := st.drop ho' (some { o' with elems := o'.elems ++ bys s }) (fun o1 e => by cases e; exact ⟨rfl, rfl, by simp [bys_length]; omega⟩) (st.noP q1)
            have ho2 : AHeap.obj (H.set h' (some { o' with elems := o'.elems ++ bys s })) h' = some ⟨o'.e, 1, o'.elems ++ bys s⟩ := by
              rw [AHeap.obj_set_eq hlt, ← c5]
            have hm : AMap.without m h' h' = none ∧ AMap.without m h' (.p h') = none := ⟨by simp [AMap.without], by rw [AMap.without_p]; exact st.noP q1⟩
            have hzc : (Value.int IntKind.u8 0).cells.size = 1 := rfl
            have htl : (cs.toList.take len0).length = len0 := by simp; omega
            obtain ⟨r1, r2, r3⟩ := arr_ok p1 (h := h') ho2 hm hu' (w1 := w.drew) rfl rfl rfl rfl (cap := grownCap w (len0 + s.size) cap0 o'.e) (by rw [List.length_append, hlen, bys_length]; exact hge) hle (vs := (cs.toList.take len0).toArray ++ (Lib.strCells s).toArray ++ Builtin.zeroCells (Value.int .u8 0).cells (grownCap w (len0 + s.size) cap0 o'.e - (len0 + s.size))) (by
              rw [Array.size_append, Array.size_append, size_zeroCells, hzc, List.size_toArray, List.size_toArray, htl, Lib.strCells_length]; omega) (fun i2 e' j2 q a1 a2 => by
              have hj2 : j2 = 0 := by
                have := hu' e' (List.mem_of_getElem? a1)
                have := (List.getElem?_eq_some_iff.1 a2).1
                omega
              subst hj2
              rw [Nat.mul_one, Nat.add_zero]
              rcases Nat.lt_or_ge i2 len0 with hA | hA
              · rw [List.getElem?_append_left (by omega)] at a1
                obtain ⟨v, b1, b2, b3⟩ := e4 i2 e' 0 q a1 a2
                refine ⟨v, ?_, b2.mono p2, b3⟩
                rw [Array.append_assoc, Array.getElem?_append_left (by simp; omega)]
                simp only [List.getElem?_toArray]
                rw [List.getElem?_take_of_lt hA, Array.getElem?_toList]
                simpa [c5] using b1
              · rw [List.getElem?_append_right (by omega), hlen] at a1
                obtain ⟨v, b1, _, b2, b3⟩ := bys_get (w := w) (m := AMap.without m h') (H := H.set h' (some { o' with elems := o'.elems ++ bys s })) (B := B) a1 a2
                refine ⟨v, ?_, b2, b3⟩
                have := (List.getElem?_eq_some_iff.1 b1).1
                rw [Array.getElem?_append_left (by simp; omega), Array.getElem?_append_right (by simp; omega)]
                simp only [List.size_toArray, List.getElem?_toArray, htl]
                exact b1)
            refine ⟨_, _, r1, p2.trans r2, _, ex hr, ?_⟩
            rw [List.length_append, hlen, bys_length] at r3
            rw [c3]
            rw [← c3] at *
            exact r3
      · cases h
    · cases h
  · cases h
theorem mapEs_set {rows : List (List AV)} {j : Nat} {row ks : List AV} {v : AV} (h : rows[j]? = some row) : (mapEs rows).modify j (fun e => { e with key := keyV ks, val := simV v }) = mapEs (rows.set j (ks ++ [v])) := by
  have hlt := (List.getElem?_eq_some_iff.1 h).1
  apply Array.ext'
  rw [Array.toList_modify, mapEs_list, mapEs_list]
  apply List.ext_getElem?
  intro i
  rw [List.getElem?_modify, List.getElem?_mapIdx, List.getElem?_mapIdx]
  by_cases hij : j = i
  · subst hij
    rw [h, List.getElem?_set_self hlt]
    simp [mapEnt]
  · rw [List.getElem?_set_ne hij]
    simp [hij]
theorem mapEs_push {rows : List (List AV)} {ks : List AV} {v : AV} : (mapEs rows).push { key := keyV ks, val := simV v, born := rows.length } = mapEs (rows ++ [ks ++ [v]]) := by
  apply Array.ext'
  rw [Array.toList_push, mapEs_list, mapEs_list, List.mapIdx_append]
  simp [mapEnt]
theorem same_key {nk : Nat} {ks row : List AV} (hc : (nk = 1 ∧ ∃ k a, ks = [.int k a]) ∨ (nk = 2 ∧ ∃ k a l b, ks = [.int k a, .int l b])) (h : keyEqv ks row = some true) (d : Nat) : Instr.sameBits (d + 2) (keyV row) (keyV ks) = true := by
  unfold keyEqv at h
  split at h
  · rename_i k1 a1 k2 a2
    split at h
    · rename_i hk
      subst hk
      have e : a1 = a2 := by simpa using h
      subst e
      simp [keyV, simV, Instr.sameBits]
    · cases h
  · rename_i k1 a1 l1 c1 k2 a2 l2 c2
    split at h
    · rename_i hk
      obtain ⟨h1, h2⟩ := hk
      subst h1 h2
      have e : a1 = a2 ∧ c1 = c2 := by simpa using h
      obtain ⟨h1, h2⟩ := e
      subst h1 h2
      simp [keyV, simV, Instr.sameBits]
    · cases h
  · cases h
theorem midx_spec {ks : List AV} : ∀ {rows : List (List AV)} {j : Nat}, midx ks rows = some (some j) → ∃ row, rows[j]? = some row ∧ keyEqv ks row.dropLast = some true
  | [], j, h => by cases h
  | row :: r, j, h => by
    simp only [midx] at h
    split at h
    · cases h; exact ⟨row, rfl, ‹_›⟩
    · split at h
      · rename_i j' hj
        cases h
        obtain ⟨row', h1, h2⟩ := midx_spec hj
        exact ⟨row', h1, h2⟩
      · cases h
      · cases h
    · cases h
theorem mapset_ok {t kt e : TypeId} {nk : Nat} {x k v : Operand} (ht : P.underlying t = some (.map kt e)) (hk : keyT P kt = some nk) (ho : o.op = .mapUpdate t x k v) (st : St w m H B) (fr : FR n w m H B env a) {r : Option AV × AHeap} (h : sstep (.mapset nk x k v) env H = some r) : SOK P o a w m H B r := by
  simp only [sstep] at h
  split at h
  · rename_i h' ka va hx hka hva
    have hxv := ev_sound fr hx
    have hkv := ev_sound fr hka
    have hvv := ev_sound fr hva
    generalize hex : a.eval x = xv at hxv
    generalize hek : a.eval k = K at hkv
    generalize hev : a.eval v = V at hvv
    split at h
    · rename_i o' ks ho' hks
      split at h
      · rename_i hsv
        split at h
        · rename_i rows hrows
          cases h
          cases hxv with
          | map _ b hh hb =>
            have hmb := hb o' ho'
            obtain ⟨g1, g2, g3, o1, g4, g5⟩ := st.domP h' b hmb
            rw [ho'] at g4; cases g4
            obtain ⟨hK, hcase⟩ := keyCells_val hks hkv
            have hV := hvv.simV hsv
            subst hK hV
            have hck := fun bb => checkKey_ok hk hks hkv bb w
            unfold mput at hrows
            have fin : ∀ (w' : World) rows', w'.os = w.os → w'.tape = w.tape → w'.output = w.output → w'.heap = w.heap.setIfInBounds b (.map (mapEs rows') rows'.length) → o'.elems.length ≤ rows'.length → (execOp a.eval o).run P w = .ok .skip w' → SOK P o a w m H B (none, H.set h' (some { o' with elems := rows' })) := by
              intro w' rows' os tape output heap hl hrun
              obtain ⟨p1, p2⟩ := st.setP ho' hmb hl (w' := w') os tape output (by rw [heap]; simp) (fun q hq => by rw [heap, Array.getElem?_setIfInBounds_ne (Ne.symm hq)]) (by rw [heap]; simp [g2])
              exact ⟨w', m, p1, p2, hrun⟩
            split at hrows
            · rename_i j hj
              cases hrows
              obtain ⟨row, hrow, hkey⟩ := midx_spec hj
              have hf := findKey_rows hk hks hkv hj (mapEs_length o'.elems) mapEs_keys w
              have hget : (mapEs o'.elems)[j]? = some (mapEnt j row) := by rw [← Array.getElem?_toList]; exact mapEs_get hrow
              simp only [fnd, mapEs_get hrow, Option.map_some, Nat.zero_add] at hf
              have hsame : Instr.sameBits 10000 (mapEnt j row).key (keyV ks) = true := same_key hcase hkey 9998
              have hkt : (Instr.keyThatStays (((mapEs o'.elems)[j]?.map (·.key)).getD (keyV ks)) (keyV ks)).run P w = .ok (keyV ks) w := by
                rw [hget]
                show (Instr.keyThatStays (mapEnt j row).key (keyV ks)).run P w = _
                unfold Instr.keyThatStays
                rw [if_pos hsame]
                rfl
              refine fin { w with heap := w.heap.setIfInBounds b (.map ((mapEs o'.elems).modify j fun e => { e with key := keyV ks, val := simV va }) o'.elems.length) } _ rfl rfl rfl ?_ (by simp) ?_
              rotate_right
              · simp only [execOp, ho, hex, hek, hev, Instr.mapUpdate, Sem.run_bind, run_underlying ht, MapKept.run_getObj_map g5, Result.andThen_ok, hck, hf, hkt, MapKept.run_setObj_map _ g5]
                rfl
              · rw [← mapEs_set hrow, List.length_set]
            · rename_i hj
              cases hrows
              have hf := findKey_rows hk hks hkv hj (mapEs_length o'.elems) mapEs_keys w
              simp only [fnd] at hf
              refine fin { w with heap := w.heap.setIfInBounds b (.map ((mapEs o'.elems).push { key := keyV ks, val := simV va, born := o'.elems.length }) (o'.elems.length + 1)) } _ rfl rfl rfl ?_ (by simp) ?_
              rotate_right
              · simp only [execOp, ho, hex, hek, hev, Instr.mapUpdate, Sem.run_bind, run_underlying ht, MapKept.run_getObj_map g5, Result.andThen_ok, hck, hf, MapKept.run_setObj_map _ g5]
                rfl
              · rw [← mapEs_push, List.length_append]; rfl
            · cases hrows
        · cases h
      · cases h
    · cases h
  · cases h
theorem sstep_sound (htr : trOp P o = some io) (st : St w m H B) (fr : FR n w m H B env a) {r : Option AV × AHeap} (h : sstep io env H = some r) : SOK P o a w m H B r := by
  have quiet : (match qstep io env H with | some q => some (sres q H) | none => none) = some r → SOK P o a w m H B r := by
    intro h
    split at h
    · rename_i q hq
      cases h
      exact quiet_ok htr st fr hq
    · cases h
  cases io with
  | store s g x v =>
    obtain ⟨t, i, d, ho, hi, hd, rfl, rfl⟩ := trOp_store htr
    exact store_ok hi ho st fr h
  | append e s b x y =>
    obtain ⟨t, i, z, ho, ht, hi, hz, hzs, rfl, rfl⟩ := trOp_append htr
    exact append_ok ht hi hz hzs ho st fr h
  | copy s x y =>
    obtain ⟨t, e, i, ho, ht, hi, rfl⟩ := trOp_copy htr
    exact copy_ok ht hi ho st fr h
  | clear s z x =>
    obtain ⟨t, e, i, zv, y, ho, ht, hi, hz, hy, ⟨c1, c2, c3, c4⟩, rfl, rfl⟩ := trOp_clear htr
    exact clear_ok ht hi hz hy c1 c2 c3 c4 ho st fr h
  | appS e x y =>
    obtain ⟨t, u, i, ho, ht, hu, hi, hz, hs1, hb1⟩ := trOp_appS htr
    exact appS_ok ht hu hi hz hs1 hb1 ho st fr h
  | mkmap =>
    obtain ⟨t, k, e, ho, ht⟩ := trOp_mkmap htr
    exact mkmap_ok ho st h
  | mapset nk x k v =>
    obtain ⟨t, kt, e, ho, ht, hk⟩ := trOp_mapset htr
    exact mapset_ok ht hk ho st fr h
  | _ => exact quiet h
end
end Go.Awp
