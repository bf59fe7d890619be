/- Regions that draw their order: what is owed of them, part 1. Generic in the program. -/
import Derived.Test.YtepnijjgdhldeaaLs
import Derived.StillTail
namespace Go.Awp

inductive Cls where
  | pure | load | alloc | call | write

def cls : IOp → Cls
  | .load .. | .iaddr .. | .slice .. | .len .. => .load
  | .box .. | .zero .. | .mklit .. | .mkslice .. => .alloc
  | .call .. | .callv .. | .invoke .. => .call
  | .store .. | .append .. | .copy .. => .write
  | _ => .pure

theorem qstep_indep {io : IOp} (h : cls io = .pure ∨ cls io = .alloc) (env : AEnv) (H H' : AHeap) : qstep io env H = qstep io env H' := by
  cases io <;> simp [cls] at h <;> rfl

theorem deref_push {H : AHeap} {p : AV} {cells : List AV} (h : deref H p = some cells) (X : AHeap) : deref (H ++ X) p = some cells := by
  cases p <;> simp only [deref] at h ⊢ <;> try exact h
  split at h
  · rename_i o ho
    rw [AHeap.obj_push_lt (AHeap.obj_lt ho), ho]
    exact h
  · cases h

theorem alen_push {H : AHeap} {p v : AV} (h : alen H p = some v) (X : AHeap) : alen (H ++ X) p = some v := by
  cases p <;> simp only [alen] at h ⊢ <;> try exact h
  split at h
  · rename_i o ho
    rw [AHeap.obj_push_lt (AHeap.obj_lt ho), ho]
    exact h
  · cases h

theorem aiaddr_push {H : AHeap} {s : Nat} {p q v : AV} (h : aiaddr H s p q = some v) (X : AHeap) : aiaddr (H ++ X) s p q = some v := by
  unfold aiaddr at h ⊢
  split at h
  · split at h
    · rename_i o ho
      simp only [AHeap.obj_push_lt (AHeap.obj_lt ho), ho]
      exact h
    · cases h
  · exact h
  · cases h

theorem aslice_push {H : AHeap} {s : Nat} {p v : AV} {l r : Option AV} (h : aslice H s p l r = some v) (X : AHeap) : aslice (H ++ X) s p l r = some v := by
  cases p <;> simp only [aslice] at h ⊢ <;> try exact h
  split at h
  · rename_i o ho
    rw [AHeap.obj_push_lt (AHeap.obj_lt ho), ho]
    exact h
  · cases h

theorem qstep_push {io : IOp} (hl : cls io = .load) {env : AEnv} {H : AHeap} {v : AV} (h : qstep io env H = some (.val v)) (X : AHeap) : qstep io env (H ++ X) = some (.val v) := by
  cases io <;> simp [cls] at hl
  · simp only [qstep] at h ⊢
    split at h
    · rename_i p hp
      split at h
      · rename_i cells hc
        simp only [deref_push hc X]
        exact h
      · cases h
    · cases h
  · simp only [qstep] at h ⊢
    split at h
    · rename_i p q hp hq
      split at h
      · rename_i u hu
        simp only [aiaddr_push hu X]
        exact h
      · cases h
    · cases h
  · simp only [qstep] at h ⊢
    split at h
    · rename_i p l r hp hl hr
      split at h
      · rename_i u hu
        simp only [aslice_push hu X]
        exact h
      · cases h
    · cases h
  · simp only [qstep] at h ⊢
    split at h
    · rename_i p hp
      split at h
      · rename_i u hu
        simp only [alen_push hu X]
        exact h
      · cases h
    · cases h

/-- Which function a call calls, and with what. -/
def target (P : Program) (io : IOp) (env : AEnv) : Option (FuncId × List AV) :=
  match io with
  | .call f args => match evs env args with
    | some vs => some (f, vs)
    | none => none
  | .callv x args => match ev env x, evs env args with
    | some (.func (.func f) first caps), some vs => some (f, first ++ vs ++ caps)
    | _, _ => none
  | .invoke x name args => match ev env x, evs env args with
    | some (.iface t v), some vs => (match amethod P t name with
      | some f => some (f, v :: vs)
      | none => none)
    | _, _ => none
  | _ => none

/-- Guards: whether the statement is carried out; and what is known then. -/
def guardD (g : Option (Nat × Bool)) (env : AEnv) (on : AEnv → Prop) (off : AEnv → Prop) : Prop :=
  match g with
  | none => on env
  | some (g, want) => match AEnv.get env g with
    | some (.bool c) => (c = want → on ((g, .bool want) :: env)) ∧ (c = !want → off ((g, .bool (!want)) :: env))
    | some (.tuple []) => off env
    | _ => False

/-- The part of a region ahead of its first write: reads, new objects, calls of plain data. -/
def awpD1 (P : Program) : List IStmt → List (IOp × AEnv × AV) → (List (IOp × AEnv × AV) → AEnv → AHeap → Prop) → AEnv → AHeap → Prop
  | [], L, K, env, H => K L env H
  | s :: rest, L, K, env, H => guardD s.guard env
      (fun env => match cls s.op with
        | .pure => (match qstep s.op (AEnv.trim env s.uses) H with
          | some (.val v) => awpD1 P rest L K (envput s.dst v env) H
          | _ => False)
        | .load => (match qstep s.op (AEnv.trim env s.uses) H with
          | some (.val v) => awpD1 P rest (if s.late then (s.op, AEnv.trim env s.uses, v) :: L else L) K (envput s.dst v env) H
          | _ => False)
        | .alloc => (match qstep s.op (AEnv.trim env s.uses) H with
          | some (.box e sz cells) => awpD1 P rest L K (envput s.dst (.ptr H.length 1 0 0) env) (H ++ [some ⟨e, sz, [cells]⟩])
          | some (.arr e sz els) => awpD1 P rest L K (envput s.dst (.own H.length els.length 0 els.length) env) (H ++ [some ⟨e, sz, els⟩])
          | _ => False)
        | .call => (match target P s.op (AEnv.trim env s.uses) with
          | some (f, vs) => (∃ ys r, (∀ X : AHeap, FrzL (H ++ X) vs ys) ∧ PCall P f ys r ∧ awpD1 P rest L K (envput s.dst r env) H) ∨
              (∃ ys e sz els, (∀ X : AHeap, FrzL (H ++ X) vs ys) ∧ NCall P f ys e sz els ∧ awpD1 P rest L K (envput s.dst (.own H.length els.length 0 els.length) env) (H ++ [some ⟨e, sz, els⟩]))
          | none => False)
        | .write => False)
      (fun env => awpD1 P rest L K (envput s.dst (.tuple []) env) H)

/-- The part of a region from its first write on: what was read reads the same behind each write. -/
def awpD2 : List IStmt → List (IOp × AEnv × AV) → List AHeap → (AEnv → AHeap → Prop) → AEnv → AHeap → Prop
  | [], _, _, K, env, H => K env H
  | s :: rest, L, Ps, K, env, H => match s.guard, cls s.op with
    | none, .pure => (match qstep s.op (AEnv.trim env s.uses) H with
      | some (.val v) => awpD2 rest L Ps K (envput s.dst v env) H
      | _ => False)
    | none, .load => (match qstep s.op (AEnv.trim env s.uses) H with
      | some (.val v) => (∀ G, G ∈ Ps → qstep s.op (AEnv.trim env s.uses) G = some (.val v)) ∧ awpD2 rest ((s.op, AEnv.trim env s.uses, v) :: L) Ps K (envput s.dst v env) H
      | _ => False)
    | none, .write => (match sstep s.op (AEnv.trim env s.uses) H with
      | some (x, H') => (∀ t, t ∈ L → qstep t.1 t.2.1 H' = some (.val t.2.2)) ∧ awpD2 rest L (H :: Ps) K (envput s.dst (x.getD (.tuple [])) env) H'
      | none => False)
    | _, _ => False

/-- Ancestors of operations, as bits. -/
def ancStep (acc : List Nat) (o : Oper) : Nat := o.after.toList.foldl (fun s e => if Region.binds .any e then s ||| (2 ^ e.on) ||| (acc[e.on]?.getD 0) else s) 0

def ancs : List Nat → List Oper → List Nat
  | acc, [] => acc
  | acc, o :: r => ancs (acc ++ [ancStep acc o]) r

def Listed (ops : List Oper) (L : Nat → Prop) (i : Nat) : Prop := ∀ o, ops[i]? = some o → ∀ e, e ∈ o.after → Region.binds .any e = true → L e.on

theorem ancs_spec (ops : List Oper) (L : Nat → Prop) (hcl : ∀ j, L j → Listed ops L j) : ∀ (r : List Oper) (acc : List Nat), (∀ j, r[j]? = ops[acc.length + j]?) →
    (∀ i x, acc[i]? = some x → ∀ j, x.testBit j = true → Listed ops L i → L j) → ∀ i x, (ancs acc r)[i]? = some x → ∀ j, x.testBit j = true → Listed ops L i → L j
  | [], acc, _, h => h
  | o :: r, acc, hr, h => by
    simp only [ancs]
    refine ancs_spec ops L hcl r _ (fun j => ?_) fun i x hx j hj hL => ?_
    · have := hr (j + 1)
      simp only [List.getElem?_cons_succ] at this
      rw [this]; simp; congr 1; omega
    · rcases Nat.lt_or_ge i acc.length with hi | hi
      · rw [List.getElem?_append_left hi] at hx
        exact h i x hx j hj hL
      · rw [List.getElem?_append_right hi] at hx
        have hi0 : i = acc.length := by
          rcases Nat.eq_or_lt_of_le hi with e | e
          · exact e.symm
          · rw [List.getElem?_eq_none (by simp; omega)] at hx; cases hx
        subst hi0
        simp at hx
        subst hx
        have ho : ops[acc.length]? = some o := by have := hr 0; simpa using this.symm
        have hLo := hL o ho
        unfold ancStep at hj
        have key : ∀ (es : List Edge) (s : Nat), (∀ e, e ∈ es → e ∈ o.after) → (s.testBit j = true → L j) → (es.foldl (fun s e => if Region.binds .any e then s ||| (2 ^ e.on) ||| (acc[e.on]?.getD 0) else s) s).testBit j = true → L j := by
          intro es
          induction es with
          | nil => intro s _ hs hj; exact hs hj
          | cons e es ih =>
            intro s hes hs hj
            refine ih _ (fun e' he' => hes e' (by simp [he'])) (fun hb => ?_) hj
            simp only at hb
            split at hb
            · rename_i hbe
              have hLe := hLo e (hes e (by simp)) hbe
              simp only [Nat.testBit_or, Bool.or_eq_true] at hb
              rcases hb with (hb | hb) | hb
              · exact hs hb
              · rw [Nat.testBit_two_pow] at hb
                have : e.on = j := by simpa using hb
                rw [← this]; exact hLe
              · cases hx : acc[e.on]? with
                | none => rw [hx] at hb; simp at hb
                | some y =>
                  rw [hx] at hb
                  exact h e.on y hx j (by simpa using hb) (hcl e.on hLe)
            · exact hs hb
        exact key o.after.toList 0 (fun e he => by simpa using he) (fun hb => by simp at hb) hj
end Go.Awp
