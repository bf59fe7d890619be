/- Abstract operations that only read, or make a new object; what each of them does in the model. Generic in the program. -/
import Derived.Test.YtepnijjgdhldeaaLa
import Derived.Laws.Cells
import Derived.Laws.Rows
import Derived.Laws.CopyRow
import Derived.Laws.Entries
import Derived.Laws.MakeOwn
import Derived.Laws.Slices
import Derived.Laws.StructEq
import Derived.Laws.Build
namespace Go.Awp

abbrev AEnv := List (Nat × AV)

def AEnv.get : AEnv → Nat → Option AV
  | [], _ => none
  | (s, x) :: r, t => if s = t then some x else AEnv.get r t

structure FR (n : Nat) (w : World) (m : AMap) (H : AHeap) (B : Nat) (env : AEnv) (a : Act) : Prop where
  defers : a.defers = []
  size : a.tmps.size = n
  slots : ∀ t x, AEnv.get env t = some x → ∃ v, a.tmps[t]? = some v ∧ RV w m H B x v

theorem FR.mono {n w m H B w' m' H'} {env : AEnv} {a : Act} (ad : Adv w m H w' m' H') (h : FR n w m H B env a) : FR n w' m' H' B env a :=
  ⟨h.defers, h.size, fun t x e => let ⟨v, h1, h2⟩ := h.slots t x e; ⟨v, h1, h2.mono ad⟩⟩

theorem FR.put {n w m H B} {env : AEnv} {a : Act} (h : FR n w m H B env a) {d : Nat} (hd : d < n) {x : AV} {v : Value} (hv : RV w m H B x v) : FR n w m H B ((d, x) :: env) (a.put (some d) v) := by
  refine ⟨h.defers, by simp [Act.put, h.size], fun t y e => ?_⟩
  simp only [AEnv.get] at e
  by_cases hdt : d = t
  · rw [if_pos hdt] at e
    cases e
    subst hdt
    exact ⟨v, by simp [Act.put, h.size, hd], hv⟩
  · rw [if_neg hdt] at e
    obtain ⟨u, h1, h2⟩ := h.slots t y e
    exact ⟨u, by simp [Act.put, hdt, h1], h2⟩

/-- Constants of the program's text. -/
def cst1 : Value → Option AV
  | .bool b => some (.bool b)
  | .int k n => some (.int k n)
  | .string s => some (.str s)
  | .nilFunc => some .nilFunc
  | .nilIface => some .nilIface
  | .pointer none => some .nilPtr
  | .slice none 0 0 => some .nilSlice
  | _ => none

def cstL : List Value → Option (List AV)
  | [] => some []
  | v :: r => match cst1 v, cstL r with
    | some x, some y => some (x :: y)
    | _, _ => none

def cst : Value → Option AV
  | .agg vs => (cstL vs.toList).map .agg
  | v => cst1 v

theorem cst1_sound {w m H B} {v : Value} {x : AV} (h : cst1 v = some x) : RV w m H B x v ∧ x.one = true := by
  unfold cst1 at h
  split at h <;> cases h <;> exact ⟨by constructor, rfl⟩

theorem cstL_sound {w m H B} : ∀ (vs : List Value) (xs : List AV), cstL vs = some xs → xs.length = vs.length ∧ (∀ x, x ∈ xs → x.one = true) ∧ ∀ (i : Nat) (x : AV) (v : Value), xs[i]? = some x → vs[i]? = some v → RV w m H B x v
  | [], xs, h => by cases h; exact ⟨rfl, by simp, by simp⟩
  | v :: r, xs, h => by
    simp only [cstL] at h
    split at h
    · rename_i x y h1 h2
      cases h
      obtain ⟨l, o, p⟩ := cstL_sound r y h2
      obtain ⟨q1, q2⟩ := cst1_sound (w := w) (m := m) (H := H) (B := B) h1
      refine ⟨by simp [l], by simpa [q2] using o, fun i x' v' e1 e2 => ?_⟩
      cases i with
      | zero => cases e1; cases e2; exact q1
      | succ i => exact p i x' v' (by simpa using e1) (by simpa using e2)
    · cases h

theorem cst_sound {w m H B} {v : Value} {x : AV} (h : cst v = some x) : RV w m H B x v := by
  unfold cst at h
  split at h
  · rename_i vs
    obtain ⟨xs, hx, rfl⟩ := Option.map_eq_some_iff.1 h
    obtain ⟨l, o, p⟩ := cstL_sound (w := w) (m := m) (H := H) (B := B) _ _ hx
    exact .agg xs vs (by simpa using l) o (fun i x v e1 e2 => p i x v e1 (by simpa using e2))
  · exact (cst1_sound h).1

def ev (env : AEnv) : Operand → Option AV
  | .tmp t => AEnv.get env t
  | .const v => cst v
  | .func f => some (.func (.func f) [] [])
  | .global _ => none

theorem ev_sound {n w m H B} {env : AEnv} {a : Act} (h : FR n w m H B env a) {o : Operand} {x : AV} (e : ev env o = some x) : RV w m H B x (a.eval o) := by
  cases o with
  | tmp t =>
    obtain ⟨v, h1, h2⟩ := h.slots t x e
    have hv : a.eval (.tmp t) = v := by simp [Act.eval, h1]
    rw [hv]; exact h2
  | const v => exact cst_sound e
  | func f =>
    cases e
    exact .func _ _ _ _ _ rfl rfl (by simp) (by simp)
  | global g => cases e

def AEnv.trim (env : AEnv) : List Nat → AEnv
  | [] => []
  | t :: l => match AEnv.get env t with
    | some x => (t, x) :: AEnv.trim env l
    | none => AEnv.trim env l

theorem FR.trim {n w m H B} {env : AEnv} {a : Act} (h : FR n w m H B env a) (k : List Nat) : FR n w m H B (AEnv.trim env k) a := by
  refine ⟨h.defers, h.size, fun t x e => ?_⟩
  have key : ∀ (k : List Nat), AEnv.get (AEnv.trim env k) t = some x → AEnv.get env t = some x := by
    intro k
    induction k with
    | nil => intro e; cases e
    | cons s k ih =>
      intro e
      simp only [AEnv.trim] at e
      split at e
      · rename_i y hy
        simp only [AEnv.get] at e
        by_cases hst : s = t
        · rw [if_pos hst] at e
          rw [← e, ← hst]; exact hy
        · rw [if_neg hst] at e
          exact ih e
      · exact ih e
  exact h.slots t x (key k e)

/-- The cells of a value. -/
theorem RV.cells {w m H B} {x : AV} {v : Value} (h : RV w m H B x v) (ht : ∀ l, x ≠ .tuple l) : x.cells.length = v.cells.size ∧ (∀ y, y ∈ x.cells → y.one = true) ∧ ∀ (i : Nat) (y : AV) (u : Value), x.cells[i]? = some y → v.cells[i]? = some u → RV w m H B y u := by
  have key : x.one = true → x.cells = [x] → v.cells = #[v] → x.cells.length = v.cells.size ∧ (∀ y, y ∈ x.cells → y.one = true) ∧ ∀ (i : Nat) (y : AV) (u : Value), x.cells[i]? = some y → v.cells[i]? = some u → RV w m H B y u := by
    intro h1 h2 h3
    rw [h2, h3]
    refine ⟨rfl, by simpa using h1, fun i y u e1 e2 => ?_⟩
    cases i with
    | zero => simp at e1 e2; subst e1; subst e2; exact h
    | succ i => simp at e1
  cases h with
  | agg cs vs hl h1 hh => exact ⟨hl, h1, hh⟩
  | tuple cs => exact absurd rfl (ht cs)
  | _ => exact key rfl rfl rfl

end Go.Awp
