/- The translation of operations, and the truth of the quiet ones in the model (part 4). Generic in the program. -/
import Derived.Test.YtepnijjgdhldeaaLd
namespace Go.Awp

def trParts (P : Program) (fields : Array Field) : List (Nat × Operand) → Option (List (Nat × Nat × Operand))
  | [] => some []
  | (i, x) :: r => match fields[i]?, trParts P fields r with
    | some f, some l => (match P.info? f.type with | some j => some ((f.offset, j.size, x) :: l) | none => none)
    | _, _ => none

mutual
/-- The cells at which values of a type are compared: numbers, bools, strings, and structs of them. -/
def flatOffs (P : Program) : Nat → TypeId → Option (List (Nat × Nat))
  | 0, _ => none
  | d + 1, t => match P.underlying t with
    | some (.int _) => some [(0, 0)]
    | some .bool => some [(1, 0)]
    | some .string => some [(2, 0)]
    | some (.struct fs) => if P.stoodInHeld t = false then flatFields P d fs.toList else none
    | _ => none
def flatFields (P : Program) : Nat → List Field → Option (List (Nat × Nat))
  | 0, _ => none
  | _ + 1, [] => some []
  | d + 1, f :: fs => match flatOffs P d f.type, P.info? f.type, flatFields P d fs with
    | some l, some i, some r => if f.name ≠ "_" ∧ (l.all fun p => p.2 < i.size) then some (l.map (fun p => (p.1, f.offset + p.2)) ++ r) else none
    | _, _, _ => none
end

def trOp (P : Program) (o : Oper) : Option IOp :=
  match o.op with
  | .move x => some (.mv x)
  | .assign x => some (.mv x)
  | .pick c a b => some (.pick c a b)
  | .load t x => match P.info? t, P.underlying t with
    | some i, some d => some (.load i.size (isAggD d) x)
    | _, _ => none
  | .box t x => match P.info? t with
    | some i => some (.box t i.size x)
    | none => none
  | .alloc t => match P.info? t with
    | some i => (match i.zero with
      | some z => (match cst z with | some x => if x.cells.all AV.one then some (.zero t i.size x.cells) else none | none => none)
      | none => none)
    | none => none
  | .build t parts => match P.info? t, P.underlying t with
    | some i, some (.struct fields) => (match i.zero, trParts P fields parts.toList with
      | some z, some l => (match cst z with | some (.agg x) => if (fields.toList.all fun f => (P.info? f.type).isSome) then some (.build x l) else none | _ => none)
      | _, _ => none)
    | some i, some (.array _ e) => (match i.zero, P.info? e with
      | some z, some j => (match cst z with | some (.agg x) => some (.build x (parts.toList.map fun p => (p.1 * j.size, j.size, p.2))) | _ => none)
      | _, _ => none)
    | _, _ => none
  | .buildSlice t 0 parts => match P.underlying t with
    | some (.slice e) => (match P.info? e with
      | some _ => if parts.toList = [] then some .mknil else none
      | none => none)
    | _ => none
  | .buildSlice t n parts => match P.underlying t with
    | some (.slice e) => (match P.info? e with
      | some i => (match i.zero with
        | some z => (match cst z with | some x => if x.cells.all AV.one ∧ 0 < i.size ∧ n * i.size ≤ 16777216 then some (.mklit e i.size n x.cells parts.toList) else none | none => none)
        | none => none)
      | none => none)
    | _ => none
  | .makeSlice t l c => match P.underlying t with
    | some (.slice e) => (match P.info? e with
      | some i => (match i.zero with
        | some z => (match cst z with | some x => if x.cells.all AV.one ∧ 0 < i.size then some (.mkslice e i.size i.bytes x.cells l c) else none | none => none)
        | none => none)
      | none => none)
    | _ => none
  | .fieldAddr t x k => match P.underlying t with
    | some (.struct fields) => (match fields[k]? with
      | some f => (match P.info? f.type with | some i => if i.size = 0 then none else some (.faddr f.offset x) | none => none)
      | none => none)
    | _ => none
  | .field t x k => match P.underlying t with
    | some (.struct fields) => (match fields[k]? with
      | some f => (match P.info? f.type, P.underlying f.type with | some i, some d => some (.field f.offset i.size (isAggD d) x) | _, _ => none)
      | none => none)
    | _ => none
  | .indexAddr t x i => match P.underlying t with
    | some (.slice e) => (match P.info? e with | some j => some (.iaddr j.size x i) | none => none)
    | some (.array n e) => (match P.info? e with | some j => some (.iaddrA n j.size x i) | none => none)
    | _ => none
  | .index t x i => match P.underlying t with
    | some (.array n e) => (match P.info? e, P.underlying e with | some j, some d => some (.indexA n j.size (isAggD d) x i) | _, _ => none)
    | some .string => some (.indexS x i)
    | _ => none
  | .slice t x lo hi none => match P.underlying t with
    | some (.slice e) => (match P.info? e with | some j => some (.slice j.size x lo hi) | none => none)
    | some .string => some (.sliceS x lo hi)
    | _ => none
  | .slice t x none (some (.const (.int .i64 (.ofNat 0)))) (some (.const (.int .i64 (.ofNat 0)))) => match P.underlying t with
    | some (.slice e) => (match P.info? e with | some _ => some (.slice0 x) | none => none)
    | _ => none
  | .extract x i => some (.extract i x)
  | .unOp op _ x => some (.un op x)
  | .binOp op t x y _ => match P.underlying t with
    | some (.int _) => some (.bin op x y)
    | some .string => some (.bin op x y)
    | some .bool => (match op with | .eql => some (.binB false x y) | .neq => some (.binB true x y) | _ => none)
    | some (.slice _) => (match y, op with
      | .const (.slice none 0 0), .eql => some (.isnil false x)
      | .const (.slice none 0 0), .neq => some (.isnil true x)
      | _, _ => none)
    | some (.struct _) => (match flatOffs P 40 t with
      | some l => if P.eqGuardType P.depth t = false then (match op with | .eql => some (.eqA false l x y) | .neq => some (.eqA true l x y) | _ => none) else none
      | none => none)
    | _ => none
  | .convert s d x => match P.underlying s, P.underlying d with
    | some (.int _), some (.int k) => some (.conv k x)
    | _, _ => none
  | .makeInterface t x => if P.concrete t = true then some (.iface t x) else none
  | .makeFunc fn first caps => some (.mkfun fn first.toList caps.toList)
  | .nilCheck x => some (.nilchk x)
  | .store t x v => match P.info? t, P.underlying t with
    | some i, some d => some (.store i.size (isAggD d) x v)
    | _, _ => none
  | .call { callee := .builtin b, args, argTypes } => match b, args.toList, argTypes.toList with
    | .len, [x], [t] => (match P.underlying t with | some (.slice _) => some (.len x) | some .string => some (.lenS x) | _ => none)
    | .max, l, _ => some (.mm true l)
    | .min, l, _ => some (.mm false l)
    | .append, [x, y], [t, u] => if t = u then (match P.underlying t with
      | some (.slice e) => (match P.info? e with
        | some i => (match i.zero with
          | some z => if z.cells.size = i.size ∧ 0 < i.size then some (.append e i.size i.bytes x y) else none
          | none => none)
        | none => none)
      | _ => none) else none
    | .copy, [x, y], [t, u] => if t = u then (match P.underlying t with
      | some (.slice e) => (match P.info? e with | some i => some (.copy i.size x y) | none => none)
      | _ => none) else none
    | _, _, _ => none
  | .call { callee := .value (.func f), args, .. } => some (.call f args.toList)
  | .call { callee := .value (.tmp t), args, .. } => some (.callv (.tmp t) args.toList)
  | .call { callee := .invoke x name, args, .. } => some (.invoke x name args.toList)
  | _ => none

def QOK (P : Program) (o : Oper) (a : Act) (w : World) (m : AMap) (H : AHeap) (B : Nat) : QR → Prop
  | .val x => ∃ v, (execOp a.eval o).run P w = .ok (.value v) w ∧ RV w m H B x v
  | .box e s cells => cells.length = s ∧ ∃ vs : Array Value, (execOp a.eval o).run P w = .ok (.value (.pointer (some ⟨w.heap.size, 0, none⟩))) (w.alloc (.cells vs e)) ∧ vs.size = s ∧
      ∀ (j : Nat) (x : AV), cells[j]? = some x → ∃ v, vs[j]? = some v ∧ RV w m H B x v ∧ x.one = true
  | .arr e s elems => (∀ el, el ∈ elems → el.length = s) ∧ ∃ (vs : Array Value) (cap : Nat), (execOp a.eval o).run P w = .ok (.value (.slice (some ⟨w.heap.size, 0, none⟩) elems.length cap)) (w.alloc (.cells vs e)) ∧
      elems.length ≤ cap ∧ cap ≤ maxLen ∧ vs.size = cap * s ∧
      ∀ (i : Nat) (el : List AV) (j : Nat) (x : AV), elems[i]? = some el → el[j]? = some x → ∃ v, vs[i * s + j]? = some v ∧ RV w m H B x v ∧ x.one = true

def RL (w : World) (m : AMap) (H : AHeap) (B : Nat) (xs : List AV) (vs : Array Value) : Prop :=
  xs.length = vs.size ∧ (∀ x, x ∈ xs → x.one = true) ∧ ∀ (i : Nat) (x : AV) (v : Value), xs[i]? = some x → vs[i]? = some v → RV w m H B x v

section
variable {P : Program} {w : World} {m : AMap} {H : AHeap} {B : Nat}

theorem RL.set {xs : List AV} {vs : Array Value} (h : RL w m H B xs vs) {x : AV} {v : Value} (hv : RV w m H B x v) (h1 : x.one = true) (i : Nat) : RL w m H B (xs.set i x) (vs.setIfInBounds i v) := by
  obtain ⟨l, o, p⟩ := h
  refine ⟨by simp [l], fun y hy => ?_, fun k y u e1 e2 => ?_⟩
  · rcases List.mem_or_eq_of_mem_set hy with hy | rfl
    · exact o y hy
    · exact h1
  · by_cases hk : i = k
    · subst hk
      rw [List.getElem?_set] at e1
      simp at e1
      obtain ⟨hi, rfl⟩ := e1
      have hi' : i < vs.size := by omega
      simp [hi'] at e2
      subst e2
      exact hv
    · rw [List.getElem?_set_ne hk] at e1
      rw [Array.getElem?_setIfInBounds_ne hk] at e2
      exact p k y u e1 e2

end
end Go.Awp
