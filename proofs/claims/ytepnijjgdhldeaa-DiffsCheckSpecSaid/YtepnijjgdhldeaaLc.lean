/- Abstract operations that only read, or make a new object; what each of them does in the model (part 2). Generic in the program. -/
import Derived.Test.YtepnijjgdhldeaaLb
namespace Go.Awp

inductive IOp where
  | mv (x : Operand)
  | pick (c a b : Operand)
  | load (s : Nat) (g : Bool) (x : Operand)
  | box (e s : Nat) (x : Operand)
  | zero (e s : Nat) (z : List AV)
  | build (z : List AV) (parts : List (Nat × Nat × Operand))
  | mklit (e s n : Nat) (z : List AV) (parts : List (Nat × Operand))
  | mkslice (e s bytes : Nat) (z : List AV) (len cap : Operand)
  | faddr (off : Nat) (x : Operand)
  | field (off s : Nat) (g : Bool) (x : Operand)
  | iaddr (s : Nat) (x i : Operand)
  | iaddrA (len s : Nat) (x i : Operand)
  | indexA (len s : Nat) (g : Bool) (x i : Operand)
  | indexS (x i : Operand)
  | slice (s : Nat) (x : Operand) (lo hi : Option Operand)
  | sliceS (x : Operand) (lo hi : Option Operand)
  | slice0 (x : Operand)
  | isnil (neg : Bool) (x : Operand)
  | mknil
  | extract (i : Nat) (x : Operand)
  | len (x : Operand)
  | lenS (x : Operand)
  | mm (mx : Bool) (args : List Operand)
  | un (op : UnOp) (x : Operand)
  | bin (op : BinOp) (x y : Operand)
  | binB (neg : Bool) (x y : Operand)
  | eqA (neg : Bool) (offs : List (Nat × Nat)) (x y : Operand)
  | conv (k : IntKind) (x : Operand)
  | iface (t : TypeId) (x : Operand)
  | mkfun (fn : Fn) (first caps : List Operand)
  | nilchk (x : Operand)
  | store (s : Nat) (g : Bool) (x v : Operand)
  | append (e s bytes : Nat) (x y : Operand)
  | copy (s : Nat) (x y : Operand)
  | call (f : FuncId) (args : List Operand)
  | callv (f : Operand) (args : List Operand)
  | invoke (x : Operand) (name : String) (args : List Operand)

/-- What a quiet operation comes to: a value; or a new object. -/
inductive QR where
  | val (v : AV)
  | box (e s : Nat) (cells : List AV)
  | arr (e s : Nat) (elems : List (List AV))

theorem add_none (b off n : Nat) : (⟨b, off, none⟩ : Addr).add n = ⟨b, off + n, none⟩ := by
  unfold Addr.add; split
  · rename_i h; subst h; rfl
  · rfl

/-- The cells from an address on. -/
def CellsAt (w : World) (m : AMap) (H : AHeap) (B : Nat) (ad : Addr) (cells : List AV) : Prop :=
  ∃ b off, ad = ⟨b, off, none⟩ ∧ ∀ (j : Nat) (x : AV), cells[j]? = some x → ∃ v, w.cell? ⟨b, off + j, none⟩ = some v ∧ RV w m H B x v ∧ x.one = true

def deref (H : AHeap) : AV → Option (List AV)
  | .ptr h ver i j => match AHeap.obj H h with
    | some o => if ver = o.elems.length then (match o.elems[i]? with | some e => some (e.drop j) | none => none) else none
    | none => none
  | .rop cells => some cells
  | _ => none

theorem St.cell {w m H B} (st : St w m H B) {h b : Nat} {o : AObj} (hm : m h = some b) (ho : AHeap.obj H h = some o) {i j : Nat} {e : List AV} {x : AV} (h1 : o.elems[i]? = some e) (h2 : e[j]? = some x) :
    ∃ v, w.cell? ⟨b, i * o.s + j, none⟩ = some v ∧ RV w m H B x v ∧ x.one = true := by
  obtain ⟨_, _, o', cs, e1, e2, _, e4⟩ := st.dom h b hm
  rw [ho] at e1; cases e1
  obtain ⟨v, q1, q2, q3⟩ := e4 i e j x h1 h2
  exact ⟨v, by simp [World.cell?, e2, q1], q2, q3⟩

theorem deref_sound {w m H B} (st : St w m H B) {x : AV} {v : Value} (hx : RV w m H B x v) {cells : List AV} (hd : deref H x = some cells) : ∃ ad, v = .pointer (some ad) ∧ CellsAt w m H B ad cells := by
  cases hx with
  | ptr h ver i j a hh hv =>
    simp only [deref] at hd
    split at hd
    · rename_i o ho
      split at hd
      · rename_i hver
        split at hd
        · rename_i e he
          cases hd
          obtain ⟨b, hb, ha⟩ := (hv o ho).2 hver
          refine ⟨a, rfl, b, i * o.s + j, ha, fun k x hk => ?_⟩
          rw [List.getElem?_drop] at hk
          have := st.cell hb ho he hk
          rwa [← Nat.add_assoc] at this
        · cases hd
      · cases hd
    · cases hd
  | rop cells b off vs hb hlt hc hv =>
    cases hd
    exact ⟨_, rfl, b, off, rfl, fun j x hj => ⟨vs j, (hc j x hj).1, hv j x hj, (hc j x hj).2⟩⟩
  | _ => simp [deref] at hd

def isAggD : TypeDesc → Bool
  | .struct _ | .array _ _ => true
  | _ => false

section
variable {P : Program} {w : World} {m : AMap} {H : AHeap} {B : Nat}

theorem run_isAgg {t : TypeId} {d : TypeDesc} (hd : P.underlying t = some d) : (isAgg t).run P w = .ok (isAggD d) w := by
  simp only [isAgg, Sem.run_bind, run_underlying hd, Result.andThen_ok]
  cases d <;> rfl

theorem run_sizeOf' {t : TypeId} {i : TypeInfo} (hi : P.info? t = some i) : (sizeOf t).run P w = .ok i.size w := by
  simp [sizeOf, typeInfo, hi]

def qload (s : Nat) (g : Bool) (cells : List AV) : Option AV :=
  if g then (if s ≤ cells.length then some (.agg (cells.take s)) else none) else cells[0]?

theorem load_cells {ad : Addr} {cells : List AV} (hc : CellsAt w m H B ad cells) {t : TypeId} {i : TypeInfo} {d : TypeDesc} (hi : P.info? t = some i) (hd : P.underlying t = some d) {x : AV} (hq : qload i.size (isAggD d) cells = some x) :
    ∃ v, (loadVar t ad).run P w = .ok v w ∧ RV w m H B x v := by
  obtain ⟨b, off, rfl, hc⟩ := hc
  unfold qload at hq
  by_cases hg : isAggD d = true
  · rw [if_pos hg] at hq
    split at hq
    · rename_i hs
      cases hq
      let f : Nat → Value := fun j => (w.cell? ⟨b, off + j, none⟩).getD undef
      have hf : ∀ j, j < i.size → w.cell? ((⟨b, off, none⟩ : Addr).add j) = some (f j) := by
        intro j hj
        rw [add_none]
        obtain ⟨v, h1, _⟩ := hc j (cells[j]'(by omega)) (List.getElem?_eq_getElem (by omega))
        simp [f, h1]
      refine ⟨.agg ((List.range i.size).map f).toArray, ?_, ?_⟩
      · simp [loadVar, run_isAgg hd, hg, run_sizeOf' hi, run_loadCells w _ _ f hf]
      · refine .agg _ _ (by simp; omega) (fun y hy => ?_) (fun k y u e1 e2 => ?_)
        · have hy' := List.mem_of_mem_take hy
          obtain ⟨k, hk⟩ := List.mem_iff_getElem?.1 hy'
          obtain ⟨v, _, _, h3⟩ := hc k y hk
          exact h3
        · rw [List.getElem?_take] at e1
          split at e1
          · rename_i hk
            obtain ⟨v, h1, h2, _⟩ := hc k y e1
            have : u = v := by
              simp [hk, f, h1] at e2
              exact e2.symm
            rw [this]; exact h2
          · cases e1
    · cases hq
  · rw [if_neg hg] at hq
    obtain ⟨v, h1, h2, _⟩ := hc 0 x hq
    refine ⟨v, ?_, h2⟩
    simp [loadVar, run_isAgg hd, hg, Nat.add_zero] at h1 ⊢
    rw [h1]
end
end Go.Awp
