/- The abstract values of a walk, and what it means that a value of the model is one of them in a world. Generic in the program; nothing here is trusted. -/
import Derived.Below
import Derived.Orders
import Derived.Tactics
import Derived.Laws.OwnMore
import Derived.Laws.Cells
import Derived.Laws.Rows
import Derived.Laws.CopyRow
import Derived.Laws.Entries
import Derived.Laws.MakeOwn
import Derived.Laws.Slices
import Derived.Laws.StructEq
import Derived.Laws.Build
set_option linter.unusedVariables false
set_option linter.unusedSimpArgs false
set_option linter.unusedSectionVars false
namespace Go.Awp
/-- Abstract values. 'ro': a slice that nobody writes any more (true: made by this activation); 'own': a slice of an object of the activation's own; 'sub': a slice within an element of such an object; 'ptr': a pointer into such an object; 'ptrJ': some pointer that nobody follows; 'rop': a pointer to a place that nobody writes; 'full': a slice as 'ro' that has no room behind it; 'junk': some slice that nobody uses; 'map': a map of the activation's own; 'mapR': a map that nobody writes. -/
inductive AV where
  | bool (b : Bool)
  | int (k : IntKind) (n : Int)
  | str (s : ByteArray)
  | func (fn : Fn) (first captured : List AV)
  | nilFunc
  | nilMap
  | iface (t : TypeId) (v : AV)
  | nilIface
  | nilPtr
  | ptrJ
  | nilSlice
  | ptr (h ver i j : Nat)
  | own (h ver i len : Nat)
  | sub (h ver i j s len : Nat)
  | ro (fr : Bool) (l : List (List AV))
  | full (l : List (List AV))
  | junk
  | rop (cells : List AV)
  | map (h : Nat)
  | mapR (rows : List (List AV))
  | agg (cs : List AV)
  | tuple (vs : List AV)
  deriving Inhabited
def AV.cells : AV → List AV
  | .agg cs => cs
  | x => [x]
def AV.one : AV → Bool
  | .agg _ | .tuple _ => false
  | _ => true
/-- An object of the activation's own: the type of its elements, the cells of an element, the elements. -/
structure AObj where
  e : TypeId
  s : Nat
  elems : List (List AV)
abbrev AHeap := List (Option AObj)
def AHeap.obj (H : AHeap) (h : Nat) : Option AObj := (H[h]?).join
theorem AHeap.obj_lt {H : AHeap} {h : Nat} {o : AObj} (e : H.obj h = some o) : h < H.length := by
  unfold AHeap.obj at e
  rcases Nat.lt_or_ge h H.length with h' | h'
  · exact h'
  · rw [List.getElem?_eq_none h'] at e; cases e
theorem AHeap.obj_push_lt {H : AHeap} {X : List (Option AObj)} {h : Nat} (hh : h < H.length) : AHeap.obj (H ++ X) h = AHeap.obj H h := by
  unfold AHeap.obj; rw [List.getElem?_append_left hh]
theorem AHeap.obj_push_eq {H : AHeap} {o : Option AObj} : AHeap.obj (H ++ [o]) H.length = o := by
  unfold AHeap.obj; simp
theorem AHeap.obj_set_eq {H : AHeap} {h : Nat} {o : Option AObj} (hh : h < H.length) : AHeap.obj (H.set h o) h = o := by
  unfold AHeap.obj; simp [hh]
theorem AHeap.obj_set_ne {H : AHeap} {h k : Nat} {o : Option AObj} (hh : h ≠ k) : AHeap.obj (H.set h o) k = AHeap.obj H k := by
  unfold AHeap.obj; rw [List.getElem?_set_ne hh]
/-- Where an object lies: as cells, or as a map. -/
inductive Ix where
  | o (h : Nat)
  | p (h : Nat)
  deriving DecidableEq
instance : Coe Nat Ix := ⟨Ix.o⟩
abbrev AMap := Ix → Option Nat
/-- Simple values as they are. -/
def simV : AV → Value
  | .bool b => .bool b
  | .int k n => .int k n
  | .str s => .string s
  | _ => .nilIface
/-- The key of a map that is given by cells. -/
def keyV : List AV → Value
  | [x] => simV x
  | l => .agg (l.map simV).toArray
def mapEnt (i : Nat) (row : List AV) : MapEntry := { key := keyV row.dropLast, val := simV (row.getLastD .nilIface), born := i }
/-- A map's entries, by the rows that tell them (the key's cells, the value). -/
def mapEs (rows : List (List AV)) : Array MapEntry := (rows.mapIdx mapEnt).toArray
inductive RV (w : World) (m : AMap) (H : AHeap) (B : Nat) : AV → Value → Prop
  | bool (b : Bool) : RV w m H B (.bool b) (.bool b)
  | int (k : IntKind) (n : Int) : RV w m H B (.int k n) (.int k n)
  | str (s : ByteArray) : RV w m H B (.str s) (.string s)
  | nilFunc : RV w m H B .nilFunc .nilFunc
  | nilMap : RV w m H B .nilMap (.map none)
  | nilIface : RV w m H B .nilIface .nilIface
  | nilPtr : RV w m H B .nilPtr (.pointer none)
  | ptrJ (a : Addr) : RV w m H B .ptrJ (.pointer (some a))
  | nilSlice (a : Option Addr) : RV w m H B .nilSlice (.slice a 0 0)
  | func (fn : Fn) (f c : List AV) (f' c' : Array Value) (hf : f.length = f'.size) (hc : c.length = c'.size)
      (h1 : ∀ (i : Nat) (x : AV) (v : Value), f[i]? = some x → f'[i]? = some v → RV w m H B x v) (h2 : ∀ (i : Nat) (x : AV) (v : Value), c[i]? = some x → c'[i]? = some v → RV w m H B x v) :
      RV w m H B (.func fn f c) (.func fn f' c')
  | iface (t : TypeId) (x : AV) (v : Value) (h : RV w m H B x v) : RV w m H B (.iface t x) (.iface t v)
  | ptr (h ver i j : Nat) (a : Addr) (hh : h < H.length)
      (hv : ∀ o, AHeap.obj H h = some o → ver ≤ o.elems.length ∧ (ver = o.elems.length → ∃ b, m h = some b ∧ a = ⟨b, i * o.s + j, none⟩)) :
      RV w m H B (.ptr h ver i j) (.pointer (some a))
  | own (h ver i len : Nat) (a : Option Addr) (n cap : Nat) (hh : h < H.length)
      (hv : ∀ o, AHeap.obj H h = some o → ver ≤ o.elems.length ∧ (ver = o.elems.length → ∃ b, m h = some b ∧ (0 < cap ∨ i = 0 → a = some ⟨b, i * o.s, none⟩) ∧ n = len ∧ i + len ≤ ver ∧ len ≤ cap ∧ cap ≤ maxLen ∧ w.shape? b = some (o.e, (i + cap) * o.s))) :
      RV w m H B (.own h ver i len) (.slice a n cap)
  | sub (h ver i j s len : Nat) (a : Addr) (n cap : Nat) (hh : h < H.length)
      (hv : ∀ o, AHeap.obj H h = some o → ver ≤ o.elems.length ∧ (ver = o.elems.length → ∃ b, m h = some b ∧ (0 < cap → a = ⟨b, i * o.s + j, none⟩) ∧ n = len ∧ len ≤ cap)) :
      RV w m H B (.sub h ver i j s len) (.slice (some a) n cap)
  | roNil (fr : Bool) (a : Option Addr) (cap : Nat) (ha : a = none → cap = 0) : RV w m H B (.ro fr []) (.slice a 0 cap)
  | ro (fr : Bool) (l : List (List AV)) (s b off cap : Nat) (vs : Nat → Nat → Value) (hl : l ≠ []) (hb : ∀ h, m h ≠ some b) (hfr : fr = true → B ≤ b) (hlt : b < w.heap.size)
      (hs : ∀ e, e ∈ l → e.length = s) (hcap : l.length ≤ cap)
      (hc : ∀ (i : Nat) (e : List AV) (j : Nat) (x : AV), l[i]? = some e → e[j]? = some x → w.cell? ⟨b, off + i * s + j, none⟩ = some (vs i j) ∧ x.one = true)
      (hv : ∀ (i : Nat) (e : List AV) (j : Nat) (x : AV), l[i]? = some e → e[j]? = some x → RV w m H B x (vs i j)) :
      RV w m H B (.ro fr l) (.slice (some ⟨b, off, none⟩) l.length cap)
  | full (l : List (List AV)) (n : Nat) (a : Option Addr) (h : RV w m H B (.ro false l) (.slice a n n)) : RV w m H B (.full l) (.slice a n n)
  | junk (a : Option Addr) (n c : Nat) : RV w m H B .junk (.slice a n c)
  | rop (cells : List AV) (b off : Nat) (vs : Nat → Value) (hb : ∀ h, m h ≠ some b) (hlt : b < w.heap.size)
      (hc : ∀ (j : Nat) (x : AV), cells[j]? = some x → w.cell? ⟨b, off + j, none⟩ = some (vs j) ∧ x.one = true)
      (hv : ∀ (j : Nat) (x : AV), cells[j]? = some x → RV w m H B x (vs j)) :
      RV w m H B (.rop cells) (.pointer (some ⟨b, off, none⟩))
  | map (h b : Nat) (hh : h < H.length) (hv : ∀ o, AHeap.obj H h = some o → m (.p h) = some b) : RV w m H B (.map h) (.map (some b))
  | mapR (rows : List (List AV)) (b : Nat) (hb : ∀ h, m h ≠ some b) (hlt : b < w.heap.size) (hc : w.heap[b]? = some (.map (mapEs rows) rows.length)) : RV w m H B (.mapR rows) (.map (some b))
  | agg (cs : List AV) (vs : Array Value) (hl : cs.length = vs.size) (h1 : ∀ x, x ∈ cs → x.one = true) (h : ∀ (i : Nat) (x : AV) (v : Value), cs[i]? = some x → vs[i]? = some v → RV w m H B x v) : RV w m H B (.agg cs) (.agg vs)
  | tuple (cs : List AV) (vs : Array Value) (hl : cs.length = vs.size) (h : ∀ (i : Nat) (x : AV) (v : Value), cs[i]? = some x → vs[i]? = some v → RV w m H B x v) : RV w m H B (.tuple cs) (.tuple vs)
theorem RV.one_eq {w : World} {m : AMap} {H : AHeap} {B : Nat} {x : AV} {v : Value} (h : RV w m H B x v) : v.oneCell' = x.one := by
  cases h <;> rfl
/-- From one state of the activation's objects to a later one. -/
structure Adv (w : World) (m : AMap) (H : AHeap) (w' : World) (m' : AMap) (H' : AHeap) : Prop where
  os : w'.os = w.os
  tape : w'.tape = w.tape
  output : w'.output = w.output
  size : w.heap.size ≤ w'.heap.size
  keep : ∀ b, b < w.heap.size → (∀ h, m h ≠ some b) → w'.heap[b]? = w.heap[b]?
  newb : ∀ h b, m' h = some b → m h = some b ∨ w.heap.size ≤ b
  len : H.length ≤ H'.length
  obj : ∀ h o', h < H.length → AHeap.obj H' h = some o' → ∃ o, AHeap.obj H h = some o ∧ o'.s = o.s ∧ o'.e = o.e ∧ o.elems.length ≤ o'.elems.length ∧
    (o'.elems.length = o.elems.length → ∀ b, m h = some b → m' h = some b ∧ w'.shape? b = w.shape? b) ∧ ∀ b, m (.p h) = some b → m' (.p h) = some b
theorem Adv.refl (w : World) (m : AMap) (H : AHeap) : Adv w m H w m H :=
  ⟨rfl, rfl, rfl, Nat.le_refl _, fun _ _ _ => rfl, fun _ _ h => .inl h, Nat.le_refl _, fun _ o' _ h => ⟨o', h, rfl, rfl, Nat.le_refl _, fun _ _ h => ⟨h, rfl⟩, fun _ h => h⟩⟩
theorem Adv.trans {w m H w1 m1 H1 w2 m2 H2} (a : Adv w m H w1 m1 H1) (b : Adv w1 m1 H1 w2 m2 H2) : Adv w m H w2 m2 H2 where
  os := b.os.trans a.os
  tape := b.tape.trans a.tape
  output := b.output.trans a.output
  size := Nat.le_trans a.size b.size
  keep k hk hm := by
    rw [b.keep k (Nat.lt_of_lt_of_le hk a.size) ?_, a.keep k hk hm]
    intro h e
    rcases a.newb h k e with e | e
    · exact hm h e
    · omega
  newb h k e := by
    rcases b.newb h k e with e | e
    · exact a.newb h k e
    · exact .inr (Nat.le_trans a.size e)
  len := Nat.le_trans a.len b.len
  obj h o2 hh e2 := by
    obtain ⟨o1, e1, s1, t1, l1, k1, f1⟩ := b.obj h o2 (Nat.lt_of_lt_of_le hh a.len) e2
    obtain ⟨o, e0, s0, t0, l0, k0, f0⟩ := a.obj h o1 hh e1
    refine ⟨o, e0, s1.trans s0, t1.trans t0, Nat.le_trans l0 l1, fun hl k hk => ?_, fun k hk => f1 k (f0 k hk)⟩
    obtain ⟨p1, p2⟩ := k0 (by omega) k hk
    obtain ⟨q1, q2⟩ := k1 (by omega) k p1
    exact ⟨q1, q2.trans p2⟩
theorem World.cell?_of_heap {w w' : World} {a : Addr} (h : w'.heap[a.block]? = w.heap[a.block]?) : w'.cell? a = w.cell? a := by simp [World.cell?, h]
theorem RV.mono {w m H B w' m' H'} (a : Adv w m H w' m' H') {x : AV} {v : Value} (h : RV w m H B x v) : RV w' m' H' B x v := by
  have nb : ∀ b, b < w.heap.size → (∀ h, m h ≠ some b) → ∀ h, m' h ≠ some b := by
    intro b hb hm h e
    rcases a.newb h b e with e | e
    · exact hm h e
    · omega
  induction h with
  | bool b => exact .bool b
  | int k n => exact .int k n
  | str s => exact .str s
  | nilFunc => exact .nilFunc
  | nilMap => exact .nilMap
  | nilIface => exact .nilIface
  | nilPtr => exact .nilPtr
  | ptrJ a => exact .ptrJ a
  | nilSlice a => exact .nilSlice a
  | func fn f c f' c' hf hc _ _ i1 i2 => exact .func fn f c f' c' hf hc i1 i2
  | iface t x v _ i => exact .iface t x v i
  | ptr h ver i j a0 hh hv =>
    refine .ptr h ver i j a0 (Nat.lt_of_lt_of_le hh a.len) fun o' e' => ?_
    obtain ⟨o, e0, s0, t0, l0, k0, -⟩ := a.obj h o' hh e'
    obtain ⟨p, q⟩ := hv o e0
    refine ⟨by omega, fun hl => ?_⟩
    obtain ⟨b, hb, ha⟩ := q (by omega)
    exact ⟨b, (k0 (by omega) b hb).1, by rw [s0]; exact ha⟩
  | own h ver i len a0 n cap hh hv =>
    refine .own h ver i len a0 n cap (Nat.lt_of_lt_of_le hh a.len) fun o' e' => ?_
    obtain ⟨o, e0, s0, t0, l0, k0, -⟩ := a.obj h o' hh e'
    obtain ⟨p, q⟩ := hv o e0
    refine ⟨by omega, fun hl => ?_⟩
    obtain ⟨b, hb, r1, r2, r3, r4, r5, r6⟩ := q (by omega)
    obtain ⟨z1, z2⟩ := k0 (by omega) b hb
    exact ⟨b, z1, by rw [s0]; exact r1, r2, r3, r4, r5, by rw [z2, s0, t0]; exact r6⟩
  | sub h ver i j s len a0 n cap hh hv =>
    refine .sub h ver i j s len a0 n cap (Nat.lt_of_lt_of_le hh a.len) fun o' e' => ?_
    obtain ⟨o, e0, s0, t0, l0, k0, -⟩ := a.obj h o' hh e'
    obtain ⟨p, q⟩ := hv o e0
    refine ⟨by omega, fun hl => ?_⟩
    obtain ⟨b, hb, r1, r2, r3⟩ := q (by omega)
    exact ⟨b, (k0 (by omega) b hb).1, by rw [s0]; exact r1, r2, r3⟩
  | roNil fr a0 cap ha => exact .roNil fr a0 cap ha
  | ro fr l s b off cap vs hl hb hfr hlt hs hcap hc _ ih =>
    refine .ro fr l s b off cap vs hl (nb b hlt hb) hfr (Nat.lt_of_lt_of_le hlt a.size) hs hcap (fun i e j x h1 h2 => ?_) ih
    rw [World.cell?_of_heap (a.keep b hlt hb)]
    exact hc i e j x h1 h2
  | full l n a0 _ ih => exact .full l n a0 ih
  | junk a n c => exact .junk a n c
  | rop cells b off vs hb hlt hc _ ih =>
    refine .rop cells b off vs (nb b hlt hb) (Nat.lt_of_lt_of_le hlt a.size) (fun j x h1 => ?_) ih
    rw [World.cell?_of_heap (a.keep b hlt hb)]
    exact hc j x h1
  | map h b hh hv =>
    refine .map h b (Nat.lt_of_lt_of_le hh a.len) fun o' e' => ?_
    obtain ⟨o, e0, _, _, _, _, f0⟩ := a.obj h o' hh e'
    exact f0 b (hv o e0)
  | mapR rows b hb hlt hc => exact .mapR rows b (nb b hlt hb) (Nat.lt_of_lt_of_le hlt a.size) (by rw [a.keep b hlt hb]; exact hc)
  | agg cs vs hl h1 _ ih => exact .agg cs vs hl h1 ih
  | tuple cs vs hl _ ih => exact .tuple cs vs hl ih
/-- Blocks that a program's start has laid and nobody writes: which, and what they hold. -/
class Fx where
  tabs : List (Nat × (Array Value → Prop))
def Fx.Ok [Fx] (w : World) (B : Nat) : Prop := ∀ g φ, (g, φ) ∈ Fx.tabs → g < B ∧ ∃ cs t q, w.heap[g]? = some (.cells cs t q) ∧ φ cs
theorem Fx.Ok.keep [Fx] {w w' : World} {B B' : Nat} (h : Fx.Ok w B) (hb : B ≤ B') (hk : ∀ b, b < B → w'.heap[b]? = w.heap[b]?) : Fx.Ok w' B' := fun g φ hg => by
  obtain ⟨h1, cs, t, q, h2, h3⟩ := h g φ hg
  exact ⟨by omega, cs, t, q, by rw [hk g h1]; exact h2, h3⟩
/-- What is known of the activation's own objects: m says where each of them lies (those that m does not name are gone, or not there yet). -/
structure St [Fx] (w : World) (m : AMap) (H : AHeap) (B : Nat) : Prop where
  base : B ≤ w.heap.size
  dom : ∀ (h : Nat) b, m h = some b → B ≤ b ∧ b < w.heap.size ∧ ∃ o cs, AHeap.obj H h = some o ∧ w.heap[b]? = some (.cells cs o.e (0, 0)) ∧ (∀ e, e ∈ o.elems → e.length = o.s) ∧
    (∀ (i : Nat) (e : List AV) (j : Nat) (x : AV), o.elems[i]? = some e → e[j]? = some x → ∃ v, cs[i * o.s + j]? = some v ∧ RV w m H B x v ∧ x.one = true)
  domP : ∀ (h : Nat) b, m (.p h) = some b → B ≤ b ∧ b < w.heap.size ∧ m h = none ∧ ∃ o, AHeap.obj H h = some o ∧ w.heap[b]? = some (.map (mapEs o.elems) o.elems.length)
  inj : ∀ h h' b, m h = some b → m h' = some b → h = h'
  fx : Fx.Ok w B
theorem St.mb [Fx] {w m H B} (st : St w m H B) : ∀ (k : Ix) (b : Nat), m k = some b → B ≤ b ∧ b < w.heap.size
  | .o h, b, e => ⟨(st.dom h b e).1, (st.dom h b e).2.1⟩
  | .p h, b, e => ⟨(st.domP h b e).1, (st.domP h b e).2.1⟩
theorem St.fxa [Fx] {w m H B w' m' H'} (st : St w m H B) (ad : Adv w m H w' m' H') : Fx.Ok w' B :=
  st.fx.keep (Nat.le_refl _) fun b hb => ad.keep b (Nat.lt_of_lt_of_le hb st.base) fun h e => by
    have := (st.mb h b e).1; omega
def Full (m : AMap) (H : AHeap) : Prop := ∀ (h : Nat) o, AHeap.obj H h = some o → ∃ b, m h = some b
end Go.Awp
/- Abstract operations that only read, or make a new object; what each of them does in the model. Generic in the program. -/
namespace Go.Awp
set_option linter.unusedSectionVars false
variable [Fx]
abbrev AEnv := List (Nat × AV)
def AEnv.get : AEnv → Nat → Option AV
  | [], _ => none
  | (s, x) :: r, t => if s = t then some x else AEnv.get r t
structure FR (n : Nat) (w : World) (m : AMap) (H : AHeap) (B : Nat) (env : AEnv) (a : Act) : Prop where
  defers : a.defers = []
  size : a.tmps.size = n
  slots : ∀ t x, AEnv.get env t = some x → ∃ v, a.tmps[t]? = some v ∧ RV w m H B x v
theorem FR.mono {n w m H B w' m' H'} {env : AEnv} {a : Act} (ad : Adv w m H w' m' H') (h : FR n w m H B env a) : FR n w' m' H' B env a :=
  ⟨h.defers, h.size, fun t x e => let ⟨v, h1, h2⟩ := h.slots t x e; ⟨v, h1, h2.mono ad⟩⟩
theorem FR.put {n w m H B} {env : AEnv} {a : Act} (h : FR n w m H B env a) {d : Nat} (hd : d < n) {x : AV} {v : Value} (hv : RV w m H B x v) : FR n w m H B ((d, x) :: env) (a.put (some d) v) := by
  refine ⟨h.defers, by simp [Act.put, h.size], fun t y e => ?_⟩
  simp only [AEnv.get] at e
  by_cases hdt : d = t
  · rw [if_pos hdt] at e
    cases e
    subst hdt
    exact ⟨v, by simp [Act.put, h.size, hd], hv⟩
  · rw [if_neg hdt] at e
    obtain ⟨u, h1, h2⟩ := h.slots t y e
    exact ⟨u, by simp [Act.put, hdt, h1], h2⟩
/-- Constants of the program's text. -/
def cst1 : Value → Option AV
  | .bool b => some (.bool b)
  | .int k n => some (.int k n)
  | .string s => some (.str s)
  | .nilFunc => some .nilFunc
  | .map none => some .nilMap
  | .nilIface => some .nilIface
  | .pointer none => some .nilPtr
  | .slice none 0 0 => some .nilSlice
  | _ => none
def cstL : List Value → Option (List AV)
  | [] => some []
  | v :: r => match cst1 v, cstL r with
    | some x, some y => some (x :: y)
    | _, _ => none
def cst : Value → Option AV
  | .agg vs => (cstL vs.toList).map .agg
  | v => cst1 v
theorem cst1_sound {w m H B} {v : Value} {x : AV} (h : cst1 v = some x) : RV w m H B x v ∧ x.one = true := by
  unfold cst1 at h
  split at h <;> cases h <;> exact ⟨by constructor, rfl⟩
theorem cstL_sound {w m H B} : ∀ (vs : List Value) (xs : List AV), cstL vs = some xs → xs.length = vs.length ∧ (∀ x, x ∈ xs → x.one = true) ∧ ∀ (i : Nat) (x : AV) (v : Value), xs[i]? = some x → vs[i]? = some v → RV w m H B x v
  | [], xs, h => by cases h; exact ⟨rfl, by simp, by simp⟩
  | v :: r, xs, h => by
    simp only [cstL] at h
    split at h
    · rename_i x y h1 h2
      cases h
      obtain ⟨l, o, p⟩ := cstL_sound r y h2
      obtain ⟨q1, q2⟩ := cst1_sound (w := w) (m := m) (H := H) (B := B) h1
      refine ⟨by simp [l], by simpa [q2] using o, fun i x' v' e1 e2 => ?_⟩
      cases i with
      | zero => cases e1; cases e2; exact q1
      | succ i => exact p i x' v' (by simpa using e1) (by simpa using e2)
    · cases h
theorem cst_sound {w m H B} {v : Value} {x : AV} (h : cst v = some x) : RV w m H B x v := by
  unfold cst at h
  split at h
  · rename_i vs
    obtain ⟨xs, hx, rfl⟩ := Option.map_eq_some_iff.1 h
    obtain ⟨l, o, p⟩ := cstL_sound (w := w) (m := m) (H := H) (B := B) _ _ hx
    exact .agg xs vs (by simpa using l) o (fun i x v e1 e2 => p i x v e1 (by simpa using e2))
  · exact (cst1_sound h).1
def ev (env : AEnv) : Operand → Option AV
  | .tmp t => AEnv.get env t
  | .const v => cst v
  | .func f => some (.func (.func f) [] [])
  | .global _ => none
theorem ev_sound {n w m H B} {env : AEnv} {a : Act} (h : FR n w m H B env a) {o : Operand} {x : AV} (e : ev env o = some x) : RV w m H B x (a.eval o) := by
  cases o with
  | tmp t =>
    obtain ⟨v, h1, h2⟩ := h.slots t x e
    have hv : a.eval (.tmp t) = v := by simp [Act.eval, h1]
    rw [hv]; exact h2
  | const v => exact cst_sound e
  | func f =>
    cases e
    exact .func _ _ _ _ _ rfl rfl (by simp) (by simp)
  | global g => cases e
def AEnv.trim (env : AEnv) : List Nat → AEnv
  | [] => []
  | t :: l => match AEnv.get env t with
    | some x => (t, x) :: AEnv.trim env l
    | none => AEnv.trim env l
theorem FR.trim {n w m H B} {env : AEnv} {a : Act} (h : FR n w m H B env a) (k : List Nat) : FR n w m H B (AEnv.trim env k) a := by
  refine ⟨h.defers, h.size, fun t x e => ?_⟩
  have key : ∀ (k : List Nat), AEnv.get (AEnv.trim env k) t = some x → AEnv.get env t = some x := by
    intro k
    induction k with
    | nil => intro e; cases e
    | cons s k ih =>
      intro e
      simp only [AEnv.trim] at e
      split at e
      · rename_i y hy
        simp only [AEnv.get] at e
        by_cases hst : s = t
        · rw [if_pos hst] at e
          rw [← e, ← hst]; exact hy
        · rw [if_neg hst] at e
          exact ih e
      · exact ih e
  exact h.slots t x (key k e)
/-- The cells of a value. -/
theorem RV.cells {w m H B} {x : AV} {v : Value} (h : RV w m H B x v) (ht : ∀ l, x ≠ .tuple l) : x.cells.length = v.cells.size ∧ (∀ y, y ∈ x.cells → y.one = true) ∧ ∀ (i : Nat) (y : AV) (u : Value), x.cells[i]? = some y → v.cells[i]? = some u → RV w m H B y u := by
  have key : x.one = true → x.cells = [x] → v.cells = #[v] → x.cells.length = v.cells.size ∧ (∀ y, y ∈ x.cells → y.one = true) ∧ ∀ (i : Nat) (y : AV) (u : Value), x.cells[i]? = some y → v.cells[i]? = some u → RV w m H B y u := by
    intro h1 h2 h3
    rw [h2, h3]
    refine ⟨rfl, by simpa using h1, fun i y u e1 e2 => ?_⟩
    cases i with
    | zero => simp at e1 e2; subst e1; subst e2; exact h
    | succ i => simp at e1
  cases h with
  | agg cs vs hl h1 hh => exact ⟨hl, h1, hh⟩
  | tuple cs => exact absurd rfl (ht cs)
  | _ => exact key rfl rfl rfl
end Go.Awp
/- Abstract operations that only read, or make a new object; what each of them does in the model (part 2). Generic in the program. -/
namespace Go.Awp
set_option linter.unusedSectionVars false
variable [Fx]
inductive IOp where
  | mv (x : Operand)
  | pick (c a b : Operand)
  | load (s : Nat) (g : Bool) (x : Operand)
  | box (e s : Nat) (x : Operand)
  | zero (e s : Nat) (z : List AV)
  | build (z : List AV) (parts : List (Nat × Nat × Operand))
  | mklit (e s n : Nat) (z : List AV) (parts : List (Nat × Operand))
  | mkslice (e s bytes : Nat) (z : List AV) (len cap : Operand)
  | faddr (off : Nat) (x : Operand)
  | field (off s : Nat) (g : Bool) (x : Operand)
  | iaddr (s : Nat) (x i : Operand)
  | iaddrA (len s : Nat) (x i : Operand)
  | indexA (len s : Nat) (g : Bool) (x i : Operand)
  | indexS (x i : Operand)
  | slice (s : Nat) (x : Operand) (lo hi : Option Operand)
  | sliceS (x : Operand) (lo hi : Option Operand)
  | slice0 (x : Operand)
  | sliceA (n s : Nat) (x : Operand) (lo hi : Option Operand)
  | slice3 (s : Nat) (x : Operand) (lo hi mx : Option Operand)
  | isnil (neg : Bool) (x : Operand)
  | mknil
  | extract (i : Nat) (x : Operand)
  | len (x : Operand)
  | lenS (x : Operand)
  | mm (mx : Bool) (args : List Operand)
  | un (op : UnOp) (x : Operand)
  | bin (op : BinOp) (x y : Operand)
  | binB (neg : Bool) (x y : Operand)
  | eqA (neg : Bool) (offs : List (Nat × Nat)) (x y : Operand)
  | conv (k : IntKind) (x : Operand)
  | iface (t : TypeId) (x : Operand)
  | mkfun (fn : Fn) (first caps : List Operand)
  | nilchk (x : Operand)
  | store (s : Nat) (g : Bool) (x v : Operand)
  | append (e s bytes : Nat) (x y : Operand)
  | copy (s : Nat) (x y : Operand)
  | clear (s : Nat) (z : List AV) (x : Operand)
  | appS (e : Nat) (x y : Operand)
  | isnilI (neg : Bool) (x : Operand)
  | mkmap
  | mapset (nk : Nat) (x k v : Operand)
  | lookup (ok : Bool) (z : AV) (nk : Nat) (x k : Operand)
  | call (f : FuncId) (args : List Operand)
  | callv (f : Operand) (args : List Operand)
  | invoke (x : Operand) (name : String) (args : List Operand)
/-- What a quiet operation comes to: a value; or a new object. -/
inductive QR where
  | val (v : AV)
  | box (e s : Nat) (cells : List AV)
  | arr (e s : Nat) (elems : List (List AV))
theorem add_none (b off n : Nat) : (⟨b, off, none⟩ : Addr).add n = ⟨b, off + n, none⟩ := by
  unfold Addr.add; split
  · rename_i h; subst h; rfl
  · rfl
/-- The cells from an address on. -/
def CellsAt (w : World) (m : AMap) (H : AHeap) (B : Nat) (ad : Addr) (cells : List AV) : Prop :=
  ∃ b off, ad = ⟨b, off, none⟩ ∧ ∀ (j : Nat) (x : AV), cells[j]? = some x → ∃ v, w.cell? ⟨b, off + j, none⟩ = some v ∧ RV w m H B x v ∧ x.one = true
def deref (H : AHeap) : AV → Option (List AV)
  | .ptr h ver i j => match AHeap.obj H h with
    | some o => if ver = o.elems.length then (match o.elems[i]? with | some e => some (e.drop j) | none => none) else none
    | none => none
  | .rop cells => some cells
  | _ => none
theorem St.cell {w m H B} (st : St w m H B) {h b : Nat} {o : AObj} (hm : m h = some b) (ho : AHeap.obj H h = some o) {i j : Nat} {e : List AV} {x : AV} (h1 : o.elems[i]? = some e) (h2 : e[j]? = some x) :
    ∃ v, w.cell? ⟨b, i * o.s + j, none⟩ = some v ∧ RV w m H B x v ∧ x.one = true := by
  obtain ⟨_, _, o', cs, e1, e2, _, e4⟩ := st.dom h b hm
  rw [ho] at e1; cases e1
  obtain ⟨v, q1, q2, q3⟩ := e4 i e j x h1 h2
  exact ⟨v, by simp [World.cell?, e2, q1], q2, q3⟩
theorem deref_sound {w m H B} (st : St w m H B) {x : AV} {v : Value} (hx : RV w m H B x v) {cells : List AV} (hd : deref H x = some cells) : ∃ ad, v = .pointer (some ad) ∧ CellsAt w m H B ad cells := by
  cases hx with
  | ptr h ver i j a hh hv =>
    simp only [deref] at hd
    split at hd
    · rename_i o ho
      split at hd
      · rename_i hver
        split at hd
        · rename_i e he
          cases hd
          obtain ⟨b, hb, ha⟩ := (hv o ho).2 hver
          refine ⟨a, rfl, b, i * o.s + j, ha, fun k x hk => ?_⟩
          rw [List.getElem?_drop] at hk
          have := st.cell hb ho he hk
          rwa [← Nat.add_assoc] at this
        · cases hd
      · cases hd
    · cases hd
  | rop cells b off vs hb hlt hc hv =>
    cases hd
    exact ⟨_, rfl, b, off, rfl, fun j x hj => ⟨vs j, (hc j x hj).1, hv j x hj, (hc j x hj).2⟩⟩
  | _ => simp [deref] at hd
def isAggD : TypeDesc → Bool
  | .struct _ | .array _ _ => true
  | _ => false
section
variable {P : Program} {w : World} {m : AMap} {H : AHeap} {B : Nat}
theorem run_isAgg {t : TypeId} {d : TypeDesc} (hd : P.underlying t = some d) : (isAgg t).run P w = .ok (isAggD d) w := by
  simp only [isAgg, Sem.run_bind, run_underlying hd, Result.andThen_ok]
  cases d <;> rfl
theorem run_sizeOf' {t : TypeId} {i : TypeInfo} (hi : P.info? t = some i) : (sizeOf t).run P w = .ok i.size w := by
  simp [sizeOf, typeInfo, hi]
def qload (s : Nat) (g : Bool) (cells : List AV) : Option AV :=
  if g then (if s ≤ cells.length then some (.agg (cells.take s)) else none) else cells[0]?
theorem load_cells {ad : Addr} {cells : List AV} (hc : CellsAt w m H B ad cells) {t : TypeId} {i : TypeInfo} {d : TypeDesc} (hi : P.info? t = some i) (hd : P.underlying t = some d) {x : AV} (hq : qload i.size (isAggD d) cells = some x) :
    ∃ v, (loadVar t ad).run P w = .ok v w ∧ RV w m H B x v := by
  obtain ⟨b, off, rfl, hc⟩ := hc
  unfold qload at hq
  by_cases hg : isAggD d = true
  · rw [if_pos hg] at hq
    split at hq
    · rename_i hs
      cases hq
      let f : Nat → Value := fun j => (w.cell? ⟨b, off + j, none⟩).getD undef
      have hf : ∀ j, j < i.size → w.cell? ((⟨b, off, none⟩ : Addr).add j) = some (f j) := by
        intro j hj
        rw [add_none]
        obtain ⟨v, h1, _⟩ := hc j (cells[j]'(by omega)) (List.getElem?_eq_getElem (by omega))
        simp [f, h1]
      refine ⟨.agg ((List.range i.size).map f).toArray, ?_, ?_⟩
      · simp [loadVar, run_isAgg hd, hg, run_sizeOf' hi, run_loadCells w _ _ f hf]
      · refine .agg _ _ (by simp; omega) (fun y hy => ?_) (fun k y u e1 e2 => ?_)
        · have hy' := List.mem_of_mem_take hy
          obtain ⟨k, hk⟩ := List.mem_iff_getElem?.1 hy'
          obtain ⟨v, _, _, h3⟩ := hc k y hk
          exact h3
        · rw [List.getElem?_take] at e1
          split at e1
          · rename_i hk
            obtain ⟨v, h1, h2, _⟩ := hc k y e1
            have : u = v := by
              simp [hk, f, h1] at e2
              exact e2.symm
            rw [this]; exact h2
          · cases e1
    · cases hq
  · rw [if_neg hg] at hq
    obtain ⟨v, h1, h2, _⟩ := hc 0 x hq
    refine ⟨v, ?_, h2⟩
    simp [loadVar, run_isAgg hd, hg, Nat.add_zero] at h1 ⊢
    rw [h1]
end
end Go.Awp
/- What quiet operations come to (part 3): the steps, and their truth in the model. Generic in the program. -/
namespace Go.Awp
set_option linter.unusedSectionVars false
variable [Fx]
def setMany : List AV → Nat → List AV → List AV
  | cs, _, [] => cs
  | cs, off, x :: xs => setMany (cs.set off x) (off + 1) xs
def AV.isTuple : AV → Bool
  | .tuple _ => true
  | _ => false
def afill (env : AEnv) : List AV → List (Nat × Nat × Operand) → Option (List AV)
  | cs, [] => some cs
  | cs, (off, size, x) :: r => match ev env x with
    | some v => if v.cells.length = size ∧ off + size ≤ cs.length ∧ v.isTuple = false then afill env (setMany cs off v.cells) r else none
    | none => none
def afillE (env : AEnv) (s : Nat) : List (List AV) → List (Nat × Operand) → Option (List (List AV))
  | es, [] => some es
  | es, (i, x) :: r => match ev env x with
    | some v => if v.cells.length = s ∧ i < es.length ∧ v.isTuple = false then afillE env s (es.set i v.cells) r else none
    | none => none
def evs (env : AEnv) : List Operand → Option (List AV)
  | [] => some []
  | x :: r => match ev env x, evs env r with
    | some v, some vs => some (v :: vs)
    | _, _ => none
def abin (op : BinOp) : AV → AV → Option AV
  | .int k a, .int k' b => if k = k' then (match op with
      | .add => some (.int k (k.wrap (a + b)))
      | .sub => some (.int k (k.wrap (a - b)))
      | .mul => some (.int k (k.wrap (a * b)))
      | .quo => if b = 0 then none else some (.int k (k.wrap (a.tdiv b)))
      | .rem => if b = 0 then none else some (.int k (a.tmod b))
      | .eql => some (.bool (a == b))
      | .neq => some (.bool (a != b))
      | .lss => some (.bool (decide (a < b)))
      | .leq => some (.bool (decide (a ≤ b)))
      | .gtr => some (.bool (decide (a > b)))
      | .geq => some (.bool (decide (a ≥ b)))
      | .and => some (.int k (k.wrap ((BitVec.ofInt k.bits a &&& BitVec.ofInt k.bits b).toNat : Nat)))
      | .or => some (.int k (k.wrap ((BitVec.ofInt k.bits a ||| BitVec.ofInt k.bits b).toNat : Nat)))
      | .xor => some (.int k (k.wrap ((BitVec.ofInt k.bits a ^^^ BitVec.ofInt k.bits b).toNat : Nat)))
      | .shl => if b < 0 then none else some (.int k (k.wrap (a * 2 ^ (min b.toNat k.bits))))
      | .shr => if b < 0 then none else some (.int k (a.fdiv (2 ^ (min b.toNat k.bits))))
      | _ => none) else none
  | .str a, .str b => match op with
      | .eql => some (.bool (a == b))
      | .neq => some (.bool (!(a == b)))
      | .add => if a.size + b.size ≤ 9223372036854775807 then some (.str (a ++ b)) else none
      | _ => none
  | _, _ => none
def aun : UnOp → AV → Option AV
  | .not, .bool b => some (.bool !b)
  | .neg, .int k n => some (.int k (k.wrap (0 - n)))
  | _, _ => none
/-- Equality of aggregates, at the given cells (0: numbers, 1: bools, 2: strings). -/
def aeqO : List (Nat × Nat) → List AV → List AV → Option Bool
  | [], _, _ => some true
  | (k, off) :: os, a, b => match aeqO os a b with
    | some r => (match k, a[off]?, b[off]? with
      | 0, some (.int k x), some (.int k' y) => if k = k' then some ((x == y) && r) else none
      | 1, some (.bool x), some (.bool y) => some ((x == y) && r)
      | 2, some (.str x), some (.str y) => some ((x == y) && r)
      | _, _, _ => none)
    | none => none
def amm (mx : Bool) : List AV → Option AV
  | [] => none
  | .int k n :: r => go k n r
  | _ => none
where
  go (k : IntKind) (n : Int) : List AV → Option AV
    | [] => some (.int k n)
    | .int _ y :: r => go k (if mx then (if y > n then y else n) else (if y < n then y else n)) r
    | _ => none
/-- Cells, so many at a time. -/
def chunks (s : Nat) : Nat → List AV → List (List AV)
  | 0, _ => []
  | k + 1, l => l.take s :: chunks s k (l.drop s)
def alen (H : AHeap) : AV → Option AV
  | .sub h ver _ _ _ len => match AHeap.obj H h with
    | some o => if ver = o.elems.length then some (.int .i64 len) else none
    | none => none
  | .own h ver _ len => match AHeap.obj H h with
    | some o => if ver = o.elems.length then some (.int .i64 len) else none
    | none => none
  | .ro _ l => some (.int .i64 l.length)
  | .nilSlice => some (.int .i64 0)
  | _ => none
def aiaddr (H : AHeap) (s : Nat) : AV → AV → Option AV
  | .sub h ver i j s' len, .int _ n => match AHeap.obj H h with
    | some o => if ver = o.elems.length ∧ s = s' ∧ 0 ≤ n ∧ n < len then some (.ptr h ver i (j + n.toNat * s)) else none
    | none => none
  | .own h ver i0 len, .int _ n => match AHeap.obj H h with
    | some o => if ver = o.elems.length ∧ s = o.s ∧ 0 ≤ n ∧ n < len then some (.ptr h ver (i0 + n.toNat) 0) else none
    | none => none
  | .ro _ l, .int _ n => if 0 ≤ n then (match l[n.toNat]? with | some e => if e.length = s then some (.rop e) else none | none => none) else none
  | _, _ => none
def abnd1 (len d : Nat) : Option AV → Option Nat
  | none => some d
  | some (.int _ z) => if 0 ≤ z ∧ z ≤ len then some z.toNat else none
  | _ => none
/-- The bounds of a slice expression of so many elements. -/
def abnds (len : Nat) (lo hi : Option AV) : Option (Nat × Nat) :=
  match abnd1 len len hi with
  | some r => (match abnd1 r 0 lo with
    | some l => some (l, r)
    | none => none)
  | none => none
/-- The bounds of a slice expression that goes beyond the elements. -/
def abndX (lim : Nat) (lo hi : Option AV) : Option (Nat × Nat) :=
  match hi with
  | some v => abnds lim lo (some v)
  | none => none
/-- A full slice expression. -/
def aslice3 (H : AHeap) (s : Nat) (x : AV) (lo hi mx : Option AV) : Option AV :=
  match x with
  | .own h ver i0 len => match AHeap.obj H h with
    | some o => if ver = o.elems.length ∧ s = o.s then (match abndX len none mx with
        | some (_, q) => (match abndX q lo hi with
          | some _ => some .junk
          | none => none)
        | none => none) else none
    | none => none
  | .ro fr L => if (L.all fun e => e.length == s) then (match abndX L.length none mx with
        | some (_, q) => (match abndX q lo hi with
          | some (l, r) => if r = q then some (.full ((L.take r).drop l)) else some (.ro fr ((L.take r).drop l))
          | none => none)
        | none => none) else none
  | _ => none
def aslice (H : AHeap) (s : Nat) (x : AV) (lo hi : Option AV) : Option AV :=
  match x with
  | .own h ver i0 len => match AHeap.obj H h with
    | some o => if ver = o.elems.length ∧ s = o.s then (match abnds len lo hi with
        | some (l, r) => some (.own h ver (i0 + l) (r - l))
        | none => if 0 < s then (match abndX (ver - i0) lo hi with
          | some (l, r) => some (.own h ver (i0 + l) (r - l))
          | none => none) else none) else none
    | none => none
  | .ro fr L => if (L.all fun e => e.length == s) then (match abnds L.length lo hi with
        | some (l, r) => some (.ro fr ((L.take r).drop l))
        | none => none) else none
  | .nilSlice => (match abnds 0 lo hi with
        | some _ => some .nilSlice
        | none => none)
  | _ => none
/-- A slice of an array. -/
def asliceA (n s : Nat) (x : AV) (lo hi : Option AV) : Option AV :=
  match x with
  | .ptr h ver i j => (match abnds n lo hi with
    | some (l, r) => some (.sub h ver i (j + l * s) s (r - l))
    | none => none)
  | _ => none
def asliceS (x : AV) (lo hi : Option AV) : Option AV :=
  match x with
  | .str b => (match abnds b.size lo hi with
    | some (l, r) => some (.str (b.extract l r))
    | none => none)
  | _ => none
def evo (env : AEnv) : Option Operand → Option (Option AV)
  | none => some none
  | some x => match ev env x with | some v => some (some v) | none => none
/-- Whether values are simple. -/
def AV.simp1 : AV → Bool
  | .bool _ | .int _ _ | .str _ => true
  | _ => false
/-- Two keys of a map: numbers, or pairs of them. -/
def keyEqv : List AV → List AV → Option Bool
  | [.int k a], [.int k' b] => if k = k' then some (a == b) else none
  | [.int k a, .int l c], [.int k' b, .int l' d] => if k = k' ∧ l = l' then some ((a == b) && (c == d)) else none
  | _, _ => none
def midx (ks : List AV) : List (List AV) → Option (Option Nat)
  | [] => some none
  | row :: r => match keyEqv ks row.dropLast with
    | some true => some (some 0)
    | some false => (match midx ks r with
      | some (some j) => some (some (j + 1))
      | some none => some none
      | none => none)
    | none => none
def mfind (ks : List AV) (rows : List (List AV)) : Option (Option AV) := match midx ks rows with
  | some (some j) => (match rows[j]? with
    | some row => (match row.getLast? with
      | some v => if v.simp1 then some (some v) else none
      | none => none)
    | none => none)
  | some none => some none
  | none => none
def mput (ks : List AV) (v : AV) (rows : List (List AV)) : Option (List (List AV)) := match midx ks rows with
  | some (some j) => some (rows.set j (ks ++ [v]))
  | some none => some (rows ++ [ks ++ [v]])
  | none => none
def keyCells (nk : Nat) : AV → Option (List AV)
  | .int k n => if nk = 1 then some [.int k n] else none
  | .agg [.int k a, .int l b] => if nk = 2 then some [.int k a, .int l b] else none
  | _ => none
def alookup (H : AHeap) (x : AV) (ks : List AV) : Option (Option AV) := match x with
  | .map h => (match AHeap.obj H h with | some o => mfind ks o.elems | none => none)
  | .mapR rows => mfind ks rows
  | _ => none
def qstep (io : IOp) (env : AEnv) (H : AHeap) : Option QR :=
  match io with
  | .mv x => match ev env x with | some v => some (.val v) | none => none
  | .pick c a b => match ev env c with
    | some (.bool true) => (match ev env a with | some v => some (.val v) | none => none)
    | some (.bool false) => (match ev env b with | some v => some (.val v) | none => none)
    | _ => none
  | .load s g x => match ev env x with
    | some p => (match deref H p with
      | some cells => (match qload s g cells with | some v => some (.val v) | none => none)
      | none => none)
    | none => none
  | .box e s x => match ev env x with
    | some v => if v.cells.length = s ∧ v.isTuple = false then some (.box e s v.cells) else none
    | none => none
  | .zero e s z => if z.length = s then some (.box e s z) else none
  | .build z parts => match afill env z parts with | some cs => some (.val (.agg cs)) | none => none
  | .mklit e s n z parts => if z.length = s ∧ n ≤ 65536 then (match afillE env s (List.replicate n z) parts with | some es => some (.arr e s es) | none => none) else none
  | .mkslice e s bytes z l c => match ev env l, ev env c with
    | some (.int _ l), some (.int _ c) => if z.length = s ∧ 0 ≤ l ∧ l ≤ c ∧ (bytes : Int) * c ≤ 281474976710656 ∧ c ≤ 9223372036854775807 then some (.arr e s (List.replicate l.toNat z)) else none
    | _, _ => none
  | .faddr off x => match ev env x with
    | some (.ptr h ver i j) => some (.val (.ptr h ver i (j + off)))
    | some (.rop cells) => some (.val (.rop (cells.drop off)))
    | _ => none
  | .field off s g x => match ev env x with
    | some (.agg cs) => if g then some (.val (.agg ((cs.drop off).take s))) else (match cs[off]? with | some v => some (.val v) | none => none)
    | _ => none
  | .iaddr s x i => match ev env x, ev env i with
    | some a, some n => (match aiaddr H s a n with | some v => some (.val v) | none => none)
    | _, _ => none
  | .iaddrA len s x i => match ev env x, ev env i with
    | some (.ptr h ver i j), some (.int _ n) => if 0 ≤ n ∧ n < len then some (.val (.ptr h ver i (j + n.toNat * s))) else none
    | some (.rop cells), some (.int _ n) => if 0 ≤ n ∧ n < len then some (.val (.rop (cells.drop (n.toNat * s)))) else none
    | _, _ => none
  | .indexA len s g x i => match ev env x, ev env i with
    | some (.agg cs), some (.int _ n) => if 0 ≤ n ∧ n < len then (if g then some (.val (.agg ((cs.drop (n.toNat * s)).take s))) else (match cs[n.toNat * s]? with | some v => some (.val v) | none => none)) else none
    | _, _ => none
  | .indexS x i => match ev env x, ev env i with
    | some (.str b), some (.int _ n) => if 0 ≤ n then (match b[n.toNat]? with | some c => some (.val (.int .u8 c.toNat)) | none => none) else none
    | _, _ => none
  | .slice s x lo hi => match ev env x, evo env lo, evo env hi with
    | some v, some l, some r => (match aslice H s v l r with | some v => some (.val v) | none => none)
    | _, _, _ => none
  | .sliceA n s x lo hi => match ev env x, evo env lo, evo env hi with
    | some v, some l, some r => (match asliceA n s v l r with | some v => some (.val v) | none => none)
    | _, _, _ => none
  | .sliceS x lo hi => match ev env x, evo env lo, evo env hi with
    | some v, some l, some r => (match asliceS v l r with | some v => some (.val v) | none => none)
    | _, _, _ => none
  | .slice3 s x lo hi mx => match ev env x, evo env lo, evo env hi, evo env mx with
    | some v, some l, some r, some q => (match aslice3 H s v l r q with | some v => some (.val v) | none => none)
    | _, _, _, _ => none
  | .slice0 x => match ev env x with
    | some (.own _ _ _ _) => some (.val .nilSlice)
    | some (.ro _ _) => some (.val .nilSlice)
    | some .nilSlice => some (.val .nilSlice)
    | _ => none
  | .extract i x => match ev env x with
    | some (.tuple vs) => (match vs[i]? with | some v => some (.val v) | none => none)
    | _ => none
  | .len x => match ev env x with
    | some v => (match alen H v with | some v => some (.val v) | none => none)
    | none => none
  | .lenS x => match ev env x with
    | some (.str b) => some (.val (.int .i64 b.size))
    | _ => none
  | .mm mx args => match evs env args with
    | some vs => (match amm mx vs with | some v => some (.val v) | none => none)
    | none => none
  | .un op x => match ev env x with
    | some v => (match aun op v with | some v => some (.val v) | none => none)
    | none => none
  | .bin op x y => match ev env x, ev env y with
    | some a, some b => (match abin op a b with | some v => some (.val v) | none => none)
    | _, _ => none
  | .binB neg x y => match ev env x, ev env y with
    | some (.bool a), some (.bool b) => some (.val (.bool (if neg then !(a == b) else (a == b))))
    | _, _ => none
  | .eqA neg offs x y => match ev env x, ev env y with
    | some (.agg a), some (.agg b) => (match aeqO offs a b with | some r => some (.val (.bool (if neg then !r else r))) | none => none)
    | _, _ => none
  | .conv k x => match ev env x with
    | some (.int _ n) => some (.val (.int k (k.wrap n)))
    | _ => none
  | .iface t x => match ev env x with
    | some v => some (.val (.iface t v))
    | none => none
  | .mkfun fn first caps => match evs env first, evs env caps with
    | some a, some b => some (.val (.func fn a b))
    | _, _ => none
  | .isnilI neg x => match ev env x with
    | some .nilIface => some (.val (.bool (!neg)))
    | some (.iface _ _) => some (.val (.bool neg))
    | _ => none
  | .lookup ok z nk x k => match ev env x, ev env k with
    | some x, some k => (match keyCells nk k with
      | some ks => (match alookup H x ks with
        | some (some v) => some (.val (if ok then .tuple [v, .bool true] else v))
        | some none => some (.val (if ok then .tuple [z, .bool false] else z))
        | none => none)
      | none => none)
    | _, _ => none
  | .nilchk x => match ev env x with
    | some (.ptr h ver i j) => some (.val (.ptr h ver i j))
    | some (.rop c) => some (.val (.rop c))
    | some (.func (.func f) a b) => some (.val (.func (.func f) a b))
    | _ => none
  | _ => none
end Go.Awp
/- The translation of operations, and the truth of the quiet ones in the model (part 4). Generic in the program. -/
namespace Go.Awp
set_option linter.unusedSectionVars false
variable [Fx]
def trParts (P : Program) (fields : Array Field) : List (Nat × Operand) → Option (List (Nat × Nat × Operand))
  | [] => some []
  | (i, x) :: r => match fields[i]?, trParts P fields r with
    | some f, some l => (match P.info? f.type with | some j => some ((f.offset, j.size, x) :: l) | none => none)
    | _, _ => none
mutual
/-- The cells at which values of a type are compared: numbers, bools, strings, and structs of them. -/
def flatOffs (P : Program) : Nat → TypeId → Option (List (Nat × Nat))
  | 0, _ => none
  | d + 1, t => match P.underlying t with
    | some (.int _) => some [(0, 0)]
    | some .bool => some [(1, 0)]
    | some .string => some [(2, 0)]
    | some (.struct fs) => if P.stoodInHeld t = false then flatFields P d fs.toList else none
    | _ => none
def flatFields (P : Program) : Nat → List Field → Option (List (Nat × Nat))
  | 0, _ => none
  | _ + 1, [] => some []
  | d + 1, f :: fs => match flatOffs P d f.type, P.info? f.type, flatFields P d fs with
    | some l, some i, some r => if f.name ≠ "_" ∧ (l.all fun p => p.2 < i.size) then some (l.map (fun p => (p.1, f.offset + p.2)) ++ r) else none
    | _, _, _ => none
end
def trOp1 (P : Program) (o : Oper) : Option IOp :=
  match o.op with
  | .move x => some (.mv x)
  | .assign x => some (.mv x)
  | .pick c a b => some (.pick c a b)
  | .load t x => match P.info? t, P.underlying t with
    | some i, some d => some (.load i.size (isAggD d) x)
    | _, _ => none
  | .box t x => match P.info? t with
    | some i => some (.box t i.size x)
    | none => none
  | .alloc t => match P.info? t with
    | some i => (match i.zero with
      | some z => (match cst z with | some x => if x.cells.all AV.one then some (.zero t i.size x.cells) else none | none => none)
      | none => none)
    | none => none
  | .build t parts => match P.info? t, P.underlying t with
    | some i, some (.struct fields) => (match i.zero, trParts P fields parts.toList with
      | some z, some l => (match cst z with | some (.agg x) => if (fields.toList.all fun f => (P.info? f.type).isSome) then some (.build x l) else none | _ => none)
      | _, _ => none)
    | some i, some (.array _ e) => (match i.zero, P.info? e with
      | some z, some j => (match cst z with | some (.agg x) => some (.build x (parts.toList.map fun p => (p.1 * j.size, j.size, p.2))) | _ => none)
      | _, _ => none)
    | _, _ => none
  | .buildSlice t 0 parts => match P.underlying t with
    | some (.slice e) => (match P.info? e with
      | some _ => if parts.toList = [] then some .mknil else none
      | none => none)
    | _ => none
  | .buildSlice t n parts => match P.underlying t with
    | some (.slice e) => (match P.info? e with
      | some i => (match i.zero with
        | some z => (match cst z with | some x => if x.cells.all AV.one ∧ 0 < i.size ∧ n * i.size ≤ 16777216 then some (.mklit e i.size n x.cells parts.toList) else none | none => none)
        | none => none)
      | none => none)
    | _ => none
  | .makeSlice t l c => match P.underlying t with
    | some (.slice e) => (match P.info? e with
      | some i => (match i.zero with
        | some z => (match cst z with | some x => if x.cells.all AV.one ∧ 0 < i.size then some (.mkslice e i.size i.bytes x.cells l c) else none | none => none)
        | none => none)
      | none => none)
    | _ => none
  | .fieldAddr t x k => match P.underlying t with
    | some (.struct fields) => (match fields[k]? with
      | some f => (match P.info? f.type with | some i => if i.size = 0 then none else some (.faddr f.offset x) | none => none)
      | none => none)
    | _ => none
  | .field t x k => match P.underlying t with
    | some (.struct fields) => (match fields[k]? with
      | some f => (match P.info? f.type, P.underlying f.type with | some i, some d => some (.field f.offset i.size (isAggD d) x) | _, _ => none)
      | none => none)
    | _ => none
  | .indexAddr t x i => match P.underlying t with
    | some (.slice e) => (match P.info? e with | some j => some (.iaddr j.size x i) | none => none)
    | some (.array n e) => (match P.info? e with | some j => some (.iaddrA n j.size x i) | none => none)
    | _ => none
  | .index t x i => match P.underlying t with
    | some (.array n e) => (match P.info? e, P.underlying e with | some j, some d => some (.indexA n j.size (isAggD d) x i) | _, _ => none)
    | some .string => some (.indexS x i)
    | _ => none
  | .slice t x lo hi none => match P.underlying t with
    | some (.slice e) => (match P.info? e with | some j => some (.slice j.size x lo hi) | none => none)
    | some .string => some (.sliceS x lo hi)
    | some (.array n e) => (match P.info? e with | some j => some (.sliceA n j.size x lo hi) | none => none)
    | _ => none
  | .slice t x none (some (.const (.int .i64 (.ofNat 0)))) (some (.const (.int .i64 (.ofNat 0)))) => match P.underlying t with
    | some (.slice e) => (match P.info? e with | some _ => some (.slice0 x) | none => none)
    | _ => none
  | .slice t x lo hi (some mx) => match P.underlying t with
    | some (.slice e) => (match P.info? e with | some j => some (.slice3 j.size x lo hi (some mx)) | none => none)
    | _ => none
  | .extract x i => some (.extract i x)
  | .unOp op _ x => some (.un op x)
  | .binOp op t x y _ => match P.underlying t with
    | some (.int _) => some (.bin op x y)
    | some .string => some (.bin op x y)
    | some .bool => (match op with | .eql => some (.binB false x y) | .neq => some (.binB true x y) | _ => none)
    | some (.slice _) => (match y, op with
      | .const (.slice none 0 0), .eql => some (.isnil false x)
      | .const (.slice none 0 0), .neq => some (.isnil true x)
      | _, _ => none)
    | some (.struct _) => (match flatOffs P 40 t with
      | some l => if P.eqGuardType P.depth t = false then (match op with | .eql => some (.eqA false l x y) | .neq => some (.eqA true l x y) | _ => none) else none
      | none => none)
    | _ => none
  | .convert s d x => match P.underlying s, P.underlying d with
    | some (.int _), some (.int k) => some (.conv k x)
    | _, _ => none
  | .makeInterface t x => if P.concrete t = true then some (.iface t x) else none
  | .makeFunc fn first caps => some (.mkfun fn first.toList caps.toList)
  | .nilCheck x => some (.nilchk x)
  | .store t x v => match P.info? t, P.underlying t with
    | some i, some d => some (.store i.size (isAggD d) x v)
    | _, _ => none
  | .call { callee := .builtin b, args, argTypes } => match b, args.toList, argTypes.toList with
    | .len, [x], [t] => (match P.underlying t with | some (.slice _) => some (.len x) | some .string => some (.lenS x) | _ => none)
    | .max, l, _ => some (.mm true l)
    | .min, l, _ => some (.mm false l)
    | .append, [x, y], [t, u] => if t = u then (match P.underlying t with
      | some (.slice e) => (match P.info? e with
        | some i => (match i.zero with
          | some z => if z.cells.size = i.size ∧ 0 < i.size then some (.append e i.size i.bytes x y) else none
          | none => none)
        | none => none)
      | _ => none) else none
    | .copy, [x, y], [t, u] => if t = u then (match P.underlying t with
      | some (.slice e) => (match P.info? e with | some i => some (.copy i.size x y) | none => none)
      | _ => none) else none
    | .clear, [x], [t] => (match P.underlying t with
      | some (.slice e) => (match P.info? e with
        | some i => (match i.zero with
          | some z => (match cst z with | some y => if y.cells.all AV.one ∧ y.cells.length = i.size ∧ z.cells.size = i.size ∧ 0 < i.size then some (.clear i.size y.cells x) else none | none => none)
          | none => none)
        | none => none)
      | _ => none)
    | _, _, _ => none
  | .call { callee := .value (.func f), args, .. } => some (.call f args.toList)
  | .call { callee := .value (.tmp t), args, .. } => some (.callv (.tmp t) args.toList)
  | .call { callee := .invoke x name, args, .. } => some (.invoke x name args.toList)
  | _ => none
/-- What a map's keys are: a number; two numbers. -/
def keyT (P : Program) (k : TypeId) : Option Nat := match P.underlying k with
  | some (.int _) => some 1
  | some (.array 2 e) => (match P.underlying e, P.info? e with
    | some (.int _), some i => if i.size = 1 then some 2 else none
    | _, _ => none)
  | _ => none
/-- Further operations. -/
def trOp2 (P : Program) (o : Oper) : Option IOp :=
  match o.op with
  | .call { callee := .builtin .append, args, argTypes } => match args.toList, argTypes.toList with
    | [x, y], [t, u] => (match P.underlying t, P.underlying u with
      | some (.slice e), some .string => (match P.info? e with
        | some i => (match i.zero with
          | some (.int .u8 (.ofNat 0)) => if i.size = 1 ∧ i.bytes = 1 then some (.appS e x y) else none
          | _ => none)
        | none => none)
      | _, _ => none)
    | _, _ => none
  | .binOp op t x y _ => match P.underlying t with
    | some (.interface _) => (match y, op with
      | .const .nilIface, .eql => some (.isnilI false x)
      | .const .nilIface, .neq => some (.isnilI true x)
      | _, _ => none)
    | some (.array 2 e) => (match P.underlying e, P.info? e with
      | some (.int _), some i => if i.size = 1 then (match op with
        | .eql => some (.eqA false [(0, 0), (0, 1)] x y)
        | .neq => some (.eqA true [(0, 0), (0, 1)] x y)
        | _ => none) else none
      | _, _ => none)
    | _ => none
  | .makeMap t none => match P.underlying t with
    | some (.map k _) => (match keyT P k with | some _ => some .mkmap | none => none)
    | _ => none
  | .mapUpdate t x k v => match P.underlying t with
    | some (.map kt _) => (match keyT P kt with | some nk => some (.mapset nk x k v) | none => none)
    | _ => none
  | .lookup t x k ok => match P.underlying t with
    | some (.map kt e) => (match keyT P kt, P.info? e with
      | some nk, some i => (match i.zero with
        | some z => (match cst1 z with | some y => if y.simp1 then some (.lookup ok y nk x k) else none | none => none)
        | none => none)
      | _, _ => none)
    | _ => none
  | _ => none
def trOp (P : Program) (o : Oper) : Option IOp :=
  match trOp1 P o with
  | some io => some io
  | none => trOp2 P o
/-- Operations that the first translation alone yields. -/
def isOld : IOp → Bool
  | .call .. | .callv .. | .invoke .. | .mknil | .isnil .. | .store .. | .append .. | .copy .. | .clear .. => true
  | _ => false
theorem trOp_old {P : Program} {o : Oper} {io : IOp} (hi : isOld io = true) (h : trOp P o = some io) : trOp1 P o = some io := by
  unfold trOp at h
  split at h
  · rename_i h1; cases h; exact h1
  · unfold trOp2 at h
    repeat' (split at h)
    all_goals (first | (cases h; done) | (cases h; cases hi))
def QOK (P : Program) (o : Oper) (a : Act) (w : World) (m : AMap) (H : AHeap) (B : Nat) : QR → Prop
  | .val x => ∃ v, (execOp a.eval o).run P w = .ok (.value v) w ∧ RV w m H B x v
  | .box e s cells => cells.length = s ∧ ∃ vs : Array Value, (execOp a.eval o).run P w = .ok (.value (.pointer (some ⟨w.heap.size, 0, none⟩))) (w.alloc (.cells vs e)) ∧ vs.size = s ∧
      ∀ (j : Nat) (x : AV), cells[j]? = some x → ∃ v, vs[j]? = some v ∧ RV w m H B x v ∧ x.one = true
  | .arr e s elems => (∀ el, el ∈ elems → el.length = s) ∧ ∃ (vs : Array Value) (cap : Nat), (execOp a.eval o).run P w = .ok (.value (.slice (some ⟨w.heap.size, 0, none⟩) elems.length cap)) (w.alloc (.cells vs e)) ∧
      elems.length ≤ cap ∧ cap ≤ maxLen ∧ vs.size = cap * s ∧
      ∀ (i : Nat) (el : List AV) (j : Nat) (x : AV), elems[i]? = some el → el[j]? = some x → ∃ v, vs[i * s + j]? = some v ∧ RV w m H B x v ∧ x.one = true
def RL (w : World) (m : AMap) (H : AHeap) (B : Nat) (xs : List AV) (vs : Array Value) : Prop :=
  xs.length = vs.size ∧ (∀ x, x ∈ xs → x.one = true) ∧ ∀ (i : Nat) (x : AV) (v : Value), xs[i]? = some x → vs[i]? = some v → RV w m H B x v
section
variable {P : Program} {w : World} {m : AMap} {H : AHeap} {B : Nat}
theorem RL.set {xs : List AV} {vs : Array Value} (h : RL w m H B xs vs) {x : AV} {v : Value} (hv : RV w m H B x v) (h1 : x.one = true) (i : Nat) : RL w m H B (xs.set i x) (vs.setIfInBounds i v) := by
  obtain ⟨l, o, p⟩ := h
  refine ⟨by simp [l], fun y hy => ?_, fun k y u e1 e2 => ?_⟩
  · rcases List.mem_or_eq_of_mem_set hy with hy | rfl
    · exact o y hy
    · exact h1
  · by_cases hk : i = k
    · subst hk
      rw [List.getElem?_set] at e1
      simp at e1
      obtain ⟨hi, rfl⟩ := e1
      have hi' : i < vs.size := by omega
      simp [hi'] at e2
      subst e2
      exact hv
    · rw [List.getElem?_set_ne hk] at e1
      rw [Array.getElem?_setIfInBounds_ne hk] at e2
      exact p k y u e1 e2
end
end Go.Awp
/- The truth of quiet operations in the model (part 5). Generic in the program. -/
namespace Go.Awp
set_option linter.unusedSectionVars false
variable [Fx]
section
variable {P : Program} {n : Nat} {w : World} {m : AMap} {H : AHeap} {B : Nat} {env : AEnv} {a : Act} {o : Oper} {r : QR}
theorem q_mv {x : Operand} (ho : o.op = .move x ∨ o.op = .assign x) (fr : FR n w m H B env a) (h : qstep (.mv x) env H = some r) : QOK P o a w m H B r := by
  simp only [qstep] at h
  split at h
  · rename_i v hv
    cases h
    exact ⟨_, by rcases ho with ho | ho <;> simp [execOp, ho], ev_sound fr hv⟩
  · cases h
theorem q_pick {c x y : Operand} (ho : o.op = .pick c x y) (fr : FR n w m H B env a) (h : qstep (.pick c x y) env H = some r) : QOK P o a w m H B r := by
  simp only [qstep] at h
  split at h
  · rename_i hc
    have hcv := ev_sound fr hc
    split at h
    · rename_i v hv
      cases h
      refine ⟨_, ?_, ev_sound fr hv⟩
      generalize he : a.eval c = u at hcv
      cases hcv
      simp [execOp, ho, he, asBool]
    · cases h
  · rename_i hc
    have hcv := ev_sound fr hc
    split at h
    · rename_i v hv
      cases h
      refine ⟨_, ?_, ev_sound fr hv⟩
      generalize he : a.eval c = u at hcv
      cases hcv
      simp [execOp, ho, he, asBool]
    · cases h
  · cases h
theorem q_load {t : TypeId} {x : Operand} {i : TypeInfo} {d : TypeDesc} (hi : P.info? t = some i) (hd : P.underlying t = some d) (ho : o.op = .load t x) (st : St w m H B) (fr : FR n w m H B env a)
    (h : qstep (.load i.size (isAggD d) x) env H = some r) : QOK P o a w m H B r := by
  simp only [qstep] at h
  split at h
  · rename_i p hp
    split at h
    · rename_i cells hc
      split at h
      · rename_i v hv
        cases h
        obtain ⟨ad, e1, e2⟩ := deref_sound st (ev_sound fr hp) hc
        obtain ⟨u, h1, h2⟩ := load_cells e2 hi hd hv
        exact ⟨u, by simp [execOp, ho, Instr.loadAt, e1, Instr.sureAddr, h1], h2⟩
      · cases h
    · cases h
  · cases h
theorem RV.not_tuple {x : AV} (h : x.isTuple = false) : ∀ l, x ≠ .tuple l := by
  intro l e; subst e; cases h
theorem q_box {t : TypeId} {x : Operand} {s : Nat} (ho : o.op = .box t x) (fr : FR n w m H B env a) (h : qstep (.box t s x) env H = some r) : QOK P o a w m H B r := by
  simp only [qstep] at h
  split at h
  · rename_i v hv
    split at h
    · rename_i hc
      cases h
      obtain ⟨l1, l2, l3⟩ := (ev_sound fr hv).cells (RV.not_tuple hc.2)
      refine ⟨hc.1, (a.eval x).cells, ?_, by omega, fun j y hy => ?_⟩
      · simp [execOp, ho, Instr.box, newVar, newRow]
      · have hj : j < v.cells.length := by
          rcases Nat.lt_or_ge j v.cells.length with h' | h'
          · exact h'
          · rw [List.getElem?_eq_none h'] at hy; cases hy
        exact ⟨(a.eval x).cells[j]'(by omega), Array.getElem?_eq_getElem _, l3 j y _ hy (Array.getElem?_eq_getElem _), l2 y (List.mem_of_getElem? hy)⟩
    · cases h
  · cases h
theorem q_zero {t : TypeId} {i : TypeInfo} {z : Value} {x : AV} (hi : P.info? t = some i) (hz : i.zero = some z) (hc : cst z = some x) (h1 : x.cells.all AV.one = true) (ho : o.op = .alloc t)
    (h : qstep (.zero t i.size x.cells) env H = some r) : QOK P o a w m H B r := by
  simp only [qstep] at h
  split at h
  · rename_i hs
    cases h
    have hx := cst_sound (w := w) (m := m) (H := H) (B := B) hc
    have ht : ∀ l, x ≠ .tuple l := by
      intro l e; subst e; simp [AV.cells, AV.one] at h1
    obtain ⟨l1, l2, l3⟩ := hx.cells ht
    refine ⟨hs, z.cells, ?_, by omega, fun j y hy => ?_⟩
    · simp [execOp, ho, Instr.alloc, newVar, newRow, zeroValue, typeInfo, hi, hz]
    · have hj : j < x.cells.length := by
        rcases Nat.lt_or_ge j x.cells.length with h' | h'
        · exact h'
        · rw [List.getElem?_eq_none h'] at hy; cases hy
      exact ⟨z.cells[j]'(by omega), Array.getElem?_eq_getElem _, l3 j y _ hy (Array.getElem?_eq_getElem _), l2 y (List.mem_of_getElem? hy)⟩
  · cases h
theorem q_faddr {t : TypeId} {x : Operand} {k : Nat} {fields : Array Field} {f : Field} {i : TypeInfo} (hd : P.underlying t = some (.struct fields)) (hf : fields[k]? = some f) (hi : P.info? f.type = some i) (hn : i.size ≠ 0)
    (ho : o.op = .fieldAddr t x k) (fr : FR n w m H B env a) (h : qstep (.faddr f.offset x) env H = some r) : QOK P o a w m H B r := by
  simp only [qstep] at h
  split at h
  · rename_i hh ver i' j hx
    cases h
    have hv := ev_sound fr hx
    generalize he : a.eval x = u at hv
    cases hv with
    | ptr _ _ _ _ ad hlt hv =>
      refine ⟨.pointer (some (ad.add f.offset)), by simp [execOp, ho, Instr.fieldAt, run_underlying hd, hf, he, Instr.sureAddr, fieldPlace, run_sizeOf' hi, hn], ?_⟩
      refine .ptr _ _ _ _ _ hlt fun o ho => ⟨(hv o ho).1, fun e => ?_⟩
      obtain ⟨b, q1, q2⟩ := (hv o ho).2 e
      exact ⟨b, q1, by rw [q2, add_none]; congr 1; omega⟩
  · rename_i cells hx
    cases h
    have hv := ev_sound fr hx
    generalize he : a.eval x = u at hv
    cases hv with
    | rop _ b off vs hb hlt hc hv =>
      refine ⟨.pointer (some ((⟨b, off, none⟩ : Addr).add f.offset)), by simp [execOp, ho, Instr.fieldAt, run_underlying hd, hf, he, Instr.sureAddr, fieldPlace, run_sizeOf' hi, hn], ?_⟩
      rw [add_none]
      refine .rop _ b _ (fun j => vs (f.offset + j)) hb hlt (fun j y hy => ?_) (fun j y hy => ?_)
      · rw [List.getElem?_drop] at hy
        have := hc _ y hy
        rwa [← Nat.add_assoc] at this
      · rw [List.getElem?_drop] at hy
        exact hv _ y hy
  · cases h
theorem q_field {t : TypeId} {x : Operand} {k : Nat} {fields : Array Field} {f : Field} {i : TypeInfo} {d : TypeDesc} (hd : P.underlying t = some (.struct fields)) (hf : fields[k]? = some f) (hi : P.info? f.type = some i) (hd' : P.underlying f.type = some d)
    (ho : o.op = .field t x k) (fr : FR n w m H B env a) (h : qstep (.field f.offset i.size (isAggD d) x) env H = some r) : QOK P o a w m H B r := by
  simp only [qstep] at h
  split at h
  · rename_i cs hx
    have hv := ev_sound fr hx
    generalize he : a.eval x = u at hv
    cases hv with
    | agg _ vs hl h1 hh =>
      by_cases hg : isAggD d = true
      · rw [if_pos hg] at h
        cases h
        refine ⟨.agg (vs.extract f.offset (f.offset + i.size)), by simp [execOp, ho, Instr.field, run_underlying hd, hf, he, asAgg, part, run_isAgg hd', hg, run_sizeOf' hi], ?_⟩
        refine .agg _ _ (by simp [hl]; omega) (fun y hy => h1 y (List.mem_of_mem_drop (List.mem_of_mem_take hy))) (fun k' y u e1 e2 => ?_)
        rw [List.getElem?_take] at e1
        split at e1
        · rw [List.getElem?_drop] at e1
          refine hh _ y u e1 ?_
          have := Array.getElem?_extract (xs := vs) (start := f.offset) (stop := f.offset + i.size) (i := k')
          rw [this] at e2
          split at e2
          · exact e2
          · cases e2
        · cases e1
      · rw [if_neg hg] at h
        split at h
        · rename_i y hy
          cases h
          have hlt : f.offset < vs.size := by
            rcases Nat.lt_or_ge f.offset vs.size with h' | h'
            · exact h'
            · rw [List.getElem?_eq_none (by omega)] at hy; cases hy
          refine ⟨vs[f.offset], ?_, hh _ y _ hy (Array.getElem?_eq_getElem hlt)⟩
          simp [execOp, ho, Instr.field, run_underlying hd, hf, he, asAgg, part, run_isAgg hd', hg, hlt]
        · cases h
  · cases h
end
end Go.Awp
/- The truth of quiet operations in the model (part 6). Generic in the program. -/
namespace Go.Awp
set_option linter.unusedSectionVars false
variable [Fx]
section
variable {P : Program} {n : Nat} {w : World} {m : AMap} {H : AHeap} {B : Nat} {env : AEnv} {a : Act} {o : Oper} {r : QR}
theorem q_extract {x : Operand} {i : Nat} (ho : o.op = .extract x i) (fr : FR n w m H B env a) (h : qstep (.extract i x) env H = some r) : QOK P o a w m H B r := by
  simp only [qstep] at h
  split at h
  · rename_i vs hx
    split at h
    · rename_i v hv
      cases h
      have hx' := ev_sound fr hx
      generalize he : a.eval x = u at hx'
      cases hx' with
      | tuple _ us hl hh =>
        have hlt : i < us.size := by
          rcases Nat.lt_or_ge i us.size with h' | h'
          · exact h'
          · rw [List.getElem?_eq_none (by omega)] at hv; cases hv
        exact ⟨us[i], by simp [execOp, ho, Instr.extract, he, hlt], hh i v _ hv (Array.getElem?_eq_getElem hlt)⟩
    · cases h
  · cases h
theorem q_iface {t : TypeId} {x : Operand} (hc : P.concrete t = true) (ho : o.op = .makeInterface t x) (fr : FR n w m H B env a) (h : qstep (.iface t x) env H = some r) : QOK P o a w m H B r := by
  simp only [qstep] at h
  split at h
  · rename_i v hv
    cases h
    exact ⟨.iface t (a.eval x), by simp [execOp, ho, run_makeInterface w t _ hc], .iface t v _ (ev_sound fr hv)⟩
  · cases h
theorem evs_sound (fr : FR n w m H B env a) : ∀ (l : List Operand) (vs : List AV), evs env l = some vs →
    vs.length = l.length ∧ ∀ (i : Nat) (x : AV) (v : Value), vs[i]? = some x → (l.map a.eval)[i]? = some v → RV w m H B x v
  | [], vs, h => by cases h; exact ⟨rfl, by simp⟩
  | x :: l, vs, h => by
    simp only [evs] at h
    split at h
    · rename_i v r h1 h2
      cases h
      obtain ⟨q1, q2⟩ := evs_sound fr l r h2
      refine ⟨by simp [q1], fun i y u e1 e2 => ?_⟩
      cases i with
      | zero => simp at e1 e2; subst e1; subst e2; exact ev_sound fr h1
      | succ i => exact q2 i y u (by simpa using e1) (by simpa using e2)
    · cases h
theorem q_mkfun {fn : Fn} {f c : Array Operand} (ho : o.op = .makeFunc fn f c) (fr : FR n w m H B env a) (h : qstep (.mkfun fn f.toList c.toList) env H = some r) : QOK P o a w m H B r := by
  simp only [qstep] at h
  split at h
  · rename_i x y h1 h2
    cases h
    obtain ⟨p1, p2⟩ := evs_sound fr _ _ h1
    obtain ⟨q1, q2⟩ := evs_sound fr _ _ h2
    refine ⟨.func fn (f.map a.eval) (c.map a.eval), by simp [execOp, ho, Instr.makeFunc], .func fn _ _ _ _ (by simpa using p1) (by simpa using q1) (fun i x v e1 e2 => p2 i x v e1 ?_) (fun i x v e1 e2 => q2 i x v e1 ?_)⟩
    · simpa using e2
    · simpa using e2
  · cases h
theorem q_nilchk {x : Operand} (ho : o.op = .nilCheck x) (fr : FR n w m H B env a) (h : qstep (.nilchk x) env H = some r) : QOK P o a w m H B r := by
  simp only [qstep] at h
  split at h
  · rename_i h' ver i j hx
    cases h
    have hv := ev_sound fr hx
    generalize he : a.eval x = u at hv
    refine ⟨u, ?_, hv⟩
    cases hv; simp [execOp, ho, he]
  · rename_i c hx
    cases h
    have hv := ev_sound fr hx
    generalize he : a.eval x = u at hv
    refine ⟨u, ?_, hv⟩
    cases hv; simp [execOp, ho, he]
  · rename_i f p q hx
    cases h
    have hv := ev_sound fr hx
    generalize he : a.eval x = u at hv
    refine ⟨u, ?_, hv⟩
    cases hv; simp [execOp, ho, he]
  · cases h
theorem q_un {op : UnOp} {t : TypeId} {x : Operand} (ho : o.op = .unOp op t x) (fr : FR n w m H B env a) (h : qstep (.un op x) env H = some r) : QOK P o a w m H B r := by
  simp only [qstep] at h
  split at h
  · rename_i v hv
    split at h
    · rename_i y hy
      cases h
      have hx := ev_sound fr hv
      generalize he : a.eval x = u at hx
      unfold aun at hy
      split at hy
      · cases hy; cases hx
        exact ⟨_, by simp [execOp, ho, he, Op.unary], .bool _⟩
      · cases hy; cases hx
        exact ⟨_, by simp [execOp, ho, he, Op.unary, Op.intArith], .int _ _⟩
      · cases hy
    · cases h
  · cases h
theorem q_conv {s d : TypeId} {k k' : IntKind} {x : Operand} (hs : P.underlying s = some (.int k')) (hd : P.underlying d = some (.int k)) (ho : o.op = .convert s d x) (fr : FR n w m H B env a) (h : qstep (.conv k x) env H = some r) : QOK P o a w m H B r := by
  simp only [qstep] at h
  split at h
  · rename_i k1 y hv
    cases h
    have hx := ev_sound fr hv
    generalize he : a.eval x = u at hx
    cases hx
    exact ⟨.int k (k.wrap y), by simp [execOp, ho, he, convert, run_underlying hs, run_underlying hd, Conv.intToInt], .int _ _⟩
  · cases h
theorem q_len {t e : TypeId} {x : Operand} (ht : P.underlying t = some (.slice e)) (ho : o.op = .call { callee := .builtin .len, args := #[x], argTypes := #[t] }) (fr : FR n w m H B env a)
    (h : qstep (.len x) env H = some r) : QOK P o a w m H B r := by
  simp only [qstep] at h
  split at h
  · rename_i v hv
    split at h
    · rename_i y hy
      cases h
      have hx := ev_sound fr hv
      generalize he : a.eval x = u at hx
      have slc : ∀ (ad : Option Addr) (l c : Nat), u = .slice ad l c → (execOp a.eval o).run P w = .ok (.value (.int .i64 l)) w := by
        intro ad l c hu
        simp [execOp, ho, resolve, invoke, builtin, Builtin.len_, run_underlying ht, he, hu, goInt]
      unfold alen at hy
      split at hy
      · split at hy
        · rename_i o' ho'
          split at hy
          · rename_i hver
            cases hy; cases hx with
            | sub _ _ _ _ _ _ ad l c hlt hh =>
              obtain ⟨b, _, _, q, _⟩ := (hh o' ho').2 hver
              exact ⟨_, slc _ _ _ rfl, by rw [q]; exact .int _ _⟩
          · cases hy
        · cases hy
      · split at hy
        · rename_i o' ho'
          split at hy
          · rename_i hver
            cases hy; cases hx with
            | own _ _ _ _ ad l c hlt hh =>
              obtain ⟨b, _, _, q, _⟩ := (hh o' ho').2 hver
              exact ⟨_, slc _ _ _ rfl, by rw [q]; exact .int _ _⟩
          · cases hy
        · cases hy
      · cases hy; cases hx with
        | roNil => exact ⟨_, slc _ _ _ rfl, .int _ _⟩
        | ro => exact ⟨_, slc _ _ _ rfl, .int _ _⟩
      · cases hy; cases hx
        exact ⟨_, slc _ _ _ rfl, .int _ _⟩
      · cases hy
    · cases h
  · cases h
theorem q_lenS {t : TypeId} {x : Operand} (ht : P.underlying t = some .string) (ho : o.op = .call { callee := .builtin .len, args := #[x], argTypes := #[t] }) (fr : FR n w m H B env a)
    (h : qstep (.lenS x) env H = some r) : QOK P o a w m H B r := by
  simp only [qstep] at h
  split at h
  · rename_i b hv
    cases h
    have hx := ev_sound fr hv
    generalize he : a.eval x = u at hx
    cases hx
    exact ⟨.int .i64 b.size, by simp [execOp, ho, resolve, invoke, builtin, Builtin.len_, run_underlying ht, he, goInt], .int _ _⟩
  · cases h
theorem foldlM_mm (f : Value → Value → Sem Value) (mx : Bool) (hf : ∀ k n k' y, (f (.int k n) (.int k' y)).run P w = .ok (.int k (if mx then (if y > n then y else n) else (if y < n then y else n))) w) :
    ∀ (vs : List AV) (us : List Value) (k : IntKind) (z : Int) (y : AV), (∀ (i : Nat) (x : AV) (v : Value), vs[i]? = some x → us[i]? = some v → RV w m H B x v) → vs.length = us.length → amm.go mx k z vs = some y →
    ∃ v, (us.foldlM f (.int k z)).run P w = .ok v w ∧ RV w m H B y v
  | [], us, k, z, y, _, hl, h => by
    cases us with
    | nil => simp [amm.go] at h; subst h; exact ⟨_, rfl, .int _ _⟩
    | cons => simp at hl
  | x :: vs, us, k, z, y, hr, hl, h => by
    cases us with
    | nil => simp at hl
    | cons u us =>
      have h0 := hr 0 x u rfl rfl
      unfold amm.go at h
      split at h
      · rename_i e; cases e
      · rename_i e
        cases e
        cases h0
        obtain ⟨v, q1, q2⟩ := foldlM_mm f mx hf vs us k _ y (fun i x v e1 e2 => hr (i + 1) x v (by simpa using e1) (by simpa using e2)) (by simpa using hl) h
        exact ⟨v, by rw [List.foldlM_cons, Sem.run_bind, hf]; exact q1, q2⟩
      · cases h
theorem q_mm {mx : Bool} {args : Array Operand} {ts : Array TypeId} (ho : o.op = .call { callee := .builtin (if mx then .max else .min), args := args, argTypes := ts }) (fr : FR n w m H B env a)
    (h : qstep (.mm mx args.toList) env H = some r) : QOK P o a w m H B r := by
  simp only [qstep] at h
  split at h
  · rename_i vs hvs
    split at h
    · rename_i y hy
      cases h
      obtain ⟨p1, p2⟩ := evs_sound fr _ _ hvs
      have hb : ∀ (us : List Value), us = args.toList.map a.eval → ∃ v, (match us with | [] => (stuck "" : Sem Value) | x :: rest => rest.foldlM (if mx then Builtin.max2 else Builtin.min2) x).run P w = .ok v w ∧ RV w m H B y v := by
        intro us hus
        rw [← hus] at p2
        have pl : vs.length = us.length := by rw [p1, hus]; simp
        cases vs with
        | nil => simp [amm] at hy
        | cons x vs =>
          cases us with
          | nil => simp at pl
          | cons u us =>
            have h0 := p2 0 x u rfl rfl
            unfold amm at hy
            split at hy
            · cases ‹_›
            · rename_i e
              cases e
              cases h0
              refine foldlM_mm _ mx ?_ vs us _ _ y (fun i x v e1 e2 => p2 (i + 1) x v (by simpa using e1) (by simpa using e2)) (by simpa using pl) hy
              intro k n k' y
              cases mx <;> simp [Builtin.max2, Builtin.min2]
            · cases hy
      obtain ⟨v, q1, q2⟩ := hb _ rfl
      refine ⟨v, ?_, q2⟩
      cases mx
      · simp only [Bool.false_eq_true, if_false] at ho q1
        simp only [execOp, ho, resolve, invoke, builtin, Sem.run_bind, Sem.run_pure, Result.andThen_ok, Builtin.min_]
        simp only [Array.toList_map]
        revert q1
        split
        · intro q1; cases q1
        · rename_i he
          intro q1; rw [he]; simp only [q1, Result.andThen_ok]
      · simp only [if_true] at ho q1
        simp only [execOp, ho, resolve, invoke, builtin, Sem.run_bind, Sem.run_pure, Result.andThen_ok, Builtin.max_]
        simp only [Array.toList_map]
        revert q1
        split
        · intro q1; cases q1
        · rename_i he
          intro q1; rw [he]; simp only [q1, Result.andThen_ok]
    · cases h
  · cases h
end
end Go.Awp
/- The truth of quiet operations in the model (part 7). Generic in the program. -/
namespace Go.Awp
set_option linter.unusedSectionVars false
variable [Fx]
section
variable {P : Program} {n : Nat} {w : World} {m : AMap} {H : AHeap} {B : Nat} {env : AEnv} {a : Act} {o : Oper} {r : QR}
theorem q_bin {op : BinOp} {t u : TypeId} {x y : Operand} (ho : o.op = .binOp op t x y u) (fr : FR n w m H B env a) (h : qstep (.bin op x y) env H = some r) : QOK P o a w m H B r := by
  simp only [qstep] at h
  split at h
  · rename_i p q hp hq
    split at h
    · rename_i z hz
      cases h
      have hx := ev_sound fr hp
      have hy := ev_sound fr hq
      generalize he : a.eval x = u at hx
      generalize hf : a.eval y = v at hy
      unfold abin at hz
      split at hz
      · rename_i k s k' s'
        cases hx; cases hy
        split at hz
        · rename_i hk
          subst hk
          split at hz
          all_goals (first | (cases hz; done) | skip)
          all_goals (first
            | (cases hz; exact ⟨_, by simp [execOp, ho, he, hf, eqGuard, binOp, Op.intArith, Op.intCmp]; rfl, by constructor⟩)
            | (cases hz; exact ⟨_, by simp [execOp, ho, he, hf, eqGuard, binOp, Op.intArith, Op.intCmp], by constructor⟩)
            | (cases hz; exact ⟨_, by simp [execOp, ho, he, hf, eqGuard, binOp, Op.intBits]; rfl, by constructor⟩)
            | (split at hz
               · cases hz
               · rename_i h0
                 first
                 | (cases hz; exact ⟨_, by simp [execOp, ho, he, hf, eqGuard, binOp, Op.intDiv, h0]; rfl, by constructor⟩)
                 | (cases hz; exact ⟨_, by simp [execOp, ho, he, hf, eqGuard, binOp, Op.shift, h0]; rfl, by constructor⟩)))
        · cases hz
      · rename_i sa sb
        cases hx; cases hy
        split at hz
        · cases hz; exact ⟨_, by simp [execOp, ho, he, hf, eqGuard, binOp, Op.stringOp]; rfl, by rw [beq_toListBytes]; constructor⟩
        · cases hz; exact ⟨_, by simp [execOp, ho, he, hf, eqGuard, binOp, Op.stringOp]; rfl, by rw [beq_toListBytes]; constructor⟩
        · split at hz
          · rename_i hs
            cases hz
            have hs' : ¬ (9223372036854775807 : Int) < (sa.size : Int) + sb.size := by omega
            exact ⟨.string (sa ++ sb), by simp [execOp, ho, he, hf, eqGuard, binOp, Op.stringOp, hs'], by constructor⟩
          · cases hz
        · cases hz
      · cases hz
    · cases h
  · cases h
theorem q_binB {neg : Bool} {t u : TypeId} {x y : Operand} (ht : P.underlying t = some .bool) (ho : o.op = .binOp (if neg then .neq else .eql) t x y u) (fr : FR n w m H B env a) (h : qstep (.binB neg x y) env H = some r) : QOK P o a w m H B r := by
  simp only [qstep] at h
  split at h
  · rename_i p q hp hq
    cases h
    have hx := ev_sound fr hp
    have hy := ev_sound fr hq
    generalize he : a.eval x = u at hx
    generalize hf : a.eval y = v at hy
    cases hx; cases hy
    cases neg
    · exact ⟨.bool (p == q), by simp [execOp, ho, he, hf, eqGuard, binOp, Op.equal, Op.maxDepth, run_equalIn_bool' w _ t p q ht], by constructor⟩
    · exact ⟨.bool (!(p == q)), by simp [execOp, ho, he, hf, eqGuard, binOp, Op.equal, Op.maxDepth, run_equalIn_bool' w _ t p q ht], by constructor⟩
  · cases h
theorem CellsAt.elem {ad : Addr} {e : List AV} {s b i : Nat} {vs : Nat → Nat → Value} {off : Nat} {l : List (List AV)} (hc : ∀ (i : Nat) (e : List AV) (j : Nat) (x : AV), l[i]? = some e → e[j]? = some x → w.cell? ⟨b, off + i * s + j, none⟩ = some (vs i j) ∧ x.one = true)
    (hv : ∀ (i : Nat) (e : List AV) (j : Nat) (x : AV), l[i]? = some e → e[j]? = some x → RV w m H B x (vs i j)) (hb : ∀ h, m h ≠ some b) (hlt : b < w.heap.size) (he : l[i]? = some e) (had : ad = ⟨b, off + i * s, none⟩) :
    RV w m H B (.rop e) (.pointer (some ad)) := by
  subst had
  exact .rop e b _ (vs i) hb hlt (fun j x hj => hc i e j x he hj) (fun j x hj => hv i e j x he hj)
theorem run_iaddr {t e : TypeId} {j : TypeInfo} (ht : P.underlying t = some (.slice e)) (hj : P.info? e = some j) {x i : Operand} (ho : o.op = .indexAddr t x i) {ad : Addr} {len cap : Nat} {k : IntKind} {z : Int} (hx : a.eval x = .slice (some ad) len cap) (hi : a.eval i = .int k z)
    (h0 : 0 ≤ z) (h1 : z < len) : (execOp a.eval o).run P w = .ok (.value (.pointer (some (ad.add (z.toNat * j.size))))) w := by
  simp [execOp, ho, hx, hi, Instr.indexAt, asIntOf, run_underlying ht, h0, h1, run_sizeOf' hj]
theorem q_iaddr {t e : TypeId} {j : TypeInfo} {x i : Operand} (ht : P.underlying t = some (.slice e)) (hj : P.info? e = some j) (ho : o.op = .indexAddr t x i) (fr : FR n w m H B env a) (h : qstep (.iaddr j.size x i) env H = some r) : QOK P o a w m H B r := by
  simp only [qstep] at h
  split at h
  · rename_i p q hp hq
    split at h
    · rename_i v hv
      cases h
      have hx := ev_sound fr hp
      have hy := ev_sound fr hq
      generalize he : a.eval x = u at hx
      generalize hf : a.eval i = v at hy
      unfold aiaddr at hv
      split at hv
      · rename_i h' ver i0 j0 s' len k z
        split at hv
        · rename_i o' ho'
          split at hv
          · rename_i hc
            obtain ⟨c1, c2, c3, c4⟩ := hc
            cases hv; cases hy
            cases hx with
            | sub _ _ _ _ _ _ ad l c hlt hh =>
              obtain ⟨p1, p2⟩ := hh o' ho'
              obtain ⟨b, q1, q2, q3, q4⟩ := p2 c1
              have hcap : 0 < c := by omega
              have had := q2 hcap
              subst had
              refine ⟨_, run_iaddr ht hj ho he hf c3 (by omega), ?_⟩
              rw [add_none]
              refine .ptr _ _ _ _ _ hlt fun o2 ho2 => ?_
              rw [ho'] at ho2; cases ho2
              exact ⟨p1, fun _ => ⟨b, q1, by congr 1; omega⟩⟩
          · cases hv
        · cases hv
      · rename_i h' ver i0 len k z
        split at hv
        · rename_i o' ho'
          split at hv
          · rename_i hc
            obtain ⟨c1, c2, c3, c4⟩ := hc
            cases hv; cases hy
            cases hx with
            | own _ _ _ _ ad l c hlt hh =>
              obtain ⟨p1, p2⟩ := hh o' ho'
              obtain ⟨b, q1, q2, q3, q4, q5, q6, q7⟩ := p2 c1
              have hcap : 0 < c := by omega
              have had := q2 (.inl hcap)
              subst had
              refine ⟨_, run_iaddr ht hj ho he hf c3 (by omega), ?_⟩
              rw [add_none]
              refine .ptr _ _ _ _ _ hlt fun o2 ho2 => ?_
              rw [ho'] at ho2; cases ho2
              exact ⟨p1, fun _ => ⟨b, q1, by rw [c2]; congr 1; rw [Nat.add_mul, Nat.add_zero]⟩⟩
          · cases hv
        · cases hv
      · rename_i fl L k z
        split at hv
        · rename_i h0
          split at hv
          · rename_i el hel
            split at hv
            · rename_i hsz
              cases hv; cases hy
              have hlt : z.toNat < L.length := by
                rcases Nat.lt_or_ge z.toNat L.length with h' | h'
                · exact h'
                · rw [List.getElem?_eq_none h'] at hel; cases hel
              cases hx with
              | roNil => simp at hlt
              | ro _ _ s b off cap vs hl hb hfr hlt' hs hcap hc hv =>
                have hs' := hs el (List.mem_of_getElem? hel)
                have es : s = j.size := by omega
                subst es
                refine ⟨_, run_iaddr ht hj ho he hf h0 (by omega), ?_⟩
                rw [add_none]
                exact CellsAt.elem hc hv hb hlt' hel rfl
            · cases hv
          · cases hv
        · cases hv
      · cases hv
    · cases h
  · cases h
theorem q_iaddrA {t e : TypeId} {len : Nat} {j : TypeInfo} {x i : Operand} (ht : P.underlying t = some (.array len e)) (hj : P.info? e = some j) (ho : o.op = .indexAddr t x i) (fr : FR n w m H B env a) (h : qstep (.iaddrA len j.size x i) env H = some r) : QOK P o a w m H B r := by
  simp only [qstep] at h
  have run : ∀ (ad : Addr) (k : IntKind) (z : Int), a.eval x = .pointer (some ad) → a.eval i = .int k z → 0 ≤ z → z < len → (execOp a.eval o).run P w = .ok (.value (.pointer (some (ad.add (z.toNat * j.size))))) w := by
    intro ad k z hx hi h0 h1
    simp [execOp, ho, hx, hi, Instr.indexAt, asIntOf, run_underlying ht, h0, h1, run_sizeOf' hj, Instr.sureAddr]
  split at h
  · rename_i h' ver i' j' k z hp hq
    have hx := ev_sound fr hp
    have hy := ev_sound fr hq
    generalize he : a.eval x = u at hx
    generalize hf : a.eval i = v at hy
    cases hy
    split at h
    · rename_i hc
      cases h
      cases hx with
      | ptr _ _ _ _ ad hlt hv =>
        refine ⟨_, run ad k z he hf hc.1 hc.2, ?_⟩
        refine .ptr _ _ _ _ _ hlt fun o ho => ⟨(hv o ho).1, fun e => ?_⟩
        obtain ⟨b, q1, q2⟩ := (hv o ho).2 e
        exact ⟨b, q1, by rw [q2, add_none]; congr 1; omega⟩
    · cases h
  · rename_i cells k z hp hq
    have hx := ev_sound fr hp
    have hy := ev_sound fr hq
    generalize he : a.eval x = u at hx
    generalize hf : a.eval i = v at hy
    cases hy
    split at h
    · rename_i hc
      cases h
      cases hx with
      | rop _ b off vs hb hlt hcc hv =>
        refine ⟨_, run _ k z he hf hc.1 hc.2, ?_⟩
        rw [add_none]
        refine .rop _ b _ (fun q => vs (z.toNat * j.size + q)) hb hlt (fun q y hy => ?_) (fun q y hy => ?_)
        · rw [List.getElem?_drop] at hy
          have := hcc _ y hy
          rwa [← Nat.add_assoc] at this
        · rw [List.getElem?_drop] at hy
          exact hv _ y hy
    · cases h
  · cases h
end
end Go.Awp
