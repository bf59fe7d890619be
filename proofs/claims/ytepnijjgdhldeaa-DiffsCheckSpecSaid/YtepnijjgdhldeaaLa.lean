/- The abstract values of a walk, and what it means that a value of the model is one of them in a world. Generic in the program; nothing here is trusted. -/
import Derived.Below
import Derived.Orders
import Derived.Tactics
import Derived.Laws.OwnMore
namespace Go.Awp

/-- Abstract values. 'ro': a slice that nobody writes any more (true: made by this activation); 'own': a slice of an object of the activation's own; 'ptr': a pointer into such an object; 'rop': a pointer to a place that nobody writes. -/
inductive AV where
  | bool (b : Bool)
  | int (k : IntKind) (n : Int)
  | str (s : ByteArray)
  | func (fn : Fn) (first captured : List AV)
  | nilFunc
  | iface (t : TypeId) (v : AV)
  | nilIface
  | nilPtr
  | nilSlice
  | ptr (h ver i j : Nat)
  | own (h ver i len : Nat)
  | ro (fr : Bool) (l : List (List AV))
  | rop (cells : List AV)
  | agg (cs : List AV)
  | tuple (vs : List AV)
  deriving Inhabited

def AV.cells : AV → List AV
  | .agg cs => cs
  | x => [x]

def AV.one : AV → Bool
  | .agg _ | .tuple _ => false
  | _ => true

/-- An object of the activation's own: the type of its elements, the cells of an element, the elements. -/
structure AObj where
  e : TypeId
  s : Nat
  elems : List (List AV)

abbrev AHeap := List (Option AObj)

def AHeap.obj (H : AHeap) (h : Nat) : Option AObj := (H[h]?).join

theorem AHeap.obj_lt {H : AHeap} {h : Nat} {o : AObj} (e : H.obj h = some o) : h < H.length := by
  unfold AHeap.obj at e
  rcases Nat.lt_or_ge h H.length with h' | h'
  · exact h'
  · rw [List.getElem?_eq_none h'] at e; cases e

theorem AHeap.obj_push_lt {H : AHeap} {X : List (Option AObj)} {h : Nat} (hh : h < H.length) : AHeap.obj (H ++ X) h = AHeap.obj H h := by
  unfold AHeap.obj; rw [List.getElem?_append_left hh]

theorem AHeap.obj_push_eq {H : AHeap} {o : Option AObj} : AHeap.obj (H ++ [o]) H.length = o := by
  unfold AHeap.obj; simp

theorem AHeap.obj_set_eq {H : AHeap} {h : Nat} {o : Option AObj} (hh : h < H.length) : AHeap.obj (H.set h o) h = o := by
  unfold AHeap.obj; simp [hh]

theorem AHeap.obj_set_ne {H : AHeap} {h k : Nat} {o : Option AObj} (hh : h ≠ k) : AHeap.obj (H.set h o) k = AHeap.obj H k := by
  unfold AHeap.obj; rw [List.getElem?_set_ne hh]

abbrev AMap := Nat → Option Nat

inductive RV (w : World) (m : AMap) (H : AHeap) (B : Nat) : AV → Value → Prop
  | bool (b : Bool) : RV w m H B (.bool b) (.bool b)
  | int (k : IntKind) (n : Int) : RV w m H B (.int k n) (.int k n)
  | str (s : ByteArray) : RV w m H B (.str s) (.string s)
  | nilFunc : RV w m H B .nilFunc .nilFunc
  | nilIface : RV w m H B .nilIface .nilIface
  | nilPtr : RV w m H B .nilPtr (.pointer none)
  | nilSlice (a : Option Addr) : RV w m H B .nilSlice (.slice a 0 0)
  | func (fn : Fn) (f c : List AV) (f' c' : Array Value) (hf : f.length = f'.size) (hc : c.length = c'.size)
      (h1 : ∀ (i : Nat) (x : AV) (v : Value), f[i]? = some x → f'[i]? = some v → RV w m H B x v) (h2 : ∀ (i : Nat) (x : AV) (v : Value), c[i]? = some x → c'[i]? = some v → RV w m H B x v) :
      RV w m H B (.func fn f c) (.func fn f' c')
  | iface (t : TypeId) (x : AV) (v : Value) (h : RV w m H B x v) : RV w m H B (.iface t x) (.iface t v)
  | ptr (h ver i j : Nat) (a : Addr) (hh : h < H.length)
      (hv : ∀ o, AHeap.obj H h = some o → ver ≤ o.elems.length ∧ (ver = o.elems.length → ∃ b, m h = some b ∧ a = ⟨b, i * o.s + j, none⟩)) :
      RV w m H B (.ptr h ver i j) (.pointer (some a))
  | own (h ver i len : Nat) (a : Option Addr) (n cap : Nat) (hh : h < H.length)
      (hv : ∀ o, AHeap.obj H h = some o → ver ≤ o.elems.length ∧ (ver = o.elems.length → ∃ b, m h = some b ∧ (0 < cap ∨ i = 0 → a = some ⟨b, i * o.s, none⟩) ∧ n = len ∧ i + len ≤ ver ∧ len ≤ cap ∧ cap ≤ maxLen ∧ w.shape? b = some (o.e, (i + cap) * o.s))) :
      RV w m H B (.own h ver i len) (.slice a n cap)
  | roNil (fr : Bool) (a : Option Addr) (cap : Nat) (ha : a = none → cap = 0) : RV w m H B (.ro fr []) (.slice a 0 cap)
  | ro (fr : Bool) (l : List (List AV)) (s b off cap : Nat) (vs : Nat → Nat → Value) (hl : l ≠ []) (hb : ∀ h, m h ≠ some b) (hfr : fr = true → B ≤ b) (hlt : b < w.heap.size)
      (hs : ∀ e, e ∈ l → e.length = s) (hcap : l.length ≤ cap)
      (hc : ∀ (i : Nat) (e : List AV) (j : Nat) (x : AV), l[i]? = some e → e[j]? = some x → w.cell? ⟨b, off + i * s + j, none⟩ = some (vs i j) ∧ x.one = true)
      (hv : ∀ (i : Nat) (e : List AV) (j : Nat) (x : AV), l[i]? = some e → e[j]? = some x → RV w m H B x (vs i j)) :
      RV w m H B (.ro fr l) (.slice (some ⟨b, off, none⟩) l.length cap)
  | rop (cells : List AV) (b off : Nat) (vs : Nat → Value) (hb : ∀ h, m h ≠ some b) (hlt : b < w.heap.size)
      (hc : ∀ (j : Nat) (x : AV), cells[j]? = some x → w.cell? ⟨b, off + j, none⟩ = some (vs j) ∧ x.one = true)
      (hv : ∀ (j : Nat) (x : AV), cells[j]? = some x → RV w m H B x (vs j)) :
      RV w m H B (.rop cells) (.pointer (some ⟨b, off, none⟩))
  | agg (cs : List AV) (vs : Array Value) (hl : cs.length = vs.size) (h1 : ∀ x, x ∈ cs → x.one = true) (h : ∀ (i : Nat) (x : AV) (v : Value), cs[i]? = some x → vs[i]? = some v → RV w m H B x v) : RV w m H B (.agg cs) (.agg vs)
  | tuple (cs : List AV) (vs : Array Value) (hl : cs.length = vs.size) (h : ∀ (i : Nat) (x : AV) (v : Value), cs[i]? = some x → vs[i]? = some v → RV w m H B x v) : RV w m H B (.tuple cs) (.tuple vs)

theorem RV.one_eq {w : World} {m : AMap} {H : AHeap} {B : Nat} {x : AV} {v : Value} (h : RV w m H B x v) : v.oneCell' = x.one := by
  cases h <;> rfl

/-- From one state of the activation's objects to a later one. -/
structure Adv (w : World) (m : AMap) (H : AHeap) (w' : World) (m' : AMap) (H' : AHeap) : Prop where
  os : w'.os = w.os
  tape : w'.tape = w.tape
  output : w'.output = w.output
  size : w.heap.size ≤ w'.heap.size
  keep : ∀ b, b < w.heap.size → (∀ h, m h ≠ some b) → w'.heap[b]? = w.heap[b]?
  newb : ∀ h b, m' h = some b → m h = some b ∨ w.heap.size ≤ b
  len : H.length ≤ H'.length
  obj : ∀ h o', h < H.length → AHeap.obj H' h = some o' → ∃ o, AHeap.obj H h = some o ∧ o'.s = o.s ∧ o'.e = o.e ∧ o.elems.length ≤ o'.elems.length ∧
    (o'.elems.length = o.elems.length → ∀ b, m h = some b → m' h = some b ∧ w'.shape? b = w.shape? b)

theorem Adv.refl (w : World) (m : AMap) (H : AHeap) : Adv w m H w m H :=
  ⟨rfl, rfl, rfl, Nat.le_refl _, fun _ _ _ => rfl, fun _ _ h => .inl h, Nat.le_refl _, fun _ o' _ h => ⟨o', h, rfl, rfl, Nat.le_refl _, fun _ _ h => ⟨h, rfl⟩⟩⟩

theorem Adv.trans {w m H w1 m1 H1 w2 m2 H2} (a : Adv w m H w1 m1 H1) (b : Adv w1 m1 H1 w2 m2 H2) : Adv w m H w2 m2 H2 where
  os := b.os.trans a.os
  tape := b.tape.trans a.tape
  output := b.output.trans a.output
  size := Nat.le_trans a.size b.size
  keep k hk hm := by
    rw [b.keep k (Nat.lt_of_lt_of_le hk a.size) ?_, a.keep k hk hm]
    intro h e
    rcases a.newb h k e with e | e
    · exact hm h e
    · omega
  newb h k e := by
    rcases b.newb h k e with e | e
    · exact a.newb h k e
    · exact .inr (Nat.le_trans a.size e)
  len := Nat.le_trans a.len b.len
  obj h o2 hh e2 := by
    obtain ⟨o1, e1, s1, t1, l1, k1⟩ := b.obj h o2 (Nat.lt_of_lt_of_le hh a.len) e2
    obtain ⟨o, e0, s0, t0, l0, k0⟩ := a.obj h o1 hh e1
    refine ⟨o, e0, s1.trans s0, t1.trans t0, Nat.le_trans l0 l1, fun hl k hk => ?_⟩
    obtain ⟨p1, p2⟩ := k0 (by omega) k hk
    obtain ⟨q1, q2⟩ := k1 (by omega) k p1
    exact ⟨q1, q2.trans p2⟩

theorem World.cell?_of_heap {w w' : World} {a : Addr} (h : w'.heap[a.block]? = w.heap[a.block]?) : w'.cell? a = w.cell? a := by simp [World.cell?, h]

theorem RV.mono {w m H B w' m' H'} (a : Adv w m H w' m' H') {x : AV} {v : Value} (h : RV w m H B x v) : RV w' m' H' B x v := by
  have nb : ∀ b, b < w.heap.size → (∀ h, m h ≠ some b) → ∀ h, m' h ≠ some b := by
    intro b hb hm h e
    rcases a.newb h b e with e | e
    · exact hm h e
    · omega
  induction h with
  | bool b => exact .bool b
  | int k n => exact .int k n
  | str s => exact .str s
  | nilFunc => exact .nilFunc
  | nilIface => exact .nilIface
  | nilPtr => exact .nilPtr
  | nilSlice a => exact .nilSlice a
  | func fn f c f' c' hf hc _ _ i1 i2 => exact .func fn f c f' c' hf hc i1 i2
  | iface t x v _ i => exact .iface t x v i
  | ptr h ver i j a0 hh hv =>
    refine .ptr h ver i j a0 (Nat.lt_of_lt_of_le hh a.len) fun o' e' => ?_
    obtain ⟨o, e0, s0, t0, l0, k0⟩ := a.obj h o' hh e'
    obtain ⟨p, q⟩ := hv o e0
    refine ⟨by omega, fun hl => ?_⟩
    obtain ⟨b, hb, ha⟩ := q (by omega)
    exact ⟨b, (k0 (by omega) b hb).1, by rw [s0]; exact ha⟩
  | own h ver i len a0 n cap hh hv =>
    refine .own h ver i len a0 n cap (Nat.lt_of_lt_of_le hh a.len) fun o' e' => ?_
    obtain ⟨o, e0, s0, t0, l0, k0⟩ := a.obj h o' hh e'
    obtain ⟨p, q⟩ := hv o e0
    refine ⟨by omega, fun hl => ?_⟩
    obtain ⟨b, hb, r1, r2, r3, r4, r5, r6⟩ := q (by omega)
    obtain ⟨z1, z2⟩ := k0 (by omega) b hb
    exact ⟨b, z1, by rw [s0]; exact r1, r2, r3, r4, r5, by rw [z2, s0, t0]; exact r6⟩
  | roNil fr a0 cap ha => exact .roNil fr a0 cap ha
  | ro fr l s b off cap vs hl hb hfr hlt hs hcap hc _ ih =>
    refine .ro fr l s b off cap vs hl (nb b hlt hb) hfr (Nat.lt_of_lt_of_le hlt a.size) hs hcap (fun i e j x h1 h2 => ?_) ih
    rw [World.cell?_of_heap (a.keep b hlt hb)]
    exact hc i e j x h1 h2
  | rop cells b off vs hb hlt hc _ ih =>
    refine .rop cells b off vs (nb b hlt hb) (Nat.lt_of_lt_of_le hlt a.size) (fun j x h1 => ?_) ih
    rw [World.cell?_of_heap (a.keep b hlt hb)]
    exact hc j x h1
  | agg cs vs hl h1 _ ih => exact .agg cs vs hl h1 ih
  | tuple cs vs hl _ ih => exact .tuple cs vs hl ih

/-- What is known of the activation's own objects: m says where each of them lies (those that m does not name are gone, or not there yet). -/
structure St (w : World) (m : AMap) (H : AHeap) (B : Nat) : Prop where
  base : B ≤ w.heap.size
  dom : ∀ h b, m h = some b → B ≤ b ∧ b < w.heap.size ∧ ∃ o cs, AHeap.obj H h = some o ∧ w.heap[b]? = some (.cells cs o.e (0, 0)) ∧ (∀ e, e ∈ o.elems → e.length = o.s) ∧
    (∀ (i : Nat) (e : List AV) (j : Nat) (x : AV), o.elems[i]? = some e → e[j]? = some x → ∃ v, cs[i * o.s + j]? = some v ∧ RV w m H B x v ∧ x.one = true)
  inj : ∀ h h' b, m h = some b → m h' = some b → h = h'

def Full (m : AMap) (H : AHeap) : Prop := ∀ h o, AHeap.obj H h = some o → ∃ b, m h = some b

end Go.Awp
