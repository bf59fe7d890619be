/- Contract: slices.Insert at []int, of one number: in place or anew (the library's contract at this program; the bodies are compared). -/
import Derived.Shelf.Spec.SlicesInsertGrow
import Derived.Test.YtgadlckkmhhmbaaDoorProg
import Derived.Test.YtgadlckkmhhmbaaDoorA7
import Derived.Test.YtgadlckkmhhmbaaDoorQFx
import Derived.KernelRfl
set_option linter.unusedVariables false
set_option linter.unusedSimpArgs false
set_option linter.unusedSectionVars false
namespace Go.Proofs.YtgadlckkmhhmbaaDoor
open Go.Shelf Go.Awp
set_option linter.unusedSimpArgs false
set_option linter.unusedVariables false
set_option maxRecDepth 100000
def lays2n21_ren : Go.Shelf.Ren := ⟨fun | 21 => 55 | 27 => 113 | 28 => 114 | 35 => 127 | 39 => 130 | n => n, fun | 22 => 51 | 3 => 3 | 4 => 4 | 0 => 0 | n => n, fun n => n⟩
theorem lays2n21 : Go.Proofs.Lays2.n21 Tryd.prog lays2n21_ren := {
  mixed := by kernel_rfl
  f21 := Tryd.func55.trans (congrArg some (by kernel_rfl))
  f27 := Tryd.func113.trans (congrArg some (by kernel_rfl))
  f28 := Tryd.func114.trans (congrArg some (by kernel_rfl))
  f35 := Tryd.func127.trans (congrArg some (by kernel_rfl))
  f39 := Tryd.func130.trans (congrArg some (by kernel_rfl))
  t0 := Tryd.underlying0
  a0 := Tryd.isAgg0
  z0 := Tryd.sizeOf0
  v0 := Tryd.zeroValue0
  t3 := Tryd.underlying3
  a3 := Tryd.isAgg3
  z3 := Tryd.sizeOf3
  v3 := Tryd.zeroValue3
  t4 := Tryd.underlying4
  a4 := Tryd.isAgg4
  z4 := Tryd.sizeOf4
  v4 := Tryd.zeroValue4
  t22 := Tryd.underlying51
  a22 := Tryd.isAgg51
  z22 := Tryd.sizeOf51
  v22 := Tryd.zeroValue51
  i3 := by kernel_rfl }
/-- Cells that are set one by one. -/
def wr : Array Value → Nat → List Value → Array Value
  | cs, _, [] => cs
  | cs, o, v :: r => wr (cs.setIfInBounds o v) (o + 1) r
theorem wr_size : ∀ (vs : List Value) (cs : Array Value) (o : Nat), (wr cs o vs).size = cs.size
  | [], _, _ => rfl
  | v :: r, cs, o => by rw [wr, wr_size r]; simp
theorem wr_get : ∀ (vs : List Value) (cs : Array Value) (o k : Nat), o + vs.length ≤ cs.size → (wr cs o vs)[k]? = if o ≤ k ∧ k < o + vs.length then vs[k - o]? else cs[k]?
  | [], cs, o, k, _ => by rw [wr, if_neg (by simp)]
  | v :: r, cs, o, k, h => by
    simp only [List.length_cons] at h
    rw [wr, wr_get r _ (o + 1) k (by simp; omega), Array.getElem?_setIfInBounds]
    by_cases h1 : k = o
    · subst h1
      rw [if_neg (by omega), if_pos rfl, if_pos (by omega), if_pos (by simp), Nat.sub_self]; rfl
    · by_cases h2 : o + 1 ≤ k ∧ k < o + 1 + r.length
      · rw [if_pos h2, if_pos (by simp only [List.length_cons]; omega), show k - o = (k - (o + 1)) + 1 by omega]; rfl
      · rw [if_neg h2, if_neg (fun e => h1 e.symm), if_neg (by simp only [List.length_cons]; omega)]
theorem sc_heap {b : Nat} {e : TypeId} {f : Nat × Nat} : ∀ (vs : List Value) (o : Nat) (w : World) {cs : Array Value}, w.heap[b]? = some (.cells cs e f) → (w.setCells b o vs).heap[b]? = some (.cells (wr cs o vs) e f)
  | [], _, _, _, h => h
  | v :: r, o, w, cs, h => by
    rw [World.setCells, wr]
    exact sc_heap r (o + 1) _ (by simp [World.setCell, Array.getElem?_modify, h])
theorem sc_other {b k : Nat} (hk : k ≠ b) : ∀ (vs : List Value) (o : Nat) (w : World), (w.setCells b o vs).heap[k]? = w.heap[k]?
  | [], _, _ => rfl
  | v :: r, o, w => by
    rw [World.setCells, sc_other hk r]
    simp only [World.setCell, Array.getElem?_modify]
    rw [if_neg (Ne.symm hk)]
theorem sc_same (b : Nat) : ∀ (vs : List Value) (o : Nat) (w : World), (w.setCells b o vs).os = w.os ∧ (w.setCells b o vs).tape = w.tape ∧ (w.setCells b o vs).output = w.output ∧ (w.setCells b o vs).heap.size = w.heap.size
  | [], _, _ => ⟨rfl, rfl, rfl, rfl⟩
  | v :: r, o, w => by
    obtain ⟨h1, h2, h3, h4⟩ := sc_same b r (o + 1) (w.setCell ⟨b, o, none⟩ v)
    rw [World.setCells]
    refine ⟨h1, h2, h3, h4.trans (by simp [World.setCell])⟩
theorem sc_push {h0 : Array Obj} {e : TypeId} {f : Nat × Nat} (vs : List Value) (o : Nat) (w : World) {cs : Array Value} (h : w.heap = h0.push (.cells cs e f)) : (w.setCells h0.size o vs).heap = h0.push (.cells (wr cs o vs) e f) := by
  apply Array.ext_getElem?
  intro k
  by_cases hk : k = h0.size
  · subst hk
    rw [sc_heap vs o w (by rw [h, Array.getElem?_push, if_pos rfl]), Array.getElem?_push, if_pos rfl]
  · rw [sc_other hk, h, Array.getElem?_push, if_neg hk, Array.getElem?_push, if_neg hk]
/-- A list with a number put in. -/
def ins (l : List Int) (i : Nat) (v : Int) : List Int := l.take i ++ v :: l.drop i
theorem ins_length {l : List Int} {i : Nat} {v : Int} (hi : i ≤ l.length) : (ins l i v).length = l.length + 1 := by
  simp [ins]; omega
def iv (l : List Int) : List Value := l.map fun n => Value.int .i64 n
theorem iv_length (l : List Int) : (iv l).length = l.length := List.length_map ..
theorem iv_ins {l : List Int} {i j : Nat} {v : Int} (hi : i ≤ l.length) : (iv (ins l i v))[j]? = if i ≤ j ∧ j < i + 1 then some (.int .i64 v) else if i + 1 ≤ j then (iv l)[j - 1]? else (iv l)[j]? := by
  have ht : (iv (l.take i)).length = i := by rw [iv_length, List.length_take]; omega
  have e : iv (ins l i v) = iv (l.take i) ++ (Value.int .i64 v :: iv (l.drop i)) := by simp [iv, ins]
  rw [e]
  rcases Nat.lt_trichotomy j i with h | h | h
  · rw [if_neg (by omega), if_neg (by omega), List.getElem?_append_left (by omega)]
    simp only [iv, List.map_take]
    rw [List.getElem?_take_of_lt h]
  · subst h
    rw [if_pos (by omega), List.getElem?_append_right (by omega), ht, Nat.sub_self]; rfl
  · rw [if_neg (by omega), if_pos (by omega), List.getElem?_append_right (by omega), ht, show j - i = (j - 1 - i) + 1 by omega, List.getElem?_cons_succ]
    simp only [iv, List.map_drop, List.getElem?_drop]
    rw [show i + (j - 1 - i) = j - 1 by omega]
theorem ic_rv {w : World} {m : AMap} {H : AHeap} {B : Nat} {l : List Int} {cs : Array Value} (h : ∀ j, j < l.length → cs[j]? = (iv l)[j]?) : ∀ (i : Nat) (e : List AV) (j : Nat) (x : AV), (ic l)[i]? = some e → e[j]? = some x → ∃ v, cs[i * 1 + j]? = some v ∧ RV w m H B x v ∧ x.one = true := by
  intro i e j x h1 h2
  have hi : i < l.length := by
    have := (List.getElem?_eq_some_iff.1 h1).1
    rwa [ic_length] at this
  rw [ic_get hi] at h1
  cases h1
  match j with
  | 0 =>
    simp at h2; subst h2
    exact ⟨.int .i64 l[i], by rw [Nat.mul_one, Nat.add_zero, h i hi]; simp [iv, hi], .int _ _, rfl⟩
  | j + 1 => simp at h2
theorem ic_row {l : List Int} : ∀ e, e ∈ ic l → e.length = 1 := by
  intro e he
  obtain ⟨a, _, rfl⟩ := List.mem_map.1 he
  rfl
section
variable {w : World} {m : AMap} {H : AHeap} {B : Nat}
theorem fin_in (st : St w m H B) {h b cap : Nat} {l l' : List Int} {cs cs' : Array Value} (ho : AHeap.obj H h = some ⟨3, 1, ic l⟩) (hm : m h = some b) (hl : l'.length = l.length + 1) {w' : World} (os : w'.os = w.os) (tape : w'.tape = w.tape) (output : w'.output = w.output) (size : w'.heap.size = w.heap.size) (other : ∀ k, k ≠ b → w'.heap[k]? = w.heap[k]?)
    (hcs : w.heap[b]? = some (.cells cs 3 (0, 0))) (hcs' : w'.heap[b]? = some (.cells cs' 3 (0, 0))) (hsz : cs'.size = cs.size) (hcap : cs.size = cap) (hle : l'.length ≤ cap) (hmax : cap ≤ maxLen) (hv : ∀ j, j < l'.length → cs'[j]? = (iv l')[j]?) :
    ∃ H', H' = H.set h (some ⟨3, 1, ic l'⟩) ∧ St w' m H' B ∧ Adv w m H w' m H' ∧ RV w' m H' B (.own h l'.length 0 l'.length) (.slice (some ⟨b, 0, none⟩) l'.length cap) := by
  obtain ⟨p1, p2⟩ := st.upd ho hm (o' := ⟨3, 1, ic l'⟩) rfl rfl (by simp only [ic_length]; omega) os tape output size other hcs hcs' hsz ic_row (ic_rv hv)
  refine ⟨_, rfl, p1, p2, ?_⟩
  have hlt := AHeap.obj_lt ho
  refine .own _ _ _ _ _ _ _ (by simpa using hlt) fun o3 ho3 => ?_
  rw [AHeap.obj_set_eq hlt] at ho3
  cases ho3
  refine ⟨by rw [ic_length]; exact Nat.le_refl _, fun _ => ⟨b, hm, fun _ => by simp, rfl, by omega, hle, hmax, ?_⟩⟩
  simp only [World.shape?, hcs']
  rw [hsz, hcap]; simp
theorem fin_new (st : St w m H B) {cap : Nat} {l' : List Int} {w' : World} (os : w'.os = w.os) (tape : w'.tape = w.tape) (output : w'.output = w.output) {vs : Array Value} (heap : w'.heap = w.heap.push (.cells vs 3)) (hsz : vs.size = cap) (hle : l'.length ≤ cap) (hmax : cap ≤ maxLen) (hv : ∀ j, j < l'.length → vs[j]? = (iv l')[j]?) :
    ∃ m', St w' m' (H ++ [some ⟨3, 1, ic l'⟩]) B ∧ Adv w m H w' m' (H ++ [some ⟨3, 1, ic l'⟩]) ∧ RV w' m' (H ++ [some ⟨3, 1, ic l'⟩]) B (.own H.length l'.length 0 l'.length) (.slice (some ⟨w.heap.size, 0, none⟩) l'.length cap) := by
  obtain ⟨p1, p2⟩ := st.push [some ⟨3, 1, ic l'⟩]
  obtain ⟨q1, q2⟩ := p1.new (h := H.length) AHeap.obj_push_eq st.fresh os tape output heap ic_row (ic_rv hv)
  refine ⟨_, q1, p2.trans q2, .own _ _ _ _ _ _ _ (by simp) fun o3 ho3 => ?_⟩
  rw [AHeap.obj_push_eq] at ho3
  cases ho3
  refine ⟨by rw [ic_length]; exact Nat.le_refl _, fun _ => ⟨w.heap.size, by simp [AMap.upd], fun _ => by simp, rfl, by omega, hle, hmax, ?_⟩⟩
  rw [shape_new heap, hsz]; simp
end
theorem arr3 {vs : Array Value} (h : 3 = vs.size) : ∃ a b c, vs = #[a, b, c] := by
  have h0 := Array.getElem?_eq_getElem (xs := vs) (i := 0) (by omega)
  refine ⟨vs[0], vs[1], vs[2], ?_⟩
  apply Array.ext
  · simp [← h]
  · intro i h1 h2
    match i, h2 with
    | 0, _ => rfl
    | 1, _ => rfl
    | 2, _ => rfl
/-- What an inserted list is: in the same object, or in a new one. -/
def InsOk (H : AHeap) (h : Nat) (l' : List Int) (x : AV) (H' : AHeap) : Prop := ∃ q, x = .own q l'.length 0 l'.length ∧ AHeap.obj H' q = some ⟨3, 1, ic l'⟩ ∧ (q = h ∨ q = H.length) ∧ H.length ≤ H'.length ∧ ∀ j, j < H.length → j ≠ h → AHeap.obj H' j = AHeap.obj H j
theorem new_end {w : World} {m : AMap} {H : AHeap} {B : Nat} (st : St w m H B) {l : List Int} {v : Int} {cap : Nat} {R : AV → AHeap → Prop} (hl : l.length ≤ 1000) (hil : (ins l l.length v).length = l.length + 1) {w' : World} {G : Nat} (hGe : G = grownCap w (l.length + 1) cap 3) (hw : w' = w.drew.alloc (.cells ((iv l ++ [Value.int .i64 v]).toArray ++ Builtin.zeroCells (Value.int .i64 0).cells (G - (l.length + 1))) 3))
    (done : ∀ x, x = AV.own H.length (ins l l.length v).length 0 (ins l l.length v).length → R x (H ++ [some ⟨3, 1, ic (ins l l.length v)⟩])) :
    ∃ u x m' H', Ending.returned (Value.slice (some ⟨w.heap.size, 0, none⟩) (l.length + 1) G) = Ending.returned u ∧ R x H' ∧ St w' m' H' B ∧ Adv w m H w' m' H' ∧ RV w' m' H' B x u := by
  subst hw
  have zc : ∀ k, (Builtin.zeroCells (Value.int .i64 0).cells k).size = k := fun k => by simp [Builtin.zeroCells, Value.cells]
  have hG := grownCap_ge w (l.length + 1) cap 3
  have hG2 := grownCap_le_maxLen w (l.length + 1) cap 3 (by unfold maxLen; omega)
  rw [← hGe] at hG hG2
  have ili := iv_length l
  obtain ⟨m', p1, p2, p3⟩ := fin_new st (l' := ins l l.length v) (cap := G) (w' := w.drew.alloc (.cells ((iv l ++ [Value.int .i64 v]).toArray ++ Builtin.zeroCells (Value.int .i64 0).cells (G - (l.length + 1))) 3)) rfl rfl rfl rfl
    (by simp only [Array.size_append, zc, List.size_toArray, List.length_append, ili, List.length_singleton]; omega) (by omega) hG2 (fun j hj => by
      rw [Array.getElem?_append_left (by simp only [List.size_toArray, List.length_append, ili, List.length_singleton]; omega), iv_ins (Nat.le_refl _)]
      simp only [List.getElem?_toArray]
      by_cases h1 : l.length ≤ j ∧ j < l.length + 1
      · rw [if_pos h1, List.getElem?_append_right (by omega), show j - (iv l).length = 0 by omega]; rfl
      · rw [if_neg h1, if_neg (by omega), List.getElem?_append_left (by omega)])
  rw [hil] at p3
  exact ⟨_, _, m', _, rfl, done _ (by rw [hil]), p1, p2, p3⟩
theorem Insert_own {H : AHeap} {h hv i : Nat} {l : List Int} {v : Int} (hi : i ≤ l.length) (hl : l.length ≤ 1000) (ho : AHeap.obj H h = some ⟨3, 1, ic l⟩) (hov : AHeap.obj H hv = some ⟨3, 1, ic [v]⟩) (hne : h ≠ hv) :
    ACall Tryd.prog 55 [.own h l.length 0 l.length, I i, .own hv 1 0 1] H (InsOk H h (ins l i v)) := by
  refine ⟨by kernel_rfl, fun w m B vs st ha => ?_⟩
  obtain ⟨ha0, ha⟩ := ha
  obtain ⟨va, vb, vc, rfl⟩ := arr3 ha0
  have r0 := ha 0 _ va rfl rfl
  have r1 := ha 1 _ vb rfl rfl
  have r2 := ha 2 _ vc rfl rfl
  have hvb : vb = .int .i64 i := by cases r1; rfl
  subst hvb
  cases r0 with
  | own _ _ _ _ ad n cap hlt hh =>
  cases r2 with
  | own _ _ _ _ adv nv capv hltv hhv =>
  obtain ⟨-, hh2⟩ := hh _ ho
  obtain ⟨b, q1, q2, q3, q4, q5, q6, q7⟩ := hh2 (by simp [ic_length])
  obtain ⟨-, hhv2⟩ := hhv _ hov
  obtain ⟨bv, s1, s2, s3, s4, s5, s6, s7⟩ := hhv2 (by simp [ic_length])
  have had := q2 (.inr rfl)
  have hadv := s2 (.inr rfl)
  subst had q3 hadv s3
  simp only [Nat.zero_mul, Nat.zero_add, Nat.mul_one] at *
  obtain ⟨g1, g2, o2, cs, e1, e2, e3, e4⟩ := st.dom h b q1
  rw [ho] at e1; cases e1
  obtain ⟨k1, k2, o3, csv, f1, f2, f3, f4⟩ := st.dom hv bv s1
  rw [hov] at f1; cases f1
  have hbb : bv ≠ b := fun e => by
    subst e
    have := st.inj _ _ _ q1 s1
    injection this with this
    exact hne this
  have hcs : cs.size = cap := by
    have := q7
    simp only [World.shape?, e2] at this
    simpa using this
  have hcsv : csv.size = capv := by
    have := s7
    simp only [World.shape?, f2] at this
    simpa using this
  have cell : ∀ j u, (iv l)[j]? = some u → cs[j]? = some u := fun j u hj => by
    have hjl : j < l.length := by have := (List.getElem?_eq_some_iff.1 hj).1; rwa [iv_length] at this
    obtain ⟨u', h1, h2, -⟩ := e4 j [I l[j]] 0 (I l[j]) (ic_get hjl) rfl
    have : (iv l)[j]? = some (Value.int .i64 l[j]) := by simp [iv, hjl]
    rw [this] at hj; cases hj
    cases h2
    simpa using h1
  have cellv : csv[0]? = some (Value.int .i64 v) := by
    obtain ⟨u', h1, h2, -⟩ := f4 0 [I v] 0 (I v) rfl rfl
    cases h2
    simpa using h1
  have hcs1 : ∀ j u, (iv l)[j]? = some u → w.cell? ⟨b, 0 + j, none⟩ = some u := fun j u hj => by
    rw [Nat.zero_add]; simp [World.cell?, e2, cell j u hj]
  have hvs1 : ∀ j u, ([Value.int .i64 v] : List Value)[j]? = some u → w.cell? ⟨bv, 0 + j, none⟩ = some u := fun j u hj => by
    match j with
    | 0 => simp at hj; subst hj; simp [World.cell?, f2, cellv]
    | j + 1 => simp at hj
  have one1 : ∀ u ∈ iv l, u.oneCell' = true := fun u hu => by
    obtain ⟨a, _, rfl⟩ := List.mem_map.1 hu; rfl
  have onev : ∀ u ∈ [Value.int .i64 v], u.oneCell' = true := fun u hu => by
    rw [List.mem_singleton.1 hu]; rfl
  have hil := ins_length (v := v) hi
  have cap63 : cap ≤ 9223372036854775807 := by unfold maxLen at q6; omega
  have ili := iv_length l
  by_cases hroom : l.length + 1 ≤ cap
  · have there : ∀ j, j < l.length + 1 → (w.cell? ⟨b, 0 + j, none⟩).isSome = true := fun j hj => by
      have : j < cs.size := by omega
      simp [World.cell?, e2, this]
    have frz : ∀ j, w.frozen? ⟨b, j, none⟩ = false := fun j => by simp [World.frozen?, e2]
    have frzv : ∀ j, w.frozen? ⟨bv, j, none⟩ = false := fun j => by simp [World.frozen?, f2]
    by_cases hin : i < l.length
    · refine Calls.mono (Any2.slices_Insert_int_shift lays2n21 b 0 l.length cap i bv 0 1 capv (iv l) [.int .i64 v] w hin (by omega) hroom cap63 hbb (iv_length l) rfl hcs1 there (fun j _ => by rw [Nat.zero_add]; exact frz j) hvs1 one1 onev 3 3 capv cap s7 q7 (by omega) (frzv 0) (frzv _)) ?_
      rintro e w' ⟨rfl, rfl⟩
      obtain ⟨t1, t2, t3, t4⟩ := sc_same b ((iv l).drop i) (0 + (i + 1)) w.drew
      obtain ⟨u1, u2, u3, u4⟩ := sc_same b [Value.int .i64 v] (0 + i) (w.drew.setCells b (0 + (i + 1)) ((iv l).drop i))
      obtain ⟨H', hH, p1, p2, p3⟩ := fin_in st (l' := ins l i v) (cap := cap) (w' := (w.drew.setCells b (0 + (i + 1)) ((iv l).drop i)).setCells b (0 + i) [.int .i64 v]) ho q1 hil (u1.trans t1) (u2.trans t2) (u3.trans t3) (u4.trans t4) (fun k hk => by rw [sc_other hk, sc_other hk]; rfl) e2
        (sc_heap _ _ _ (sc_heap _ _ _ (show w.drew.heap[b]? = _ from e2))) (by rw [wr_size, wr_size]) hcs (by omega) q6 (fun j hj => by
          rw [wr_get _ _ _ _ (by rw [wr_size]; simp; omega), wr_get _ _ _ _ (by simp; omega), iv_ins hi]
          simp only [List.length_singleton, List.length_drop, Nat.zero_add]
          by_cases h1 : i ≤ j ∧ j < i + 1
          · rw [if_pos h1, if_pos h1, show j - i = 0 by omega]; rfl
          · rw [if_neg h1, if_neg h1]
            by_cases h2 : i + 1 ≤ j
            · rw [if_pos (by omega), if_pos h2, List.getElem?_drop, show i + (j - (i + 1)) = j - 1 by omega]
            · rw [if_neg (by omega), if_neg h2]
              have hjl : j < (iv l).length := by omega
              rw [List.getElem?_eq_getElem hjl, cell j _ (List.getElem?_eq_getElem hjl)])
      rw [hil] at p3
      refine ⟨_, _, m, H', rfl, ?_, p1, p2, p3⟩
      subst hH
      exact ⟨h, by rw [hil], AHeap.obj_set_eq hlt, .inl rfl, by simp, fun j _ hj => AHeap.obj_set_ne (Ne.symm hj)⟩
    · have hieq : i = l.length := by omega
      subst hieq
      refine Calls.mono (Any2.slices_Insert_int_end_room lays2n21 b 0 l.length cap bv 0 1 capv [.int .i64 v] w (by omega) hroom cap63 rfl (fun j hj => by have := there (l.length + j) (by omega); rwa [Nat.zero_add] at this ⊢) (fun j _ => frz _) hvs1 onev) ?_
      rintro e w' ⟨rfl, rfl⟩
      obtain ⟨u1, u2, u3, u4⟩ := sc_same b [Value.int .i64 v] (0 + l.length) w
      obtain ⟨H', hH, p1, p2, p3⟩ := fin_in st (l' := ins l l.length v) (cap := cap) (w' := w.setCells b (0 + l.length) [.int .i64 v]) ho q1 hil u1 u2 u3 u4 (fun k hk => by rw [sc_other hk]) e2
        (sc_heap _ _ _ e2) (by rw [wr_size]) hcs (by omega) q6 (fun j hj => by
          rw [wr_get _ _ _ _ (by simp; omega), iv_ins hi]
          simp only [List.length_singleton, Nat.zero_add]
          by_cases h1 : l.length ≤ j ∧ j < l.length + 1
          · rw [if_pos h1, if_pos h1, show j - l.length = 0 by omega]; rfl
          · rw [if_neg h1, if_neg h1, if_neg (by omega)]
            have hjl : j < (iv l).length := by omega
            rw [List.getElem?_eq_getElem hjl, cell j _ (List.getElem?_eq_getElem hjl)])
      rw [hil] at p3
      refine ⟨_, _, m, H', rfl, ?_, p1, p2, p3⟩
      subst hH
      exact ⟨h, by rw [hil], AHeap.obj_set_eq hlt, .inl rfl, by simp, fun j _ hj => AHeap.obj_set_ne (Ne.symm hj)⟩
  · have done : ∀ x, x = AV.own H.length (ins l i v).length 0 (ins l i v).length → InsOk H h (ins l i v) x (H ++ [some ⟨3, 1, ic (ins l i v)⟩]) := fun x hx => ⟨H.length, hx, AHeap.obj_push_eq, .inr rfl, by simp, fun j hj _ => AHeap.obj_push_lt hj⟩
    have hG := grownCap_ge w (l.length + 1) cap 3
    have hG2 := grownCap_le_maxLen w (l.length + 1) cap 3 (by unfold maxLen; omega)
    have zc : ∀ k, (Builtin.zeroCells (Value.int .i64 0).cells k).size = k := fun k => by simp [Builtin.zeroCells, Value.cells]
    by_cases hin : i < l.length
    · refine Calls.mono (Any2.slices_Insert_int_grow lays2n21 b 0 l.length cap i bv 0 1 capv (iv l) [.int .i64 v] w hin (by omega) (by omega) (by omega) (by omega) (iv_length l) rfl hcs1 hvs1 one1 onev) ?_
      rintro e w' ⟨rfl, rfl⟩
      have frow : ∀ j, j < l.length + 1 → ((iv l).take i).toArray.size = i := fun j _ => by simp [iv_length]; omega
      have hti : ((iv l).take i).length = i := by rw [List.length_take]; omega
      obtain ⟨ROW, hROW⟩ : ∃ ROW : Array Value, ROW = ((iv l).take i).toArray ++ Builtin.zeroCells (Value.int .i64 0).cells (l.length + 1 - i) ++ Builtin.zeroCells (Value.int .i64 0).cells (grownCap w (l.length + 1) cap 3 - (l.length + 1)) := ⟨_, rfl⟩
      have hRs : ROW.size = grownCap w (l.length + 1) cap 3 := by rw [hROW]; simp only [Array.size_append, zc, List.size_toArray, hti]; omega
      have hRg : ∀ j, j < i → ROW[j]? = (iv l)[j]? := fun j hj => by
        rw [hROW, Array.append_assoc, Array.getElem?_append_left (by simp only [List.size_toArray, hti]; exact hj)]
        simp only [List.getElem?_toArray]
        rw [List.getElem?_take_of_lt hj]
      have e3 : lays2n21_ren.t 3 = 3 := rfl
      simp only [e3]
      rw [← hROW]
      obtain ⟨u1, u2, u3, u4⟩ := sc_same w.heap.size [Value.int .i64 v] i (w.alloc (.cells ROW 3)).drew
      obtain ⟨t1, t2, t3, t4⟩ := sc_same w.heap.size ((iv l).drop i) (i + 1) ((w.alloc (.cells ROW 3)).drew.setCells w.heap.size i [Value.int .i64 v]).drew
      have hp := sc_push ((iv l).drop i) (i + 1) ((w.alloc (.cells ROW 3)).drew.setCells w.heap.size i [Value.int .i64 v]).drew (h0 := w.heap) (sc_push [Value.int .i64 v] i (w.alloc (.cells ROW 3)).drew (h0 := w.heap) (f := (0, 0)) rfl)
      obtain ⟨m', p1, p2, p3⟩ := fin_new st (l' := ins l i v) (cap := grownCap w (l.length + 1) cap 3) (w' := (((w.alloc (.cells ROW 3)).drew.setCells w.heap.size i [Value.int .i64 v]).drew).setCells w.heap.size (i + 1) ((iv l).drop i)) (t1.trans u1) (t2.trans u2) (t3.trans u3) hp (by rw [wr_size, wr_size, hRs]) (by rw [hil]; exact hG) hG2 (fun j hj => by
          rw [wr_get _ _ _ _ (by rw [wr_size]; simp; omega), wr_get _ _ _ _ (by simp; omega), iv_ins hi]
          simp only [List.length_singleton, List.length_drop]
          by_cases h1 : i ≤ j ∧ j < i + 1
          · rw [if_neg (by omega), if_pos h1, if_pos h1, show j - i = 0 by omega]; rfl
          · rw [if_neg h1]
            by_cases h2 : i + 1 ≤ j
            · rw [if_pos (by omega), if_neg h1, if_pos h2, List.getElem?_drop, show i + (j - (i + 1)) = j - 1 by omega]
            · rw [if_neg (by omega), if_neg h1, if_neg h2]
              exact hRg j (by omega))
      rw [hil] at p3
      exact ⟨_, _, m', _, rfl, done _ (by rw [hil]), p1, p2, p3⟩
    · have hieq : i = l.length := by omega
      subst hieq
      refine Calls.mono (Any2.slices_Insert_int_end_grow lays2n21 (some ⟨b, 0, none⟩) l.length cap bv 0 1 capv (iv l) [.int .i64 v] w (by omega) (by omega) (by omega) (by omega) (iv_length l) rfl (fun e => by cases e) (fun a ha j u hj => by cases ha; rw [Addr.add_lit]; exact hcs1 j u hj) hvs1 onev) ?_
      rintro e w' ⟨rfl, rfl⟩
      exact new_end st (by omega) hil rfl rfl done
theorem Insert_nil {H : AHeap} {h hv : Nat} {v : Int} (hov : AHeap.obj H hv = some ⟨3, 1, ic [v]⟩) : ACall Tryd.prog 55 [.nilSlice, I 0, .own hv 1 0 1] H (InsOk H h (ins [] 0 v)) := by
  refine ⟨by kernel_rfl, fun w m B vs st ha => ?_⟩
  obtain ⟨ha0, ha⟩ := ha
  obtain ⟨va, vb, vc, rfl⟩ := arr3 ha0
  have r0 := ha 0 _ va rfl rfl
  have r1 := ha 1 _ vb rfl rfl
  have r2 := ha 2 _ vc rfl rfl
  have hvb : vb = .int .i64 0 := by cases r1; rfl
  subst hvb
  cases r0 with
  | nilSlice ad =>
  cases r2 with
  | own _ _ _ _ adv nv capv hltv hhv =>
  obtain ⟨-, hhv2⟩ := hhv _ hov
  obtain ⟨bv, s1, s2, s3, s4, s5, s6, s7⟩ := hhv2 (by simp [ic_length])
  have hadv := s2 (.inr rfl)
  subst hadv s3
  simp only [Nat.zero_mul, Nat.zero_add, Nat.mul_one] at *
  obtain ⟨k1, k2, o3, csv, f1, f2, f3, f4⟩ := st.dom hv bv s1
  rw [hov] at f1; cases f1
  have cellv : csv[0]? = some (Value.int .i64 v) := by
    obtain ⟨u', h1, h2, -⟩ := f4 0 [I v] 0 (I v) rfl rfl
    cases h2
    simpa using h1
  have hvs1 : ∀ j u, ([Value.int .i64 v] : List Value)[j]? = some u → w.cell? ⟨bv, 0 + j, none⟩ = some u := fun j u hj => by
    match j with
    | 0 => simp at hj; subst hj; simp [World.cell?, f2, cellv]
    | j + 1 => simp at hj
  have onev : ∀ u ∈ [Value.int .i64 v], u.oneCell' = true := fun u hu => by
    rw [List.mem_singleton.1 hu]; rfl
  refine Calls.mono (Any2.slices_Insert_int_end_grow lays2n21 ad 0 0 bv 0 1 capv [] [.int .i64 v] w (by omega) (by omega) (by omega) (by omega) rfl rfl (fun _ => rfl) (fun a ha j u hj => by simp at hj) hvs1 onev) ?_
  rintro e w' ⟨rfl, rfl⟩
  exact new_end (l := []) st (by simp) rfl rfl rfl (fun x hx => ⟨H.length, hx, AHeap.obj_push_eq, .inr rfl, by simp, fun j hj _ => AHeap.obj_push_lt hj⟩)
end Go.Proofs.YtgadlckkmhhmbaaDoor
