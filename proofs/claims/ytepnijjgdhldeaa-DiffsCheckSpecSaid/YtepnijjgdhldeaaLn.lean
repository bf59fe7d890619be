/- How what is known of the activation's own objects is carried on. Generic in the program. -/
import Derived.Test.YtepnijjgdhldeaaLm
namespace Go.Awp

theorem St.mlt {w m H B} (st : St w m H B) {h b : Nat} (e : m h = some b) : h < H.length := by
  obtain ⟨_, _, o, _, e1, _⟩ := st.dom h b e
  exact AHeap.obj_lt e1

theorem St.push {w m H B} (st : St w m H B) (X : AHeap) : St w m (H ++ X) B ∧ Adv w m H w m (H ++ X) := by
  have ad : Adv w m H w m (H ++ X) := by
    refine ⟨rfl, rfl, rfl, Nat.le_refl _, fun _ _ _ => rfl, fun _ _ h => .inl h, by simp, fun h o' hh e => ?_⟩
    rw [AHeap.obj_push_lt hh] at e
    exact ⟨o', e, rfl, rfl, Nat.le_refl _, fun _ _ h => ⟨h, rfl⟩⟩
  refine ⟨⟨st.base, fun h b e => ?_, st.inj⟩, ad⟩
  obtain ⟨h1, h2, o, cs, e1, e2, e3, e4⟩ := st.dom h b e
  refine ⟨h1, h2, o, cs, by rw [AHeap.obj_push_lt (st.mlt e)]; exact e1, e2, e3, fun i el j x a1 a2 => ?_⟩
  obtain ⟨v, q1, q2, q3⟩ := e4 i el j x a1 a2
  exact ⟨v, q1, q2.mono ad, q3⟩

def AMap.without (m : AMap) (h : Nat) : AMap := fun k => if k = h then none else m k
def AMap.upd (m : AMap) (h b : Nat) : AMap := fun k => if k = h then some b else m k

theorem St.drop {w m H B} (st : St w m H B) {h : Nat} {o : AObj} (ho : AHeap.obj H h = some o) (o' : Option AObj) (hc : ∀ o1, o' = some o1 → o1.s = o.s ∧ o1.e = o.e ∧ o.elems.length < o1.elems.length) :
    St w (AMap.without m h) (H.set h o') B ∧ Adv w m H w (AMap.without m h) (H.set h o') := by
  have hlt := AHeap.obj_lt ho
  have ad : Adv w m H w (AMap.without m h) (H.set h o') := by
    refine ⟨rfl, rfl, rfl, Nat.le_refl _, fun _ _ _ => rfl, fun k b e => ?_, by simp, fun k o1 hk e => ?_⟩
    · unfold AMap.without at e
      split at e
      · cases e
      · exact .inl e
    · by_cases hkh : k = h
      · subst hkh
        rw [AHeap.obj_set_eq hlt] at e
        obtain ⟨c1, c2, c3⟩ := hc o1 e
        exact ⟨o, ho, c1, c2, by omega, fun e => by omega⟩
      · rw [AHeap.obj_set_ne (Ne.symm hkh)] at e
        exact ⟨o1, e, rfl, rfl, Nat.le_refl _, fun _ b e => ⟨by simp [AMap.without, hkh, e], rfl⟩⟩
  refine ⟨⟨st.base, fun k b e => ?_, fun k k' b e e' => ?_⟩, ad⟩
  · unfold AMap.without at e
    split at e
    · cases e
    · rename_i hkh
      obtain ⟨h1, h2, o1, cs, e1, e2, e3, e4⟩ := st.dom k b e
      refine ⟨h1, h2, o1, cs, by rw [AHeap.obj_set_ne (Ne.symm hkh)]; exact e1, e2, e3, fun i el j x a1 a2 => ?_⟩
      obtain ⟨v, q1, q2, q3⟩ := e4 i el j x a1 a2
      exact ⟨v, q1, q2.mono ad, q3⟩
  · unfold AMap.without at e e'
    split at e
    · cases e
    · split at e'
      · cases e'
      · exact st.inj k k' b e e'

theorem St.new {w m H B} (st : St w m H B) {h : Nat} {o : AObj} (ho : AHeap.obj H h = some o) (hm : m h = none) {w' : World} (os : w'.os = w.os) (tape : w'.tape = w.tape) (output : w'.output = w.output) {vs : Array Value} (heap : w'.heap = w.heap.push (.cells vs o.e))
    (hu : ∀ e, e ∈ o.elems → e.length = o.s) (hc : ∀ (i : Nat) (e : List AV) (j : Nat) (x : AV), o.elems[i]? = some e → e[j]? = some x → ∃ v, vs[i * o.s + j]? = some v ∧ RV w m H B x v ∧ x.one = true) :
    St w' (AMap.upd m h w.heap.size) H B ∧ Adv w m H w' (AMap.upd m h w.heap.size) H := by
  have old : ∀ b, b < w.heap.size → w'.heap[b]? = w.heap[b]? := by
    intro b hb; rw [heap, Array.getElem?_push, if_neg (by omega)]
  have sz : w'.heap.size = w.heap.size + 1 := by rw [heap]; simp
  have ad : Adv w m H w' (AMap.upd m h w.heap.size) H := by
    refine ⟨os, tape, output, by omega, fun b hb _ => old b hb, fun k b e => ?_, Nat.le_refl _, fun k o1 hk e => ⟨o1, e, rfl, rfl, Nat.le_refl _, fun _ b hb => ?_⟩⟩
    · unfold AMap.upd at e
      split at e
      · cases e; exact .inr (Nat.le_refl _)
      · exact .inl e
    · have hkh : k ≠ h := by intro e; subst e; rw [hm] at hb; cases hb
      refine ⟨by simp [AMap.upd, hkh, hb], ?_⟩
      unfold World.shape?
      rw [old b (st.dom k b hb).2.1]
  refine ⟨⟨by have := st.base; omega, fun k b e => ?_, fun k k' b e e' => ?_⟩, ad⟩
  · unfold AMap.upd at e
    split at e
    · rename_i hkh
      cases e; subst hkh
      refine ⟨st.base, by omega, o, vs, ho, by rw [heap]; simp, hu, fun i el j x a1 a2 => ?_⟩
      obtain ⟨v, q1, q2, q3⟩ := hc i el j x a1 a2
      exact ⟨v, q1, q2.mono ad, q3⟩
    · obtain ⟨h1, h2, o1, cs, e1, e2, e3, e4⟩ := st.dom k b e
      refine ⟨h1, by omega, o1, cs, e1, by rw [old b h2]; exact e2, e3, fun i el j x a1 a2 => ?_⟩
      obtain ⟨v, q1, q2, q3⟩ := e4 i el j x a1 a2
      exact ⟨v, q1, q2.mono ad, q3⟩
  · unfold AMap.upd at e e'
    split at e <;> split at e'
    · rename_i a b; rw [a, b]
    · rename_i a b
      cases e
      have := (st.dom k' _ e').2.1; omega
    · rename_i a b
      cases e'
      have := (st.dom k _ e).2.1; omega
    · exact st.inj k k' b e e'

theorem St.upd {w m H B} (st : St w m H B) {h b : Nat} {o o' : AObj} (ho : AHeap.obj H h = some o) (hm : m h = some b) (hs : o'.s = o.s) (he : o'.e = o.e) (hl : o.elems.length ≤ o'.elems.length) {w' : World} (os : w'.os = w.os) (tape : w'.tape = w.tape) (output : w'.output = w.output)
    (size : w'.heap.size = w.heap.size) (other : ∀ k, k ≠ b → w'.heap[k]? = w.heap[k]?) {cs cs' : Array Value} (hcs : w.heap[b]? = some (.cells cs o.e (0, 0))) (hcs' : w'.heap[b]? = some (.cells cs' o.e (0, 0))) (hsz : cs'.size = cs.size)
    (hu : ∀ e, e ∈ o'.elems → e.length = o'.s) (hc : ∀ (i : Nat) (e : List AV) (j : Nat) (x : AV), o'.elems[i]? = some e → e[j]? = some x → ∃ v, cs'[i * o'.s + j]? = some v ∧ RV w m H B x v ∧ x.one = true) :
    St w' m (H.set h (some o')) B ∧ Adv w m H w' m (H.set h (some o')) := by
  have hlt := AHeap.obj_lt ho
  have ad : Adv w m H w' m (H.set h (some o')) := by
    refine ⟨os, tape, output, by omega, fun k hk hn => other k (fun e => hn h (by rw [e]; exact hm)), fun _ _ h => .inl h, by simp, fun k o1 hk e => ?_⟩
    have shp : ∀ b', m k = some b' → w'.shape? b' = w.shape? b' := by
      intro b' hb'
      by_cases e' : b' = b
      · subst e'
        simp [World.shape?, hcs, hcs', hsz]
      · simp only [World.shape?, other b' e']
    by_cases hkh : k = h
    · subst hkh
      rw [AHeap.obj_set_eq hlt] at e
      cases e
      exact ⟨o, ho, hs, he, hl, fun _ b' hb' => ⟨hb', shp b' hb'⟩⟩
    · rw [AHeap.obj_set_ne (Ne.symm hkh)] at e
      exact ⟨o1, e, rfl, rfl, Nat.le_refl _, fun _ b' hb' => ⟨hb', shp b' hb'⟩⟩
  refine ⟨⟨by rw [size]; exact st.base, fun k b' e => ?_, st.inj⟩, ad⟩
  by_cases hkh : k = h
  · subst hkh
    rw [hm] at e; cases e
    obtain ⟨h1, h2, _⟩ := st.dom k b hm
    refine ⟨h1, by omega, o', cs', AHeap.obj_set_eq hlt, by rw [he]; exact hcs', hu, fun i el j x a1 a2 => ?_⟩
    obtain ⟨v, q1, q2, q3⟩ := hc i el j x a1 a2
    exact ⟨v, q1, q2.mono ad, q3⟩
  · obtain ⟨h1, h2, o1, cs1, e1, e2, e3, e4⟩ := st.dom k b' e
    have hbb : b' ≠ b := by intro e'; subst e'; exact hkh (st.inj k h b' e hm)
    refine ⟨h1, by omega, o1, cs1, by rw [AHeap.obj_set_ne (Ne.symm hkh)]; exact e1, by rw [other b' hbb]; exact e2, e3, fun i el j x a1 a2 => ?_⟩
    obtain ⟨v, q1, q2, q3⟩ := e4 i el j x a1 a2
    exact ⟨v, q1, q2.mono ad, q3⟩

end Go.Awp
