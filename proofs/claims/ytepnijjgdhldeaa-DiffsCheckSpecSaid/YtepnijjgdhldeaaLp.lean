/- Operations that write: their truth in the model. Generic in the program. -/
import Derived.Test.YtepnijjgdhldeaaLo
namespace Go.Awp

theorem setMany_get : ∀ (ys xs : List AV) (off k : Nat), off + ys.length ≤ xs.length → (setMany xs off ys)[k]? = if off ≤ k ∧ k < off + ys.length then ys[k - off]? else xs[k]?
  | [], xs, off, k, _ => by
    rw [if_neg (by simp only [List.length_nil]; omega)]; rfl
  | y :: ys, xs, off, k, h => by
    simp only [List.length_cons] at h
    simp only [setMany]
    rw [setMany_get ys (xs.set off y) (off + 1) k (by simp; omega)]
    by_cases hk : off = k
    · subst hk
      rw [if_neg (by omega), if_pos (by simp only [List.length_cons]; omega), Nat.sub_self, List.getElem?_set_self (by omega)]; rfl
    · by_cases h1 : off + 1 ≤ k ∧ k < off + 1 + ys.length
      · rw [if_pos h1, if_pos (by simp only [List.length_cons]; omega)]
        rw [show k - off = (k - (off + 1)) + 1 by omega]; rfl
      · rw [if_neg h1, if_neg (by simp only [List.length_cons]; omega), List.getElem?_set_ne hk]

theorem splice_get (cs : Array Value) (vs : List Value) (k q : Nat) (h : k + vs.length ≤ cs.size) :
    (cs.toList.take k ++ vs ++ cs.toList.drop (k + vs.length)).toArray[q]? = if k ≤ q ∧ q < k + vs.length then vs[q - k]? else cs[q]? := by
  have hl : (cs.toList.take k).length = k := by simp; omega
  rw [List.getElem?_toArray, List.append_assoc]
  rcases Nat.lt_or_ge q k with h1 | h1
  · rw [List.getElem?_append_left (by omega), if_neg (by omega), List.getElem?_take_of_lt h1, Array.getElem?_toList]
  · rw [List.getElem?_append_right (by omega), hl]
    rcases Nat.lt_or_ge q (k + vs.length) with h2 | h2
    · rw [List.getElem?_append_left (by omega), if_pos ⟨h1, h2⟩]
    · rw [List.getElem?_append_right (by omega), if_neg (by omega), List.getElem?_drop, Array.getElem?_toList]
      congr 1; omega

theorem splice_size (cs : Array Value) (vs : List Value) (k : Nat) (h : k + vs.length ≤ cs.size) : (cs.toList.take k ++ vs ++ cs.toList.drop (k + vs.length)).toArray.size = cs.size := by
  simp; omega

section
variable {P : Program} {n : Nat} {w : World} {m : AMap} {H : AHeap} {B : Nat} {env : AEnv} {a : Act} {o : Oper} {io : IOp}

/-- The block of an object holds at least its cells. -/
theorem block_fits {o : AObj} {cs : Array Value} (hu : ∀ e, e ∈ o.elems → e.length = o.s) (hc : ∀ (i : Nat) (e : List AV) (j : Nat) (x : AV), o.elems[i]? = some e → e[j]? = some x → ∃ v, cs[i * o.s + j]? = some v ∧ RV w m H B x v ∧ x.one = true) : o.elems.length * o.s ≤ cs.size := by
  rcases Nat.eq_zero_or_pos (o.elems.length * o.s) with h0 | h0
  · omega
  · have hs : 0 < o.s := Nat.pos_of_mul_pos_left h0
    have hl : 0 < o.elems.length := Nat.pos_of_mul_pos_right h0
    have h1 : o.elems[o.elems.length - 1]? = some (o.elems[o.elems.length - 1]'(by omega)) := List.getElem?_eq_getElem _
    have hlen := hu _ (List.mem_of_getElem? h1)
    obtain ⟨v, hv, _⟩ := hc _ _ (o.s - 1) _ h1 (List.getElem?_eq_getElem (by omega))
    have := (Array.getElem?_eq_some_iff.1 hv).1
    have e1 : (o.elems.length - 1) * o.s + o.s = o.elems.length * o.s := by
      rw [← Nat.succ_mul]; congr 1; omega
    omega

theorem store_ok {t : TypeId} {x v : Operand} {i : TypeInfo} {d : TypeDesc} (hi : P.info? t = some i) (ho : o.op = .store t x v) (st : St w m H B) (fr : FR n w m H B env a) {r : Option AV × AHeap} (h : sstep (.store i.size (isAggD d) x v) env H = some r) : SOK P o a w m H B r := by
  simp only [sstep] at h
  split at h
  · rename_i h' ver i' j y hx hy
    split at h
    · rename_i o' ho'
      split at h
      · rename_i e he
        split at h
        · rename_i hc
          obtain ⟨c1, c2, c3, c4⟩ := hc
          cases h
          have hxv := ev_sound fr hx
          have hyv := ev_sound fr hy
          generalize hex : a.eval x = u at hxv
          generalize hey : a.eval v = z at hyv
          cases hxv with
          | ptr _ _ _ _ ad hlt hh =>
            obtain ⟨b, hb, hae⟩ := (hh o' ho').2 c1
            subst hae
            obtain ⟨g1, g2, o2, cs, e1, e2, e3, e4⟩ := st.dom h' b hb
            rw [ho'] at e1; cases e1
            have hfit := block_fits e3 e4
            obtain ⟨l1, l2, l3⟩ := hyv.cells (RV.not_tuple c3)
            have hel := e3 e (List.mem_of_getElem? he)
            have hil : i' < o'.elems.length := by
              rcases Nat.lt_or_ge i' o'.elems.length with h1 | h1
              · exact h1
              · rw [List.getElem?_eq_none h1] at he; cases he
            have hmul : i' * o'.s + o'.s ≤ o'.elems.length * o'.s := by
              have := Nat.mul_le_mul_right o'.s hil
              rw [Nat.succ_mul] at this; exact this
            have hzl : z.cells.toList.length = i.size := by simp; omega
            have hk : (i' * o'.s + j) + z.cells.toList.length ≤ cs.size := by omega
            have ones : ∀ u ∈ z.cells.toList, u.oneCell' = true := by
              intro u hu
              obtain ⟨q, hq⟩ := List.mem_iff_getElem?.1 hu
              have hql : q < y.cells.length := by
                have := (List.getElem?_eq_some_iff.1 hq).1
                simp at this; omega
              have := l3 q _ u (List.getElem?_eq_getElem hql) (by simpa using hq)
              rw [this.one_eq]
              exact l2 _ (List.getElem_mem hql)
            have hrun := run_storeCells_at P b (i' * o'.s + j) o'.e z.cells.toList 0 cs w e2 (by simpa using hk) ones
            simp only [Nat.add_zero] at hrun
            have hst : (execOp a.eval o).run P w = .ok .skip (w.setRow b (cs.toList.take (i' * o'.s + j) ++ z.cells.toList ++ cs.toList.drop (i' * o'.s + j + z.cells.toList.length)).toArray) := by
              have hsz : z.cells.size = i.size := by simpa using hzl
              simp only [execOp, ho, hex, hey, Instr.storeAt, Instr.sureAddr, storeVar, Sem.run_bind, Sem.run_pure, Result.andThen_ok, run_sizeOf' hi, Sem.run_ite, ne_eq, hsz, not_true, if_false, hrun]
            have hset : (setMany e j y.cells).length = o'.s := by rw [length_setMany, hel]
            obtain ⟨p1, p2⟩ := st.upd ho' hb (o' := { o' with elems := o'.elems.set i' (setMany e j y.cells) }) rfl rfl (by simp) (w' := w.setRow b (cs.toList.take (i' * o'.s + j) ++ z.cells.toList ++ cs.toList.drop (i' * o'.s + j + z.cells.toList.length)).toArray) rfl rfl rfl (by simp) (fun k hk => setRow_other w b k _ hk) e2 (setRow_heap w b cs _ o'.e _ e2) (splice_size cs _ _ hk) (fun e' he' => by
              rcases List.mem_or_eq_of_mem_set he' with he' | rfl
              · exact e3 e' he'
              · exact hset) (fun i2 e' j2 q a1 a2 => by
              have hj2 : j2 < o'.s := by
                have hm := List.mem_of_getElem? a1
                have hl2 : e'.length = o'.s := by
                  rcases List.mem_or_eq_of_mem_set hm with hm | rfl
                  · exact e3 e' hm
                  · exact hset
                have := (List.getElem?_eq_some_iff.1 a2).1
                omega
              simp only
              rw [splice_get cs _ _ _ hk]
              by_cases hii : i' = i2
              · subst hii
                rw [List.getElem?_set_self hil] at a1
                cases a1
                rw [setMany_get _ _ _ _ (by omega)] at a2
                by_cases hin : j ≤ j2 ∧ j2 < j + y.cells.length
                · rw [if_pos hin] at a2
                  rw [if_pos (by omega)]
                  have hlt2 : j2 - j < z.cells.size := by omega
                  refine ⟨z.cells[j2 - j], ?_, l3 _ q _ a2 (Array.getElem?_eq_getElem hlt2), l2 q (List.mem_of_getElem? a2)⟩
                  rw [show i' * o'.s + j2 - (i' * o'.s + j) = j2 - j by omega]
                  simp [hlt2]
                · rw [if_neg hin] at a2
                  rw [if_neg (by omega)]
                  exact e4 i' e j2 q he a2
              · rw [List.getElem?_set_ne hii] at a1
                rw [if_neg ?_]
                · exact e4 i2 e' j2 q a1 a2
                · intro hin
                  rcases Nat.lt_or_gt_of_ne hii with hlt' | hlt'
                  · have := Nat.mul_le_mul_right o'.s hlt'
                    rw [Nat.succ_mul] at this; omega
                  · have := Nat.mul_le_mul_right o'.s hlt'
                    rw [Nat.succ_mul] at this; omega)
            exact ⟨_, m, p1, p2, hst⟩
        · cases h
      · cases h
    · cases h
  · cases h
end
end Go.Awp
