/- The truth of quiet operations in the model (part 5). Generic in the program. -/
import Derived.Test.YtepnijjgdhldeaaLe
namespace Go.Awp
section
variable {P : Program} {n : Nat} {w : World} {m : AMap} {H : AHeap} {B : Nat} {env : AEnv} {a : Act} {o : Oper} {r : QR}

theorem q_mv {x : Operand} (ho : o.op = .move x ∨ o.op = .assign x) (fr : FR n w m H B env a) (h : qstep (.mv x) env H = some r) : QOK P o a w m H B r := by
  simp only [qstep] at h
  split at h
  · rename_i v hv
    cases h
    exact ⟨_, by rcases ho with ho | ho <;> simp [execOp, ho], ev_sound fr hv⟩
  · cases h

theorem q_pick {c x y : Operand} (ho : o.op = .pick c x y) (fr : FR n w m H B env a) (h : qstep (.pick c x y) env H = some r) : QOK P o a w m H B r := by
  simp only [qstep] at h
  split at h
  · rename_i hc
    have hcv := ev_sound fr hc
    split at h
    · rename_i v hv
      cases h
      refine ⟨_, ?_, ev_sound fr hv⟩
      generalize he : a.eval c = u at hcv
      cases hcv
      simp [execOp, ho, he, asBool]
    · cases h
  · rename_i hc
    have hcv := ev_sound fr hc
    split at h
    · rename_i v hv
      cases h
      refine ⟨_, ?_, ev_sound fr hv⟩
      generalize he : a.eval c = u at hcv
      cases hcv
      simp [execOp, ho, he, asBool]
    · cases h
  · cases h

theorem q_load {t : TypeId} {x : Operand} {i : TypeInfo} {d : TypeDesc} (hi : P.info? t = some i) (hd : P.underlying t = some d) (ho : o.op = .load t x) (st : St w m H B) (fr : FR n w m H B env a)
    (h : qstep (.load i.size (isAggD d) x) env H = some r) : QOK P o a w m H B r := by
  simp only [qstep] at h
  split at h
  · rename_i p hp
    split at h
    · rename_i cells hc
      split at h
      · rename_i v hv
        cases h
        obtain ⟨ad, e1, e2⟩ := deref_sound st (ev_sound fr hp) hc
        obtain ⟨u, h1, h2⟩ := load_cells e2 hi hd hv
        exact ⟨u, by simp [execOp, ho, Instr.loadAt, e1, Instr.sureAddr, h1], h2⟩
      · cases h
    · cases h
  · cases h

theorem RV.not_tuple {x : AV} (h : x.isTuple = false) : ∀ l, x ≠ .tuple l := by
  intro l e; subst e; cases h

theorem q_box {t : TypeId} {x : Operand} {s : Nat} (ho : o.op = .box t x) (fr : FR n w m H B env a) (h : qstep (.box t s x) env H = some r) : QOK P o a w m H B r := by
  simp only [qstep] at h
  split at h
  · rename_i v hv
    split at h
    · rename_i hc
      cases h
      obtain ⟨l1, l2, l3⟩ := (ev_sound fr hv).cells (RV.not_tuple hc.2)
      refine ⟨hc.1, (a.eval x).cells, ?_, by omega, fun j y hy => ?_⟩
      · simp [execOp, ho, Instr.box, newVar, newRow]
      · have hj : j < v.cells.length := by
          rcases Nat.lt_or_ge j v.cells.length with h' | h'
          · exact h'
          · rw [List.getElem?_eq_none h'] at hy; cases hy
        exact ⟨(a.eval x).cells[j]'(by omega), Array.getElem?_eq_getElem _, l3 j y _ hy (Array.getElem?_eq_getElem _), l2 y (List.mem_of_getElem? hy)⟩
    · cases h
  · cases h

theorem q_zero {t : TypeId} {i : TypeInfo} {z : Value} {x : AV} (hi : P.info? t = some i) (hz : i.zero = some z) (hc : cst z = some x) (h1 : x.cells.all AV.one = true) (ho : o.op = .alloc t)
    (h : qstep (.zero t i.size x.cells) env H = some r) : QOK P o a w m H B r := by
  simp only [qstep] at h
  split at h
  · rename_i hs
    cases h
    have hx := cst_sound (w := w) (m := m) (H := H) (B := B) hc
    have ht : ∀ l, x ≠ .tuple l := by
      intro l e; subst e; simp [AV.cells, AV.one] at h1
    obtain ⟨l1, l2, l3⟩ := hx.cells ht
    refine ⟨hs, z.cells, ?_, by omega, fun j y hy => ?_⟩
    · simp [execOp, ho, Instr.alloc, newVar, newRow, zeroValue, typeInfo, hi, hz]
    · have hj : j < x.cells.length := by
        rcases Nat.lt_or_ge j x.cells.length with h' | h'
        · exact h'
        · rw [List.getElem?_eq_none h'] at hy; cases hy
      exact ⟨z.cells[j]'(by omega), Array.getElem?_eq_getElem _, l3 j y _ hy (Array.getElem?_eq_getElem _), l2 y (List.mem_of_getElem? hy)⟩
  · cases h

theorem q_faddr {t : TypeId} {x : Operand} {k : Nat} {fields : Array Field} {f : Field} {i : TypeInfo} (hd : P.underlying t = some (.struct fields)) (hf : fields[k]? = some f) (hi : P.info? f.type = some i) (hn : i.size ≠ 0)
    (ho : o.op = .fieldAddr t x k) (fr : FR n w m H B env a) (h : qstep (.faddr f.offset x) env H = some r) : QOK P o a w m H B r := by
  simp only [qstep] at h
  split at h
  · rename_i hh ver i' j hx
    cases h
    have hv := ev_sound fr hx
    generalize he : a.eval x = u at hv
    cases hv with
    | ptr _ _ _ _ ad hlt hv =>
      refine ⟨.pointer (some (ad.add f.offset)), by simp [execOp, ho, Instr.fieldAt, run_underlying hd, hf, he, Instr.sureAddr, fieldPlace, run_sizeOf' hi, hn], ?_⟩
      refine .ptr _ _ _ _ _ hlt fun o ho => ⟨(hv o ho).1, fun e => ?_⟩
      obtain ⟨b, q1, q2⟩ := (hv o ho).2 e
      exact ⟨b, q1, by rw [q2, add_none]; congr 1; omega⟩
  · rename_i cells hx
    cases h
    have hv := ev_sound fr hx
    generalize he : a.eval x = u at hv
    cases hv with
    | rop _ b off vs hb hlt hc hv =>
      refine ⟨.pointer (some ((⟨b, off, none⟩ : Addr).add f.offset)), by simp [execOp, ho, Instr.fieldAt, run_underlying hd, hf, he, Instr.sureAddr, fieldPlace, run_sizeOf' hi, hn], ?_⟩
      rw [add_none]
      refine .rop _ b _ (fun j => vs (f.offset + j)) hb hlt (fun j y hy => ?_) (fun j y hy => ?_)
      · rw [List.getElem?_drop] at hy
        have := hc _ y hy
        rwa [← Nat.add_assoc] at this
      · rw [List.getElem?_drop] at hy
        exact hv _ y hy
  · cases h

theorem q_field {t : TypeId} {x : Operand} {k : Nat} {fields : Array Field} {f : Field} {i : TypeInfo} {d : TypeDesc} (hd : P.underlying t = some (.struct fields)) (hf : fields[k]? = some f) (hi : P.info? f.type = some i) (hd' : P.underlying f.type = some d)
    (ho : o.op = .field t x k) (fr : FR n w m H B env a) (h : qstep (.field f.offset i.size (isAggD d) x) env H = some r) : QOK P o a w m H B r := by
  simp only [qstep] at h
  split at h
  · rename_i cs hx
    have hv := ev_sound fr hx
    generalize he : a.eval x = u at hv
    cases hv with
    | agg _ vs hl h1 hh =>
      by_cases hg : isAggD d = true
      · rw [if_pos hg] at h
        cases h
        refine ⟨.agg (vs.extract f.offset (f.offset + i.size)), by simp [execOp, ho, Instr.field, run_underlying hd, hf, he, asAgg, part, run_isAgg hd', hg, run_sizeOf' hi], ?_⟩
        refine .agg _ _ (by simp [hl]; omega) (fun y hy => h1 y (List.mem_of_mem_drop (List.mem_of_mem_take hy))) (fun k' y u e1 e2 => ?_)
        rw [List.getElem?_take] at e1
        split at e1
        · rw [List.getElem?_drop] at e1
          refine hh _ y u e1 ?_
          have := Array.getElem?_extract (xs := vs) (start := f.offset) (stop := f.offset + i.size) (i := k')
          rw [this] at e2
          split at e2
          · exact e2
          · cases e2
        · cases e1
      · rw [if_neg hg] at h
        split at h
        · rename_i y hy
          cases h
          have hlt : f.offset < vs.size := by
            rcases Nat.lt_or_ge f.offset vs.size with h' | h'
            · exact h'
            · rw [List.getElem?_eq_none (by omega)] at hy; cases hy
          refine ⟨vs[f.offset], ?_, hh _ y _ hy (Array.getElem?_eq_getElem hlt)⟩
          simp [execOp, ho, Instr.field, run_underlying hd, hf, he, asAgg, part, run_isAgg hd', hg, hlt]
        · cases h
  · cases h
end
end Go.Awp
