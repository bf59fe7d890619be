/- Operations that write: append, their truth in the model. Generic in the program. -/
import Derived.Test.YtepnijjgdhldeaaLp
namespace Go.Awp
section
variable {P : Program} {n : Nat} {w : World} {m : AMap} {H : AHeap} {B : Nat} {env : AEnv} {a : Act} {o : Oper} {io : IOp}

/-- The cells of the elements that are appended, as a list of values. -/
theorem src_values {s : Nat} {ad : Option Addr} {els : List (List AV)} (hu : ∀ e, e ∈ els → e.length = s) (hf : els ≠ [] → ∃ b off, ad = some ⟨b, off, none⟩ ∧ FC w m H B els.flatten fun k => w.cell? ⟨b, off + k, none⟩) (hne : els ≠ []) :
    ∃ (x : Addr) (news : List Value), ad = some x ∧ news.length = els.length * s ∧ (∀ j u, news[j]? = some u → w.cell? (x.add j) = some u) ∧ (∀ u ∈ news, u.oneCell' = true) ∧ FC w m H B els.flatten fun k => news[k]? := by
  obtain ⟨b, off, had, hc⟩ := hf hne
  have hl := flatten_length els hu
  have key : ∀ k, k < els.length * s → ∃ v, w.cell? ⟨b, off + k, none⟩ = some v ∧ RV w m H B (els.flatten[k]!) v ∧ (els.flatten[k]!).one = true := by
    intro k hk
    have h1 : els.flatten[k]? = some (els.flatten[k]'(by omega)) := List.getElem?_eq_getElem _
    obtain ⟨v, q1, q2, q3⟩ := hc k _ h1
    rw [getElem!_pos els.flatten k (by omega)]
    exact ⟨v, q1, q2, q3⟩
  let news := (List.range (els.length * s)).map fun k => (w.cell? ⟨b, off + k, none⟩).getD undef
  have hget : ∀ j, j < els.length * s → news[j]? = w.cell? ⟨b, off + j, none⟩ := by
    intro j hj
    obtain ⟨v, q1, _⟩ := key j hj
    simp [news, hj, q1]
  refine ⟨_, news, had, by simp [news], fun j u hj => ?_, fun u hu' => ?_, fun k x hk => ?_⟩
  · have hlt : j < els.length * s := by
      have := (List.getElem?_eq_some_iff.1 hj).1
      simpa [news] using this
    rw [add_none, ← hget j hlt]; exact hj
  · obtain ⟨j, hj⟩ := List.mem_iff_getElem?.1 hu'
    have hlt : j < els.length * s := by
      have := (List.getElem?_eq_some_iff.1 hj).1
      simpa [news] using this
    obtain ⟨v, q1, q2, q3⟩ := key j hlt
    rw [hget j hlt, q1] at hj
    cases hj
    rw [q2.one_eq]; exact q3
  · have hlt : k < els.length * s := by
      have := (List.getElem?_eq_some_iff.1 hk).1
      omega
    obtain ⟨v, q1, q2, q3⟩ := hc k x hk
    exact ⟨v, by show news[k]? = _; rw [hget k hlt]; exact q1, q2, q3⟩

theorem run_append_zero {t e ty : TypeId} {i : TypeInfo} (ht : P.underlying t = some (.slice e)) (hi : P.info? e = some i) (ad : Option Addr) (len cap : Nat) (hle : len ≤ cap) (bd : Option Addr) (c : Nat) :
    (Builtin.append_ #[t, t] ty #[.slice ad len cap, .slice bd 0 c]).run P w = .ok (.slice ad len cap) w := by
  cases ad <;> cases bd <;> simp [Builtin.append_, run_underlying ht, sizeOf, typeInfo, hi, Builtin.lenOf, Builtin.firstCells, loadCells, loadCellsFrom, storeCells, hle]

theorem append_ok {t e : TypeId} {x y : Operand} {i : TypeInfo} {z : Value} (ht : P.underlying t = some (.slice e)) (hi : P.info? e = some i) (hz : i.zero = some z) (hzs : z.cells.size = i.size) 
    (ho : o.op = .call { callee := .builtin .append, args := #[x, y], argTypes := #[t, t] }) (st : St w m H B) (fr : FR n w m H B env a) {r : Option AV × AHeap} (h : sstep (.append e i.size i.bytes x y) env H = some r) : SOK P o a w m H B r := by
  have ex : ∀ {v : Value} {w' : World}, (Builtin.append_ #[t, t] o.type #[a.eval x, a.eval y]).run P w = .ok v w' → (execOp a.eval o).run P w = .ok (.value v) w' := by
    intro v w' hr
    simp [execOp, ho, resolve, invoke, builtin, hr]
  simp only [sstep] at h
  split at h
  · rename_i xv yv hx hy
    have hxv := ev_sound fr hx
    have hyv := ev_sound fr hy
    generalize hex : a.eval x = u at hxv ex
    generalize hey : a.eval y = q at hyv ex
    split at h
    · rename_i els hsrc
      obtain ⟨ad, cap, rfl, hu, hlc, hnone, hcells⟩ := asrc_sound st hyv hsrc
      split at h
      · obtain ⟨ad1, rfl⟩ : ∃ ad1, u = .slice ad1 0 0 := by cases hxv; exact ⟨_, rfl⟩
        split at h
        · rename_i h0
          cases h
          refine ⟨w, m, st, Adv.refl _ _ _, .slice ad1 0 0, ex ?_, .nilSlice _⟩
          rw [h0]
          exact run_append_zero ht hi ad1 0 0 (Nat.le_refl _) ad cap
        · rename_i h0
          split at h
          · rename_i hc
            cases h
            have hne : els ≠ [] := fun e => h0 (by rw [e]; rfl)
            obtain ⟨xa, news, rfl, n1, n2, n3, n4⟩ := src_values hu hcells hne
            have hr : (Builtin.append_ #[t, t] o.type #[.slice ad1 0 0, .slice (some xa) els.length cap]).run P w = .ok (.slice (some ⟨w.heap.size, 0, none⟩) els.length (grownCap w els.length 0 e)) (w.drew.alloc (.cells (news.toArray ++ Builtin.zeroCells z.cells (grownCap w els.length 0 e - els.length)) e)) := by
              cases ad1 with
              | none => exact run_append_nil (P := P) w t o.type e i z ht hi hz xa els.length cap news n1 n2 (by omega) (by omega) (by omega)
              | some a1 =>
                have := run_append_grow (P := P) w t o.type e i z ht hi hz a1 0 0 [] (by simp) (by simp) xa els.length cap news n1 n2 (by omega) (by omega) (growslice_fits (by omega) (by rw [Nat.zero_add]; omega))
                simpa using this
            obtain ⟨p1, p2⟩ := st.push [some ⟨e, i.size, els⟩]
            have hm : m H.length = none := by
              cases hm : m H.length with
              | none => rfl
              | some b => exact absurd (st.mlt hm) (Nat.lt_irrefl _)
            have hge := grownCap_ge w els.length 0 e
            have hle := grownCap_le_maxLen w els.length 0 e (by unfold maxLen; omega)
            obtain ⟨q1, q2, q3⟩ := arr_ok p1 (h := H.length) AHeap.obj_push_eq hm hu (w1 := w.drew) rfl rfl rfl rfl hge hle (vs := news.toArray ++ Builtin.zeroCells z.cells (grownCap w els.length 0 e - els.length)) (by
              rw [Array.size_append, size_zeroCells, hzs, List.size_toArray, n1, ← Nat.add_mul]; congr 1; omega) (fun i' el j x' a1 a2 => by
              obtain ⟨v, b1, b2, b3⟩ := FC.nested hu n4 i' el j x' a1 a2
              refine ⟨v, ?_, b2.mono p2, b3⟩
              have := (List.getElem?_eq_some_iff.1 b1).1
              rw [Array.getElem?_append_left (by simpa using this)]
              simpa using b1)
            exact ⟨_, _, q1, p2.trans q2, _, ex hr, q3⟩
          · cases h
      · rename_i h' ver i0 len
        split at h
        · rename_i o' ho'
          split at h
          · rename_i hc
            obtain ⟨c1, c2, c3, c4, c5, c6, c7⟩ := hc
            cases h
            subst c2 c4
            cases hxv with
            | own _ _ _ _ ad0 len0 cap0 hlt hh =>
              obtain ⟨hv1, hv2⟩ := hh o' ho'
              obtain ⟨b, q1, q2, q3, q4, q5, q6, q7⟩ := hv2 c1
              have had := q2 (.inr rfl)
              subst had q3
              simp only [Nat.zero_mul] at *
              obtain ⟨g1, g2, o2, cs, e1, e2, e3, e4⟩ := st.dom h' b q1
              rw [ho'] at e1; cases e1
              have hcs : cs.size = cap0 * o'.s := by
                have := q7
                simp only [World.shape?, e2] at this
                simp at this
                omega
              by_cases hnil : els = []
              · subst hnil
                simp only [List.length_nil, Nat.add_zero, List.append_nil]
                have hset : H.set h' (some o') = H := by
                  apply List.ext_getElem?
                  intro k
                  by_cases hk : h' = k
                  · subst hk
                    rw [List.getElem?_set_self hlt]
                    unfold AHeap.obj at ho'
                    rw [List.getElem?_eq_getElem hlt] at ho' ⊢
                    simp at ho'
                    rw [ho']
                  · rw [List.getElem?_set_ne hk]
                rw [show ({ o' with elems := o'.elems } : AObj) = o' from rfl, hset]
                refine ⟨w, m, st, Adv.refl _ _ _, _, ex (run_append_zero ht hi _ len0 cap0 q5 ad cap), ?_⟩
                rw [c3]
                refine .own _ _ _ _ _ _ _ hlt fun o3 ho3 => ?_
                rw [ho'] at ho3; cases ho3
                exact ⟨hv1, fun _ => ⟨b, q1, fun _ => by simp, rfl, by omega, by omega, q6, by rw [Nat.zero_add]; rw [Nat.zero_add] at q7; exact q7⟩⟩
              · obtain ⟨xa, news, rfl, n1, n2, n3, n4⟩ := src_values hu hcells hnil
                have hpos : 0 < els.length := by
                  rcases Nat.eq_zero_or_pos els.length with h0 | h0
                  · exact absurd (List.eq_nil_of_length_eq_zero h0) hnil
                  · exact h0
                have hlen : o'.elems.length = len0 := by omega
                have hu' : ∀ e', e' ∈ o'.elems ++ els → e'.length = i.size := by
                  intro e' he'
                  rcases List.mem_append.1 he' with he' | he'
                  · exact (e3 e' he').trans c5.symm
                  · exact hu e' he'
                have hflat : (o'.elems ++ els).flatten = o'.elems.flatten ++ els.flatten := List.flatten_append
                have hl1 : o'.elems.flatten.length = len0 * i.size := by rw [flatten_length (s := i.size) o'.elems (fun e' he' => (e3 e' he').trans c5.symm), hlen]
                have hold : FC w m H B o'.elems.flatten fun k => cs[k]? := FC.flat (s := o'.s) e3 e4
                by_cases hroom : len0 + els.length ≤ cap0
                · have hfit : len0 * i.size + news.length ≤ cs.size := by
                    rw [n1, hcs, ← c5, ← Nat.add_mul]; exact Nat.mul_le_mul_right _ hroom
                  have hr := run_append_room (P := P) w t o.type o'.e i ht hi b len0 cap0 cs e2 xa els.length cap news n1 n2 n3 hroom hfit
                  obtain ⟨p1, p2⟩ := st.upd ho' q1 (o' := { o' with elems := o'.elems ++ els }) rfl rfl (by simp) (w' := w.setRow b (cs.toList.take (len0 * i.size) ++ news ++ cs.toList.drop (len0 * i.size + news.length)).toArray) rfl rfl rfl (by simp) (fun k hk => setRow_other w b k _ hk) e2 (setRow_heap w b cs _ o'.e _ e2) (splice_size cs _ _ hfit) (fun e' he' => (hu' e' he').trans c5) (fun i2 e' j2 q a1 a2 => by
                    have hfc : FC w m H B (o'.elems ++ els).flatten fun k => (cs.toList.take (len0 * i.size) ++ news ++ cs.toList.drop (len0 * i.size + news.length)).toArray[k]? := by
                      intro k x' hk
                      simp only
                      rw [hflat] at hk
                      rw [splice_get cs _ _ _ hfit]
                      rcases Nat.lt_or_ge k (len0 * i.size) with h1 | h1
                      · rw [List.getElem?_append_left (by omega)] at hk
                        rw [if_neg (by omega)]
                        exact hold k x' hk
                      · rw [List.getElem?_append_right (by omega), hl1] at hk
                        have hk2 := (List.getElem?_eq_some_iff.1 hk).1
                        rw [flatten_length els hu] at hk2
                        rw [if_pos (by omega)]
                        exact n4 _ x' hk
                    have := FC.nested hu' hfc i2 e' j2 q a1 a2
                    have e5 : i2 * i.size + j2 = i2 * o'.s + j2 := by rw [c5]
                    rw [e5] at this
                    exact this)
                  refine ⟨_, m, p1, p2, _, ex hr, ?_⟩
                  rw [c3]
                  have hlt' : h' < (H.set h' (some { o' with elems := o'.elems ++ els })).length := by simpa using hlt
                  refine .own _ _ _ _ _ _ _ hlt' fun o3 ho3 => ?_
                  rw [AHeap.obj_set_eq hlt] at ho3
                  cases ho3
                  refine ⟨by simp; omega, fun _ => ⟨b, q1, fun _ => by simp, by omega, by omega, by omega, q6, ?_⟩⟩
                  simp [World.shape?, setRow_heap w b cs _ o'.e _ e2]
                  rw [← hcs]
                  have := splice_size cs news (len0 * i.size) hfit
                  rw [c3] at this
                  simpa using this
                · have hvals : ∃ olds : List Value, olds.length = len0 * i.size ∧ (∀ j u, olds[j]? = some u → w.cell? ((⟨b, 0, none⟩ : Addr).add j) = some u) ∧ ∀ k, k < len0 * i.size → olds[k]? = cs[k]? := by
                    have hle : len0 * i.size ≤ cs.size := by rw [hcs, ← c5]; exact Nat.mul_le_mul_right _ q5
                    refine ⟨cs.toList.take (len0 * i.size), by simp; omega, fun j u hj => ?_, fun k hk => by rw [List.getElem?_take_of_lt hk, Array.getElem?_toList]⟩
                    have hjl := (List.getElem?_eq_some_iff.1 hj).1
                    simp at hjl
                    rw [List.getElem?_take_of_lt (by omega), Array.getElem?_toList] at hj
                    rw [add_none]
                    simp [World.cell?, e2, hj]
                  obtain ⟨olds, m1, m2, m3⟩ := hvals
                  have hr := run_append_grow (P := P) w t o.type o'.e i z ht hi hz ⟨b, 0, none⟩ len0 cap0 olds m1 m2 xa els.length cap news n1 n2 (by omega) (by omega) (growslice_fits (by omega) (by omega))
                  have hge := grownCap_ge w (len0 + els.length) cap0 o'.e
                  have hle := grownCap_le_maxLen w (len0 + els.length) cap0 o'.e (by unfold maxLen; omega)
                  obtain ⟨p1, p2⟩ := st.drop ho' (some { o' with elems := o'.elems ++ els }) (fun o1 e => by cases e; exact ⟨rfl, rfl, by simp; omega⟩)
                  have ho2 : AHeap.obj (H.set h' (some { o' with elems := o'.elems ++ els })) h' = some ⟨o'.e, i.size, o'.elems ++ els⟩ := by
                    rw [AHeap.obj_set_eq hlt, c5]
                  have hm : AMap.without m h' h' = none := by simp [AMap.without]
                  obtain ⟨r1, r2, r3⟩ := arr_ok p1 (h := h') ho2 hm hu' (w1 := w.drew) rfl rfl rfl rfl (cap := grownCap w (len0 + els.length) cap0 o'.e) (by rw [List.length_append, hlen]; exact hge) hle (vs := olds.toArray ++ news.toArray ++ Builtin.zeroCells z.cells (grownCap w (len0 + els.length) cap0 o'.e - (len0 + els.length))) (by
                    rw [Array.size_append, Array.size_append, size_zeroCells, hzs, List.size_toArray, List.size_toArray, n1, m1, ← Nat.add_mul, ← Nat.add_mul]; congr 1; omega) (fun i2 e' j2 q a1 a2 => by
                    have hfc : FC w m H B (o'.elems ++ els).flatten fun k => (olds.toArray ++ news.toArray ++ Builtin.zeroCells z.cells (grownCap w (len0 + els.length) cap0 o'.e - (len0 + els.length)))[k]? := by
                      intro k x' hk
                      simp only
                      rw [hflat] at hk
                      rcases Nat.lt_or_ge k (len0 * i.size) with h1 | h1
                      · rw [List.getElem?_append_left (by omega)] at hk
                        rw [Array.append_assoc, Array.getElem?_append_left (by simp; omega)]
                        obtain ⟨v, b1, b2⟩ := hold k x' hk
                        refine ⟨v, ?_, b2⟩
                        have := m3 k h1
                        simp only [List.getElem?_toArray]
                        rw [this]; exact b1
                      · rw [List.getElem?_append_right (by omega), hl1] at hk
                        have hk2 := (List.getElem?_eq_some_iff.1 hk).1
                        rw [flatten_length els hu] at hk2
                        obtain ⟨v, b1, b2⟩ := n4 _ x' hk
                        refine ⟨v, ?_, b2⟩
                        rw [Array.getElem?_append_left (by simp; omega), Array.getElem?_append_right (by simp; omega)]
                        simp only [List.size_toArray, List.getElem?_toArray, m1]
                        exact b1
                    obtain ⟨v, b1, b2, b3⟩ := FC.nested hu' hfc i2 e' j2 q a1 a2
                    exact ⟨v, b1, b2.mono p2, b3⟩)
                  refine ⟨_, _, r1, p2.trans r2, _, ex hr, ?_⟩
                  rw [List.length_append, hlen] at r3
                  rw [c3]
                  rw [← c3] at *
                  exact r3
          · cases h
        · cases h
      · cases h
    · cases h
  · cases h

theorem obj_set_self {H : AHeap} {h : Nat} {o : AObj} (ho : AHeap.obj H h = some o) : H.set h (some o) = H := by
  have hlt := AHeap.obj_lt ho
  apply List.ext_getElem?
  intro k
  by_cases hk : h = k
  · subst hk
    rw [List.getElem?_set_self hlt]
    unfold AHeap.obj at ho
    rw [List.getElem?_eq_getElem hlt] at ho ⊢
    simp at ho
    rw [ho]
  · rw [List.getElem?_set_ne hk]

theorem run_copy_cells (w : World) (dT ty elem : TypeId) (g o dLen dCap : Nat) (a : Addr) (sLen sCap : Nat) (cur : Array Value) (t : TypeId) (cs : List Value) {i : TypeInfo}
    (hu : P.underlying dT = some (.slice elem)) (hq : P.info? elem = some i)
    (hg : w.heap[g]? = some (.cells cur t (0, 0))) (hn : cs.length = Nat.min sLen dLen * i.size)
    (hsrc : ∀ j v, cs[j]? = some v → w.cell? (a.add j) = some v) (hfit : o + cs.length ≤ cur.size) (h1 : ∀ v ∈ cs, v.oneCell' = true) :
    (Builtin.copy_ #[dT, dT] ty #[.slice (some ⟨g, o, none⟩) dLen dCap, .slice (some a) sLen sCap]).run P w =
      .ok (goInt (Nat.min sLen dLen)) (w.setRow g (cur.toList.take o ++ cs ++ cur.toList.drop (o + cs.length)).toArray) := by
  have hl := run_loadCells_list (P := P) w a cs hsrc
  have hst := run_storeCells_at P g o t cs 0 cur w hg (by simpa using hfit) h1
  simp [Builtin.copy_, run_underlying hu, Builtin.lenOf, Builtin.firstCells, sizeOf, typeInfo, hq, ← hn, hl, hst]

theorem run_copy_zero (w : World) (dT ty elem : TypeId) (ad bd : Option Addr) (dLen dCap sLen sCap : Nat) {i : TypeInfo}
    (hu : P.underlying dT = some (.slice elem)) (hq : P.info? elem = some i) (hn : Nat.min sLen dLen = 0) :
    (Builtin.copy_ #[dT, dT] ty #[.slice ad dLen dCap, .slice bd sLen sCap]).run P w = .ok (goInt 0) w := by
  cases ad <;> cases bd <;> simp [Builtin.copy_, run_underlying hu, Builtin.lenOf, Builtin.firstCells, sizeOf, typeInfo, hq, hn, loadCells, loadCellsFrom, storeCells]

theorem copy_ok {t e : TypeId} {x y : Operand} {i : TypeInfo} (ht : P.underlying t = some (.slice e)) (hi : P.info? e = some i)
    (ho : o.op = .call { callee := .builtin .copy, args := #[x, y], argTypes := #[t, t] }) (st : St w m H B) (fr : FR n w m H B env a) {r : Option AV × AHeap} (h : sstep (.copy i.size x y) env H = some r) : SOK P o a w m H B r := by
  have ex : ∀ {v : Value} {w' : World}, (Builtin.copy_ #[t, t] o.type #[a.eval x, a.eval y]).run P w = .ok v w' → (execOp a.eval o).run P w = .ok (.value v) w' := by
    intro v w' hr
    simp [execOp, ho, resolve, invoke, builtin, hr]
  simp only [sstep] at h
  split at h
  · rename_i h' ver i0 len yv hx hy
    have hxv := ev_sound fr hx
    have hyv := ev_sound fr hy
    generalize hex : a.eval x = u at hxv ex
    generalize hey : a.eval y = q at hyv ex
    split at h
    · rename_i els hsrc
      obtain ⟨bd, cap, rfl, hu, hlc, hnone, hcells⟩ := asrc_sound st hyv hsrc
      split at h
      · rename_i o' ho'
        split at h
        · rename_i hc
          obtain ⟨c1, c2⟩ := hc
          cases h
          cases hxv with
          | own _ _ _ _ ad n0 cap0 hlt hh =>
            obtain ⟨hv1, hv2⟩ := hh o' ho'
            obtain ⟨b, q1, q2, q3, q4, q5, q6, q7⟩ := hv2 c1
            subst q3
            obtain ⟨g1, g2, o2, cs, e1, e2, e3, e4⟩ := st.dom h' b q1
            rw [ho'] at e1; cases e1
            have hmin : Nat.min els.length n0 = min els.length n0 := rfl
            by_cases hz : Nat.min els.length n0 = 0
            · rw [hz]
              simp only [List.take_zero, List.append_nil, Nat.add_zero, List.take_append_drop]
              rw [show ({ o' with elems := o'.elems } : AObj) = o' from rfl, obj_set_self ho']
              exact ⟨w, m, st, Adv.refl _ _ _, _, ex (run_copy_zero w t o.type e ad bd n0 cap0 els.length cap ht hi hz), .int _ _⟩
            · generalize hk : Nat.min els.length n0 = k at hz
              have hk1 : k ≤ els.length := by omega
              have hk2 : k ≤ n0 := by omega
              have hne : els ≠ [] := fun e => by subst e; simp at hk1; omega
              obtain ⟨xa, news, rfl, n1, n2, n3, n4⟩ := src_values hu hcells hne
              have had := q2 (.inl (by omega))
              subst had
              have hfit0 := block_fits e3 e4
              have hks : k * i.size ≤ els.length * i.size := Nat.mul_le_mul_right _ hk1
              have hcl : (news.take (k * i.size)).length = k * i.size := by simp; omega
              have hb1 : (i0 + k) * o'.s ≤ o'.elems.length * o'.s := Nat.mul_le_mul_right _ (by omega)
              have hfit : i0 * o'.s + (news.take (k * i.size)).length ≤ cs.size := by
                rw [hcl, c2, ← Nat.add_mul]; omega
              have hr := run_copy_cells (P := P) w t o.type e b (i0 * o'.s) n0 cap0 xa els.length cap cs o'.e (news.take (k * i.size)) ht hi e2 (by rw [hcl, hk]) (fun j v hj => by
                rw [List.getElem?_take] at hj
                split at hj
                · exact n2 j v hj
                · cases hj) hfit (fun v hv => n3 v (List.mem_of_mem_take hv))
              rw [hk] at hr
              have hnl : (o'.elems.take i0 ++ els.take k ++ o'.elems.drop (i0 + k)).length = o'.elems.length := by simp; omega
              have hu' : ∀ e', e' ∈ o'.elems.take i0 ++ els.take k ++ o'.elems.drop (i0 + k) → e'.length = o'.s := by
                intro e' he'
                rcases List.mem_append.1 he' with he' | he'
                · rcases List.mem_append.1 he' with he' | he'
                  · exact e3 e' (List.mem_of_mem_take he')
                  · rw [← c2]; exact hu e' (List.mem_of_mem_take he')
                · exact e3 e' (List.mem_of_mem_drop he')
              obtain ⟨p1, p2⟩ := st.upd ho' q1 (o' := { o' with elems := o'.elems.take i0 ++ els.take k ++ o'.elems.drop (i0 + k) }) rfl rfl (by rw [hnl]; exact Nat.le_refl _) (w' := w.setRow b (cs.toList.take (i0 * o'.s) ++ news.take (k * i.size) ++ cs.toList.drop (i0 * o'.s + (news.take (k * i.size)).length)).toArray) rfl rfl rfl (by simp) (fun k hk => setRow_other w b k _ hk) e2 (setRow_heap w b cs _ o'.e _ e2) (splice_size cs _ _ hfit) hu' (fun i2 e' j2 q a1 a2 => by
                have hj2 : j2 < o'.s := by
                  have := hu' e' (List.mem_of_getElem? a1)
                  have := (List.getElem?_eq_some_iff.1 a2).1
                  omega
                simp only
                rw [splice_get cs _ _ _ hfit, hcl]
                have hlt0 : (o'.elems.take i0).length = i0 := by simp; omega
                have hlt1 : (o'.elems.take i0 ++ els.take k).length = i0 + k := by simp; omega
                rcases Nat.lt_or_ge i2 i0 with hA | hA
                · have hm := Nat.mul_le_mul_right o'.s hA
                  rw [Nat.succ_mul] at hm
                  rw [if_neg (by omega)]
                  rw [List.getElem?_append_left (by omega), List.getElem?_append_left (by omega), List.getElem?_take_of_lt hA] at a1
                  exact e4 i2 e' j2 q a1 a2
                · rcases Nat.lt_or_ge i2 (i0 + k) with hB | hB
                  · rw [List.getElem?_append_left (by omega), List.getElem?_append_right (by omega), hlt0, List.getElem?_take_of_lt (by omega)] at a1
                    have hm := Nat.mul_le_mul_right o'.s hA
                    have hm2 := Nat.mul_le_mul_right o'.s hB
                    rw [Nat.succ_mul, Nat.add_mul] at hm2
                    rw [if_pos (by rw [c2]; omega)]
                    obtain ⟨v, b1, b2, b3⟩ := FC.nested hu n4 (i2 - i0) e' j2 q a1 a2
                    refine ⟨v, ?_, b2, b3⟩
                    have hsub : i2 * o'.s + j2 - i0 * o'.s = (i2 - i0) * i.size + j2 := by
                      rw [c2, Nat.sub_mul]; omega
                    rw [hsub, List.getElem?_take_of_lt]
                    · exact b1
                    · rw [← hsub, c2]; omega
                  · have hm2 := Nat.mul_le_mul_right o'.s hB
                    rw [Nat.add_mul] at hm2
                    rw [if_neg (by rw [c2]; omega)]
                    rw [List.getElem?_append_right (by omega), hlt1, List.getElem?_drop, show i0 + k + (i2 - (i0 + k)) = i2 by omega] at a1
                    exact e4 i2 e' j2 q a1 a2)
              exact ⟨_, m, p1, p2, _, ex hr, .int _ _⟩
        · cases h
      · cases h
    · cases h
  · cases h

theorem trOp_copy {s : Nat} {x y : Operand} (h : trOp P o = some (.copy s x y)) : ∃ t e i, o.op = .call { callee := .builtin .copy, args := #[x, y], argTypes := #[t, t] } ∧ P.underlying t = some (.slice e) ∧ P.info? e = some i ∧ s = i.size := by
  unfold trOp at h
  repeat' (split at h)
  all_goals (first | (cases h; done) | skip)
  cases h
  have hargs : ∀ {as : Array Operand}, as.toList = [x, y] → as = #[x, y] := by intro as h; cases as; simp_all
  have htys : ∀ {ts : Array TypeId} {p : TypeId}, ts.toList = [p, p] → ts = #[p, p] := by intro ts p h; cases ts; simp_all
  rename_i hts ho htu _ _ _ _ _ hi has
  subst htu
  refine ⟨_, _, _, ?_, ‹_›, hi, rfl⟩
  rw [ho, hargs has, htys hts]

theorem trOp_store {s : Nat} {g : Bool} {x v : Operand} (h : trOp P o = some (.store s g x v)) : ∃ t i d, o.op = .store t x v ∧ P.info? t = some i ∧ P.underlying t = some d ∧ s = i.size ∧ g = isAggD d := by
  unfold trOp at h
  repeat' (split at h)
  all_goals (first | (cases h; done) | skip)
  cases h
  exact ⟨_, _, _, ‹_›, ‹_›, ‹_›, rfl, rfl⟩

theorem trOp_append {e s bytes : Nat} {x y : Operand} (h : trOp P o = some (.append e s bytes x y)) : ∃ t i z, o.op = .call { callee := .builtin .append, args := #[x, y], argTypes := #[t, t] } ∧ P.underlying t = some (.slice e) ∧ P.info? e = some i ∧ i.zero = some z ∧ z.cells.size = i.size ∧ s = i.size ∧ bytes = i.bytes := by
  unfold trOp at h
  repeat' (split at h)
  all_goals (first | (cases h; done) | skip)
  cases h
  have hargs : ∀ {as : Array Operand}, as.toList = [x, y] → as = #[x, y] := by intro as h; cases as; simp_all
  have htys : ∀ {ts : Array TypeId} {p : TypeId}, ts.toList = [p, p] → ts = #[p, p] := by intro ts p h; cases ts; simp_all
  rename_i hl hr htu _ _ _ _ _ _ hc _ _ ha
  subst htu
  refine ⟨_, _, _, ?_, ‹_›, ‹_›, ‹_›, hc.1, rfl, rfl⟩
  rw [hr, hargs ha, htys hl]

theorem sstep_sound (htr : trOp P o = some io) (st : St w m H B) (fr : FR n w m H B env a) {r : Option AV × AHeap} (h : sstep io env H = some r) : SOK P o a w m H B r := by
  have quiet : (match qstep io env H with | some q => some (sres q H) | none => none) = some r → SOK P o a w m H B r := by
    intro h
    split at h
    · rename_i q hq
      cases h
      exact quiet_ok htr st fr hq
    · cases h
  cases io with
  | store s g x v =>
    obtain ⟨t, i, d, ho, hi, hd, rfl, rfl⟩ := trOp_store htr
    exact store_ok hi ho st fr h
  | append e s b x y =>
    obtain ⟨t, i, z, ho, ht, hi, hz, hzs, rfl, rfl⟩ := trOp_append htr
    exact append_ok ht hi hz hzs ho st fr h
  | copy s x y =>
    obtain ⟨t, e, i, ho, ht, hi, rfl⟩ := trOp_copy htr
    exact copy_ok ht hi ho st fr h
  | _ => exact quiet h
end
end Go.Awp
