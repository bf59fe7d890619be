/- Operations that write: append, their truth in the model. Generic in the program. -/
import Derived.Test.YtmcndbldbemebaaDoorA2
import Derived.StillTail
set_option linter.unusedVariables false
set_option linter.unusedSimpArgs false
set_option linter.unusedSectionVars false
namespace Go.Awp
set_option linter.unusedSectionVars false
variable [Fx]
section
variable {P : Program} {n : Nat} {w : World} {m : AMap} {H : AHeap} {B : Nat} {env : AEnv} {a : Act} {o : Oper} {io : IOp}
/-- The cells of the elements that are appended, as a list of values. -/
theorem src_values {s : Nat} {ad : Option Addr} {els : List (List AV)} (hu : ∀ e, e ∈ els → e.length = s) (hf : els ≠ [] → ∃ b off, ad = some ⟨b, off, none⟩ ∧ FC w m H B els.flatten fun k => w.cell? ⟨b, off + k, none⟩) (hne : els ≠ []) :
    ∃ (x : Addr) (news : List Value), ad = some x ∧ news.length = els.length * s ∧ (∀ j u, news[j]? = some u → w.cell? (x.add j) = some u) ∧ (∀ u ∈ news, u.oneCell' = true) ∧ FC w m H B els.flatten fun k => news[k]? := by
  obtain ⟨b, off, had, hc⟩ := hf hne
  have hl := flatten_length els hu
  have key : ∀ k, k < els.length * s → ∃ v, w.cell? ⟨b, off + k, none⟩ = some v ∧ RV w m H B (els.flatten[k]!) v ∧ (els.flatten[k]!).one = true := by
    intro k hk
    have h1 : els.flatten[k]? = some (els.flatten[k]'(by omega)) := List.getElem?_eq_getElem _
    obtain ⟨v, q1, q2, q3⟩ := hc k _ h1
    rw [getElem!_pos els.flatten k (by omega)]
    exact ⟨v, q1, q2, q3⟩
  let news := (List.range (els.length * s)).map fun k => (w.cell? ⟨b, off + k, none⟩).getD undef
  have hget : ∀ j, j < els.length * s → news[j]? = w.cell? ⟨b, off + j, none⟩ := by
    intro j hj
    obtain ⟨v, q1, _⟩ := key j hj
    simp [news, hj, q1]
  refine ⟨_, news, had, by simp [news], fun j u hj => ?_, fun u hu' => ?_, fun k x hk => ?_⟩
  · have hlt : j < els.length * s := by
      have := (List.getElem?_eq_some_iff.1 hj).1
      simpa [news] using this
    rw [add_none, ← hget j hlt]; exact hj
  · obtain ⟨j, hj⟩ := List.mem_iff_getElem?.1 hu'
    have hlt : j < els.length * s := by
      have := (List.getElem?_eq_some_iff.1 hj).1
      simpa [news] using this
    obtain ⟨v, q1, q2, q3⟩ := key j hlt
    rw [hget j hlt, q1] at hj
    cases hj
    rw [q2.one_eq]; exact q3
  · have hlt : k < els.length * s := by
      have := (List.getElem?_eq_some_iff.1 hk).1
      omega
    obtain ⟨v, q1, q2, q3⟩ := hc k x hk
    exact ⟨v, by show news[k]? = _; rw [hget k hlt]; exact q1, q2, q3⟩
theorem run_append_zero {t e ty : TypeId} {i : TypeInfo} (ht : P.underlying t = some (.slice e)) (hi : P.info? e = some i) (ad : Option Addr) (len cap : Nat) (hle : len ≤ cap) (bd : Option Addr) (c : Nat) :
    (Builtin.append_ #[t, t] ty #[.slice ad len cap, .slice bd 0 c]).run P w = .ok (.slice ad len cap) w := by
  cases ad <;> cases bd <;> simp [Builtin.append_, run_underlying ht, sizeOf, typeInfo, hi, Builtin.lenOf, Builtin.firstCells, loadCells, loadCellsFrom, storeCells, hle]
theorem obj_set_self {H : AHeap} {h : Nat} {o : AObj} (ho : AHeap.obj H h = some o) : H.set h (some o) = H := by
  have hlt := AHeap.obj_lt ho
  apply List.ext_getElem?
  intro k
  by_cases hk : h = k
  · subst hk
    rw [List.getElem?_set_self hlt]
    unfold AHeap.obj at ho
    rw [List.getElem?_eq_getElem hlt] at ho ⊢
    simp at ho
    rw [ho]
  · rw [List.getElem?_set_ne hk]
theorem append_ok {t e : TypeId} {x y : Operand} {i : TypeInfo} {z : Value} (ht : P.underlying t = some (.slice e)) (hi : P.info? e = some i) (hz : i.zero = some z) (hzs : z.cells.size = i.size) 
    (ho : o.op = .call { callee := .builtin .append, args := #[x, y], argTypes := #[t, t] }) (st : St w m H B) (fr : FR n w m H B env a) {r : Option AV × AHeap} (h : sstep (.append e i.size i.bytes x y) env H = some r) : SOK P o a w m H B r := by
  have ex : ∀ {v : Value} {w' : World}, (Builtin.append_ #[t, t] o.type #[a.eval x, a.eval y]).run P w = .ok v w' → (execOp a.eval o).run P w = .ok (.value v) w' := by
    intro v w' hr
    simp [execOp, ho, resolve, invoke, builtin, hr]
  simp only [sstep] at h
  split at h
  · rename_i xv yv hx hy
    have hxv := ev_sound fr hx
    have hyv := ev_sound fr hy
    generalize hex : a.eval x = u at hxv ex
    generalize hey : a.eval y = q at hyv ex
    split at h
    · rename_i els hsrc
      obtain ⟨ad, cap, rfl, hu, hlc, hnone, hcells⟩ := asrc_sound st hyv hsrc
      split at h
      · obtain ⟨ad1, rfl⟩ : ∃ ad1, u = .slice ad1 0 0 := by cases hxv; exact ⟨_, rfl⟩
        split at h
        · rename_i h0
          cases h
          refine ⟨w, m, st, Adv.refl _ _ _, .slice ad1 0 0, ex ?_, .nilSlice _⟩
          rw [h0]
          exact run_append_zero ht hi ad1 0 0 (Nat.le_refl _) ad cap
        · rename_i h0
          split at h
          · rename_i hc
            cases h
            have hne : els ≠ [] := fun e => h0 (by rw [e]; rfl)
            obtain ⟨xa, news, rfl, n1, n2, n3, n4⟩ := src_values hu hcells hne
            have hr : (Builtin.append_ #[t, t] o.type #[.slice ad1 0 0, .slice (some xa) els.length cap]).run P w = .ok (.slice (some ⟨w.heap.size, 0, none⟩) els.length (grownCap w els.length 0 e)) (w.drew.alloc (.cells (news.toArray ++ Builtin.zeroCells z.cells (grownCap w els.length 0 e - els.length)) e)) := by
              cases ad1 with
              | none => exact run_append_nil (P := P) w t o.type e i z ht hi hz xa els.length cap news n1 n2 (by omega) (by omega) (by omega)
              | some a1 =>
                have := run_append_grow (P := P) w t o.type e i z ht hi hz a1 0 0 [] (by simp) (by simp) xa els.length cap news n1 n2 (by omega) (by omega) (growslice_fits (by omega) (by rw [Nat.zero_add]; omega))
                simpa using this
            obtain ⟨p1, p2⟩ := st.push [some ⟨e, i.size, els⟩]
            have hm : m H.length = none := by
              cases hm : m H.length with
              | none => rfl
              | some b => exact absurd (st.mlt hm) (Nat.lt_irrefl _)
            have hge := grownCap_ge w els.length 0 e
            have hle := grownCap_le_maxLen w els.length 0 e (by unfold maxLen; omega)
            obtain ⟨q1, q2, q3⟩ := arr_ok p1 (h := H.length) AHeap.obj_push_eq hm hu (w1 := w.drew) rfl rfl rfl rfl hge hle (vs := news.toArray ++ Builtin.zeroCells z.cells (grownCap w els.length 0 e - els.length)) (by
              rw [Array.size_append, size_zeroCells, hzs, List.size_toArray, n1, ← Nat.add_mul]; congr 1; omega) (fun i' el j x' a1 a2 => by
              obtain ⟨v, b1, b2, b3⟩ := FC.nested hu n4 i' el j x' a1 a2
              refine ⟨v, ?_, b2.mono p2, b3⟩
              have := (List.getElem?_eq_some_iff.1 b1).1
              rw [Array.getElem?_append_left (by simpa using this)]
              simpa using b1)
            exact ⟨_, _, q1, p2.trans q2, _, ex hr, q3⟩
          · cases h
      · rename_i h' ver i0 len
        split at h
        · rename_i o' ho'
          split at h
          · rename_i hc
            obtain ⟨c1, c2, c3, c4, c5, c6, c7⟩ := hc
            cases h
            subst c2 c4
            cases hxv with
            | own _ _ _ _ ad0 len0 cap0 hlt hh =>
              obtain ⟨hv1, hv2⟩ := hh o' ho'
              obtain ⟨b, q1, q2, q3, q4, q5, q6, q7⟩ := hv2 c1
              have had := q2 (.inr rfl)
              subst had q3
              simp only [Nat.zero_mul] at *
              obtain ⟨g1, g2, o2, cs, e1, e2, e3, e4⟩ := st.dom h' b q1
              rw [ho'] at e1; cases e1
              have hcs : cs.size = cap0 * o'.s := by
                have := q7
                simp only [World.shape?, e2] at this
                simp at this
                omega
              by_cases hnil : els = []
              · subst hnil
                simp only [List.length_nil, Nat.add_zero, List.append_nil]
                have hset : H.set h' (some o') = H := by
                  apply List.ext_getElem?
                  intro k
                  by_cases hk : h' = k
                  · subst hk
                    rw [List.getElem?_set_self hlt]
                    unfold AHeap.obj at ho'
                    rw [List.getElem?_eq_getElem hlt] at ho' ⊢
                    simp at ho'
                    rw [ho']
                  · rw [List.getElem?_set_ne hk]
                rw [show ({ o' with elems := o'.elems } : AObj) = o' from rfl, hset]
                refine ⟨w, m, st, Adv.refl _ _ _, _, ex (run_append_zero ht hi _ len0 cap0 q5 ad cap), ?_⟩
                rw [c3]
                refine .own _ _ _ _ _ _ _ hlt fun o3 ho3 => ?_
                rw [ho'] at ho3; cases ho3
                exact ⟨hv1, fun _ => ⟨b, q1, fun _ => by simp, rfl, by omega, by omega, q6, by rw [Nat.zero_add]; rw [Nat.zero_add] at q7; exact q7⟩⟩
              · obtain ⟨xa, news, rfl, n1, n2, n3, n4⟩ := src_values hu hcells hnil
                have hpos : 0 < els.length := by
                  rcases Nat.eq_zero_or_pos els.length with h0 | h0
                  · exact absurd (List.eq_nil_of_length_eq_zero h0) hnil
                  · exact h0
                have hlen : o'.elems.length = len0 := by omega
                have hu' : ∀ e', e' ∈ o'.elems ++ els → e'.length = i.size := by
                  intro e' he'
                  rcases List.mem_append.1 he' with he' | he'
                  · exact (e3 e' he').trans c5.symm
                  · exact hu e' he'
                have hflat : (o'.elems ++ els).flatten = o'.elems.flatten ++ els.flatten := List.flatten_append
                have hl1 : o'.elems.flatten.length = len0 * i.size := by rw [flatten_length (s := i.size) o'.elems (fun e' he' => (e3 e' he').trans c5.symm), hlen]
                have hold : FC w m H B o'.elems.flatten fun k => cs[k]? := FC.flat (s := o'.s) e3 e4
                by_cases hroom : len0 + els.length ≤ cap0
                · have hfit : len0 * i.size + news.length ≤ cs.size := by
                    rw [n1, hcs, ← c5, ← Nat.add_mul]; exact Nat.mul_le_mul_right _ hroom
                  have hr := run_append_room (P := P) w t o.type o'.e i ht hi b len0 cap0 cs e2 xa els.length cap news n1 n2 n3 hroom hfit
                  obtain ⟨p1, p2⟩ := st.upd ho' q1 (o' := { o' with elems := o'.elems ++ els }) rfl rfl (by simp) (w' := w.setRow b (cs.toList.take (len0 * i.size) ++ news ++ cs.toList.drop (len0 * i.size + news.length)).toArray) rfl rfl rfl (by simp) (fun k hk => setRow_other w b k _ hk) e2 (setRow_heap w b cs _ o'.e _ e2) (splice_size cs _ _ hfit) (fun e' he' => (hu' e' he').trans c5) (fun i2 e' j2 q a1 a2 => by
                    have hfc : FC w m H B (o'.elems ++ els).flatten fun k => (cs.toList.take (len0 * i.size) ++ news ++ cs.toList.drop (len0 * i.size + news.length)).toArray[k]? := by
                      intro k x' hk
                      simp only
                      rw [hflat] at hk
                      rw [splice_get cs _ _ _ hfit]
                      rcases Nat.lt_or_ge k (len0 * i.size) with h1 | h1
                      · rw [List.getElem?_append_left (by omega)] at hk
                        rw [if_neg (by omega)]
                        exact hold k x' hk
                      · rw [List.getElem?_append_right (by omega), hl1] at hk
                        have hk2 := (List.getElem?_eq_some_iff.1 hk).1
                        rw [flatten_length els hu] at hk2
                        rw [if_pos (by omega)]
                        exact n4 _ x' hk
                    have := FC.nested hu' hfc i2 e' j2 q a1 a2
                    have e5 : i2 * i.size + j2 = i2 * o'.s + j2 := by rw [c5]
                    rw [e5] at this
                    exact this)
                  refine ⟨_, m, p1, p2, _, ex hr, ?_⟩
                  rw [c3]
                  have hlt' : h' < (H.set h' (some { o' with elems := o'.elems ++ els })).length := by simpa using hlt
                  refine .own _ _ _ _ _ _ _ hlt' fun o3 ho3 => ?_
                  rw [AHeap.obj_set_eq hlt] at ho3
                  cases ho3
                  refine ⟨by simp; omega, fun _ => ⟨b, q1, fun _ => by simp, by omega, by omega, by omega, q6, ?_⟩⟩
                  simp [World.shape?, setRow_heap w b cs _ o'.e _ e2]
                  rw [← hcs]
                  have := splice_size cs news (len0 * i.size) hfit
                  rw [c3] at this
                  simpa using this
                · have hvals : ∃ olds : List Value, olds.length = len0 * i.size ∧ (∀ j u, olds[j]? = some u → w.cell? ((⟨b, 0, none⟩ : Addr).add j) = some u) ∧ ∀ k, k < len0 * i.size → olds[k]? = cs[k]? := by
                    have hle : len0 * i.size ≤ cs.size := by rw [hcs, ← c5]; exact Nat.mul_le_mul_right _ q5
                    refine ⟨cs.toList.take (len0 * i.size), by simp; omega, fun j u hj => ?_, fun k hk => by rw [List.getElem?_take_of_lt hk, Array.getElem?_toList]⟩
                    have hjl := (List.getElem?_eq_some_iff.1 hj).1
                    simp at hjl
                    rw [List.getElem?_take_of_lt (by omega), Array.getElem?_toList] at hj
                    rw [add_none]
                    simp [World.cell?, e2, hj]
                  obtain ⟨olds, m1, m2, m3⟩ := hvals
                  have hr := run_append_grow (P := P) w t o.type o'.e i z ht hi hz ⟨b, 0, none⟩ len0 cap0 olds m1 m2 xa els.length cap news n1 n2 (by omega) (by omega) (growslice_fits (by omega) (by omega))
                  have hge := grownCap_ge w (len0 + els.length) cap0 o'.e
                  have hle := grownCap_le_maxLen w (len0 + els.length) cap0 o'.e (by unfold maxLen; omega)
                  obtain ⟨p1, p2⟩ := st.drop ho' (some { o' with elems := o'.elems ++ els }) (fun o1 e => by cases e; exact ⟨rfl, rfl, by simp; omega⟩)
                  have ho2 : AHeap.obj (H.set h' (some { o' with elems := o'.elems ++ els })) h' = some ⟨o'.e, i.size, o'.elems ++ els⟩ := by
                    rw [AHeap.obj_set_eq hlt, c5]
                  have hm : AMap.without m h' h' = none := by simp [AMap.without]
                  obtain ⟨r1, r2, r3⟩ := arr_ok p1 (h := h') ho2 hm hu' (w1 := w.drew) rfl rfl rfl rfl (cap := grownCap w (len0 + els.length) cap0 o'.e) (by rw [List.length_append, hlen]; exact hge) hle (vs := olds.toArray ++ news.toArray ++ Builtin.zeroCells z.cells (grownCap w (len0 + els.length) cap0 o'.e - (len0 + els.length))) (by
                    rw [Array.size_append, Array.size_append, size_zeroCells, hzs, List.size_toArray, List.size_toArray, n1, m1, ← Nat.add_mul, ← Nat.add_mul]; congr 1; omega) (fun i2 e' j2 q a1 a2 => by
                    have hfc : FC w m H B (o'.elems ++ els).flatten fun k => (olds.toArray ++ news.toArray ++ Builtin.zeroCells z.cells (grownCap w (len0 + els.length) cap0 o'.e - (len0 + els.length)))[k]? := by
                      intro k x' hk
                      simp only
                      rw [hflat] at hk
                      rcases Nat.lt_or_ge k (len0 * i.size) with h1 | h1
                      · rw [List.getElem?_append_left (by omega)] at hk
                        rw [Array.append_assoc, Array.getElem?_append_left (by simp; omega)]
                        obtain ⟨v, b1, b2⟩ := hold k x' hk
                        refine ⟨v, ?_, b2⟩
                        have := m3 k h1
                        simp only [List.getElem?_toArray]
                        rw [this]; exact b1
                      · rw [List.getElem?_append_right (by omega), hl1] at hk
                        have hk2 := (List.getElem?_eq_some_iff.1 hk).1
                        rw [flatten_length els hu] at hk2
                        obtain ⟨v, b1, b2⟩ := n4 _ x' hk
                        refine ⟨v, ?_, b2⟩
                        rw [Array.getElem?_append_left (by simp; omega), Array.getElem?_append_right (by simp; omega)]
                        simp only [List.size_toArray, List.getElem?_toArray, m1]
                        exact b1
                    obtain ⟨v, b1, b2, b3⟩ := FC.nested hu' hfc i2 e' j2 q a1 a2
                    exact ⟨v, b1, b2.mono p2, b3⟩)
                  refine ⟨_, _, r1, p2.trans r2, _, ex hr, ?_⟩
                  rw [List.length_append, hlen] at r3
                  rw [c3]
                  rw [← c3] at *
                  exact r3
          · split at h
            · rename_i hc
              obtain ⟨c1, c2, c4, c5, c6, c7⟩ := hc
              cases h
              subst c2 c4
              cases hxv with
              | own _ _ _ _ ad0 len0 cap0 hlt hh =>
                obtain ⟨hv1, hv2⟩ := hh o' ho'
                obtain ⟨b, q1, q2, q3, q4, q5, q6, q7⟩ := hv2 c1
                have had := q2 (.inr rfl)
                subst had q3
                simp only [Nat.zero_mul] at *
                have hroom0 := own_room st ho' q1 (by omega) q7 (by omega)
                obtain ⟨g1, g2, o2, cs, e1, e2, e3, e4⟩ := st.dom h' b q1
                rw [ho'] at e1; cases e1
                have hcs : cs.size = cap0 * o'.s := by
                  have := q7
                  simp only [World.shape?, e2] at this
                  simp at this
                  omega
                by_cases hnil : els = []
                · subst hnil
                  simp only [List.length_nil, Nat.add_zero, List.append_nil, List.take_append_drop]
                  rw [show ({ o' with elems := o'.elems } : AObj) = o' from rfl, obj_set_self ho']
                  refine ⟨w, m, st, Adv.refl _ _ _, _, ex (run_append_zero ht hi _ len0 cap0 q5 ad cap), ?_⟩
                  refine .own _ _ _ _ _ _ _ hlt fun o3 ho3 => ?_
                  rw [ho'] at ho3; cases ho3
                  exact ⟨hv1, fun _ => ⟨b, q1, fun _ => by simp, rfl, by omega, by omega, q6, by rw [Nat.zero_add]; rw [Nat.zero_add] at q7; exact q7⟩⟩
                · obtain ⟨xa, news, rfl, n1, n2, n3, n4⟩ := src_values hu hcells hnil
                  have hroom : len0 + els.length ≤ cap0 := by omega
                  have hfit : len0 * i.size + news.length ≤ cs.size := by
                    rw [n1, hcs, ← c5, ← Nat.add_mul]; exact Nat.mul_le_mul_right _ hroom
                  have hr := run_append_room (P := P) w t o.type o'.e i ht hi b len0 cap0 cs e2 xa els.length cap news n1 n2 n3 hroom hfit
                  have hnl : (o'.elems.take len0 ++ els ++ o'.elems.drop (len0 + els.length)).length = o'.elems.length := by simp; omega
                  have hu' : ∀ e', e' ∈ o'.elems.take len0 ++ els ++ o'.elems.drop (len0 + els.length) → e'.length = o'.s := by
                    intro e' he'
                    rcases List.mem_append.1 he' with he' | he'
                    · rcases List.mem_append.1 he' with he' | he'
                      · exact e3 e' (List.mem_of_mem_take he')
                      · rw [← c5]; exact hu e' he'
                    · exact e3 e' (List.mem_of_mem_drop he')
                  obtain ⟨p1, p2⟩ := st.upd ho' q1 (o' := { o' with elems := o'.elems.take len0 ++ els ++ o'.elems.drop (len0 + els.length) }) rfl rfl (by rw [hnl]; exact Nat.le_refl _) (w' := w.setRow b (cs.toList.take (len0 * i.size) ++ news ++ cs.toList.drop (len0 * i.size + news.length)).toArray) rfl rfl rfl (by simp) (fun k hk => setRow_other w b k _ hk) e2 (setRow_heap w b cs _ o'.e _ e2) (splice_size cs _ _ hfit) hu' (fun i2 e' j2 q a1 a2 => by
                    have hj2 : j2 < o'.s := by
                      have := hu' e' (List.mem_of_getElem? a1)
                      have := (List.getElem?_eq_some_iff.1 a2).1
                      omega
                    simp only
                    rw [splice_get cs _ _ _ hfit, n1]
                    have hlt0 : (o'.elems.take len0).length = len0 := by simp; omega
                    have hlt1 : (o'.elems.take len0 ++ els).length = len0 + els.length := by simp; omega
                    rcases Nat.lt_or_ge i2 len0 with hA | hA
                    · have hm := Nat.mul_le_mul_right o'.s hA
                      rw [Nat.succ_mul] at hm
                      rw [if_neg (by rw [c5]; omega)]
                      rw [List.getElem?_append_left (by omega), List.getElem?_append_left (by omega), List.getElem?_take_of_lt hA] at a1
                      exact e4 i2 e' j2 q a1 a2
                    · rcases Nat.lt_or_ge i2 (len0 + els.length) with hB | hB
                      · rw [List.getElem?_append_left (by omega), List.getElem?_append_right (by omega), hlt0] at a1
                        have hm := Nat.mul_le_mul_right o'.s hA
                        have hm2 := Nat.mul_le_mul_right o'.s hB
                        rw [Nat.succ_mul, Nat.add_mul] at hm2
                        rw [if_pos (by rw [c5]; omega)]
                        obtain ⟨v, b1, b2, b3⟩ := FC.nested hu n4 (i2 - len0) e' j2 q a1 a2
                        refine ⟨v, ?_, b2, b3⟩
                        have hsub : i2 * o'.s + j2 - len0 * i.size = (i2 - len0) * i.size + j2 := by
                          rw [c5, Nat.sub_mul]; omega
                        rw [hsub]; exact b1
                      · have hm2 := Nat.mul_le_mul_right o'.s hB
                        rw [Nat.add_mul] at hm2
                        rw [if_neg (by rw [c5]; omega)]
                        rw [List.getElem?_append_right (by omega), hlt1, List.getElem?_drop, show len0 + els.length + (i2 - (len0 + els.length)) = i2 by omega] at a1
                        exact e4 i2 e' j2 q a1 a2)
                  refine ⟨_, m, p1, p2, _, ex hr, ?_⟩
                  have hlt' : h' < (H.set h' (some { o' with elems := o'.elems.take len0 ++ els ++ o'.elems.drop (len0 + els.length) })).length := by simpa using hlt
                  refine .own _ _ _ _ _ _ _ hlt' fun o3 ho3 => ?_
                  rw [AHeap.obj_set_eq hlt] at ho3
                  cases ho3
                  refine ⟨by rw [hnl]; omega, fun _ => ⟨b, q1, fun _ => by simp, by omega, by omega, by omega, q6, ?_⟩⟩
                  simp [World.shape?, setRow_heap w b cs _ o'.e _ e2]
                  rw [← hcs]
                  have := splice_size cs news (len0 * i.size) hfit
                  simpa using this
            · cases h
        · cases h
      · rename_i l0
        split at h
        · rename_i h0
          cases h
          cases hxv with
          | full _ n0 ad1 hr =>
            refine ⟨w, m, st, Adv.refl _ _ _, .slice ad1 n0 n0, ex ?_, .full _ _ _ hr⟩
            rw [h0]
            exact run_append_zero ht hi ad1 n0 n0 (Nat.le_refl _) ad cap
        · rename_i h0
          split at h
          · rename_i hc
            obtain ⟨c1, c2, c3⟩ := hc
            cases h
            have hne : els ≠ [] := fun e => h0 (by rw [e]; rfl)
            obtain ⟨xa, news, rfl, n1, n2, n3, n4⟩ := src_values hu hcells hne
            cases hxv with
            | full _ n0 ad1 hrv =>
              obtain ⟨ad2, cap2, hv2, hu2, hlc2, hnone2, hcells2⟩ := asrc_sound st hrv (s := i.size) (els := l0) (by simp only [asrc]; rw [if_pos c1])
              have hn0 : n0 = l0.length := by injection hv2
              have had2 : ad2 = ad1 := by injection hv2 with h1; exact h1.symm
              subst had2
              subst hn0
              have huu : ∀ e', e' ∈ l0 ++ els → e'.length = i.size := fun e' he' => by
                rcases List.mem_append.1 he' with he' | he'
                · exact hu2 e' he'
                · exact hu e' he'
              obtain ⟨olds, m1, m2, m3⟩ : ∃ olds : List Value, olds.length = l0.length * i.size ∧ (∀ x1, ad2 = some x1 → ∀ j u, olds[j]? = some u → w.cell? (x1.add j) = some u) ∧ FC w m H B l0.flatten fun k => olds[k]? := by
                by_cases hl0 : l0 = []
                · subst hl0; exact ⟨[], by simp, fun _ _ j u hj => by simp at hj, fun k x hk => by simp at hk⟩
                · obtain ⟨xb, olds, hxb, o1, o2, o3, o4⟩ := src_values hu2 hcells2 hl0
                  exact ⟨olds, o1, fun x1 hx1 => by rw [hxb] at hx1; cases hx1; exact o2, o4⟩
              have hpos : 0 < els.length := by omega
              have hr : (Builtin.append_ #[t, t] o.type #[.slice ad2 l0.length l0.length, .slice (some xa) els.length cap]).run P w = .ok (.slice (some ⟨w.heap.size, 0, none⟩) (l0.length + els.length) (grownCap w (l0.length + els.length) l0.length e)) (w.drew.alloc (.cells (olds.toArray ++ news.toArray ++ Builtin.zeroCells z.cells (grownCap w (l0.length + els.length) l0.length e - (l0.length + els.length))) e)) := by
                cases ad2 with
                | none =>
                  have hz0 : l0.length = 0 := by have := hnone2 rfl; omega
                  have hl0 : l0 = [] := List.eq_nil_of_length_eq_zero hz0
                  subst hl0
                  have ho0 : olds = [] := List.eq_nil_of_length_eq_zero (by simpa using m1)
                  subst ho0
                  simp only [List.length_nil, Nat.zero_add] at c2 c3
                  have := run_append_nil (P := P) w t o.type e i z ht hi hz xa els.length cap news n1 n2 (by omega) (by omega) (by omega)
                  simpa using this
                | some a1 =>
                  exact run_append_grow (P := P) w t o.type e i z ht hi hz a1 l0.length l0.length olds m1 (m2 a1 rfl) xa els.length cap news n1 n2 (by omega) (by omega) (growslice_fits (by omega) (by omega))
              obtain ⟨p1, p2⟩ := st.push [some ⟨e, i.size, l0 ++ els⟩]
              have hm : m H.length = none := by
                cases hm : m H.length with
                | none => rfl
                | some b => exact absurd (st.mlt hm) (Nat.lt_irrefl _)
              have hge := grownCap_ge w (l0.length + els.length) l0.length e
              have hle := grownCap_le_maxLen w (l0.length + els.length) l0.length e (by unfold maxLen; omega)
              have hl1 : l0.flatten.length = l0.length * i.size := flatten_length l0 hu2
              obtain ⟨q1, q2, q3⟩ := arr_ok p1 (h := H.length) AHeap.obj_push_eq hm huu (w1 := w.drew) rfl rfl rfl rfl (cap := grownCap w (l0.length + els.length) l0.length e) (by rw [List.length_append]; exact hge) hle (vs := olds.toArray ++ news.toArray ++ Builtin.zeroCells z.cells (grownCap w (l0.length + els.length) l0.length e - (l0.length + els.length))) (by
                rw [Array.size_append, Array.size_append, size_zeroCells, hzs, List.size_toArray, List.size_toArray, n1, m1, ← Nat.add_mul, ← Nat.add_mul]; congr 1; omega) (fun i2 e' j2 q a1 a2 => by
                have hfc : FC w m H B (l0 ++ els).flatten fun k => (olds.toArray ++ news.toArray ++ Builtin.zeroCells z.cells (grownCap w (l0.length + els.length) l0.length e - (l0.length + els.length)))[k]? := by
                  intro k x' hk
                  simp only
                  rw [List.flatten_append] at hk
                  rcases Nat.lt_or_ge k (l0.length * i.size) with h1 | h1
                  · rw [List.getElem?_append_left (by omega)] at hk
                    rw [Array.append_assoc, Array.getElem?_append_left (by simp; omega)]
                    obtain ⟨v, b1, b2⟩ := m3 k x' hk
                    exact ⟨v, by simpa using b1, b2⟩
                  · rw [List.getElem?_append_right (by omega), hl1] at hk
                    have hk2 := (List.getElem?_eq_some_iff.1 hk).1
                    rw [flatten_length els hu] at hk2
                    obtain ⟨v, b1, b2⟩ := n4 _ x' hk
                    refine ⟨v, ?_, b2⟩
                    rw [Array.getElem?_append_left (by simp; omega), Array.getElem?_append_right (by simp; omega)]
                    simp only [List.size_toArray, List.getElem?_toArray, m1]
                    exact b1
                obtain ⟨v, b1, b2, b3⟩ := FC.nested huu hfc i2 e' j2 q a1 a2
                exact ⟨v, b1, b2.mono p2, b3⟩)
              rw [List.length_append] at q3
              exact ⟨_, _, q1, p2.trans q2, _, ex hr, q3⟩
          · cases h
      · cases h
    · cases h
  · cases h
theorem run_copy_cells (w : World) (dT ty elem : TypeId) (g o dLen dCap : Nat) (a : Addr) (sLen sCap : Nat) (cur : Array Value) (t : TypeId) (cs : List Value) {i : TypeInfo}
    (hu : P.underlying dT = some (.slice elem)) (hq : P.info? elem = some i)
    (hg : w.heap[g]? = some (.cells cur t (0, 0))) (hn : cs.length = Nat.min sLen dLen * i.size)
    (hsrc : ∀ j v, cs[j]? = some v → w.cell? (a.add j) = some v) (hfit : o + cs.length ≤ cur.size) (h1 : ∀ v ∈ cs, v.oneCell' = true) :
    (Builtin.copy_ #[dT, dT] ty #[.slice (some ⟨g, o, none⟩) dLen dCap, .slice (some a) sLen sCap]).run P w =
      .ok (goInt (Nat.min sLen dLen)) (w.setRow g (cur.toList.take o ++ cs ++ cur.toList.drop (o + cs.length)).toArray) := by
  have hl := run_loadCells_list (P := P) w a cs hsrc
  have hst := run_storeCells_at P g o t cs 0 cur w hg (by simpa using hfit) h1
  simp [Builtin.copy_, run_underlying hu, Builtin.lenOf, Builtin.firstCells, sizeOf, typeInfo, hq, ← hn, hl, hst]
theorem run_copy_zero (w : World) (dT ty elem : TypeId) (ad bd : Option Addr) (dLen dCap sLen sCap : Nat) {i : TypeInfo}
    (hu : P.underlying dT = some (.slice elem)) (hq : P.info? elem = some i) (hn : Nat.min sLen dLen = 0) :
    (Builtin.copy_ #[dT, dT] ty #[.slice ad dLen dCap, .slice bd sLen sCap]).run P w = .ok (goInt 0) w := by
  cases ad <;> cases bd <;> simp [Builtin.copy_, run_underlying hu, Builtin.lenOf, Builtin.firstCells, sizeOf, typeInfo, hq, hn, loadCells, loadCellsFrom, storeCells]
theorem copy_ok {t e : TypeId} {x y : Operand} {i : TypeInfo} (ht : P.underlying t = some (.slice e)) (hi : P.info? e = some i)
    (ho : o.op = .call { callee := .builtin .copy, args := #[x, y], argTypes := #[t, t] }) (st : St w m H B) (fr : FR n w m H B env a) {r : Option AV × AHeap} (h : sstep (.copy i.size x y) env H = some r) : SOK P o a w m H B r := by
  have ex : ∀ {v : Value} {w' : World}, (Builtin.copy_ #[t, t] o.type #[a.eval x, a.eval y]).run P w = .ok v w' → (execOp a.eval o).run P w = .ok (.value v) w' := by
    intro v w' hr
    simp [execOp, ho, resolve, invoke, builtin, hr]
  simp only [sstep] at h
  split at h
  · rename_i h' ver i0 j0 s' len yv hx hy
    have hxv := ev_sound fr hx
    have hyv := ev_sound fr hy
    generalize hex : a.eval x = u at hxv ex
    generalize hey : a.eval y = q at hyv ex
    split at h
    · rename_i els hsrc
      obtain ⟨bd, cap, rfl, hu, hlc, hnone, hcells⟩ := asrc_sound st hyv hsrc
      split at h
      · rename_i o' ho'
        split at h
        · rename_i el hel
          split at h
          · rename_i hc
            obtain ⟨c1, c2, c3⟩ := hc
            cases h
            cases hxv with
            | sub _ _ _ _ _ _ ad n0 cap0 hlt hh =>
              obtain ⟨hv1, hv2⟩ := hh o' ho'
              obtain ⟨b, q1, q2, q3, q4⟩ := hv2 c1
              subst q3
              obtain ⟨g1, g2, o2, cs, e1, e2, e3, e4⟩ := st.dom h' b q1
              rw [ho'] at e1; cases e1
              have hmin : Nat.min els.length n0 = min els.length n0 := rfl
              by_cases hz : Nat.min els.length n0 = 0
              · rw [hz]
                have hset : o'.elems.set i0 el = o'.elems := by
                  obtain ⟨hi0, rfl⟩ := List.getElem?_eq_some_iff.1 hel
                  exact List.set_getElem_self hi0
                simp only [List.take_zero, List.flatten_nil, setMany, hset]
                rw [show ({ o' with elems := o'.elems } : AObj) = o' from rfl, obj_set_self ho']
                exact ⟨w, m, st, Adv.refl _ _ _, _, ex (run_copy_zero w t o.type e (some ad) bd n0 cap0 els.length cap ht hi hz), .int _ _⟩
              · generalize hk : Nat.min els.length n0 = k at hz c3
                have hk1 : k ≤ els.length := by omega
                have hk2 : k ≤ n0 := by omega
                have hne : els ≠ [] := fun e => by subst e; simp at hk1; omega
                obtain ⟨xa, news, rfl, n1, n2, n3, n4⟩ := src_values hu hcells hne
                have had := q2 (by omega)
                subst had
                have hi0 : i0 < o'.elems.length := (List.getElem?_eq_some_iff.1 hel).1
                have hell : el.length = o'.s := e3 el (List.mem_of_getElem? hel)
                have hfit0 := block_fits e3 e4
                have hks : k * i.size ≤ els.length * i.size := Nat.mul_le_mul_right _ hk1
                have hcl : (news.take (k * i.size)).length = k * i.size := by simp; omega
                have hb1 : i0 * o'.s + o'.s ≤ o'.elems.length * o'.s := by rw [← Nat.succ_mul]; exact Nat.mul_le_mul_right _ hi0
                have hfit : i0 * o'.s + j0 + (news.take (k * i.size)).length ≤ cs.size := by
                  rw [hcl]; omega
                have hr := run_copy_cells (P := P) w t o.type e b (i0 * o'.s + j0) n0 cap0 xa els.length cap cs o'.e (news.take (k * i.size)) ht hi e2 (by rw [hcl, hk]) (fun j v hj => by
                  rw [List.getElem?_take] at hj
                  split at hj
                  · exact n2 j v hj
                  · cases hj) hfit (fun v hv => n3 v (List.mem_of_mem_take hv))
                rw [hk] at hr
                have hfl : (els.take k).flatten.length = k * i.size := by
                  rw [flatten_length (s := i.size) _ fun e he => hu e (List.mem_of_mem_take he), List.length_take, Nat.min_eq_left hk1]
                have hpre : ∀ q, q < k * i.size → (els.take k).flatten[q]? = els.flatten[q]? := by
                  intro q hq
                  conv => rhs; rw [← List.take_append_drop k els]
                  rw [List.flatten_append, List.getElem?_append_left (by rw [hfl]; exact hq)]
                have hu' : ∀ e', e' ∈ o'.elems.set i0 (setMany el j0 (els.take k).flatten) → e'.length = o'.s := by
                  intro e' he'
                  rcases List.mem_or_eq_of_mem_set he' with he' | rfl
                  · exact e3 e' he'
                  · rw [length_setMany]; exact hell
                obtain ⟨p1, p2⟩ := st.upd ho' q1 (o' := { o' with elems := o'.elems.set i0 (setMany el j0 (els.take k).flatten) }) rfl rfl (by simp) (w' := w.setRow b (cs.toList.take (i0 * o'.s + j0) ++ news.take (k * i.size) ++ cs.toList.drop (i0 * o'.s + j0 + (news.take (k * i.size)).length)).toArray) rfl rfl rfl (by simp) (fun k hk => setRow_other w b k _ hk) e2 (setRow_heap w b cs _ o'.e _ e2) (splice_size cs _ _ hfit) hu' (fun i2 e' j2 q a1 a2 => by
                  have hj2 : j2 < o'.s := by
                    have := hu' e' (List.mem_of_getElem? a1)
                    have := (List.getElem?_eq_some_iff.1 a2).1
                    omega
                  simp only
                  rw [splice_get cs _ _ _ hfit, hcl]
                  by_cases hi2 : i0 = i2
                  · subst hi2
                    rw [List.getElem?_set_self hi0] at a1
                    cases a1
                    rw [setMany_get _ _ _ _ (by rw [hfl]; exact c3), hfl] at a2
                    by_cases hin : j0 ≤ j2 ∧ j2 < j0 + k * i.size
                    · rw [if_pos hin, hpre _ (by omega)] at a2
                      rw [if_pos (by omega)]
                      obtain ⟨v, b1, b2, b3⟩ := n4 _ q a2
                      refine ⟨v, ?_, b2, b3⟩
                      rw [show i0 * o'.s + j2 - (i0 * o'.s + j0) = j2 - j0 by omega, List.getElem?_take_of_lt (by omega)]
                      exact b1
                    · rw [if_neg hin] at a2
                      rw [if_neg (by omega)]
                      exact e4 i0 el j2 q hel a2
                  · rw [List.getElem?_set_ne hi2] at a1
                    have hout : ¬ (i0 * o'.s + j0 ≤ i2 * o'.s + j2 ∧ i2 * o'.s + j2 < i0 * o'.s + j0 + k * i.size) := by
                      rcases Nat.lt_or_gt_of_ne hi2 with hA | hA
                      · have hm := Nat.mul_le_mul_right o'.s hA
                        rw [Nat.succ_mul] at hm
                        omega
                      · have hm := Nat.mul_le_mul_right o'.s hA
                        rw [Nat.succ_mul] at hm
                        omega
                    rw [if_neg hout]
                    exact e4 i2 e' j2 q a1 a2)
                exact ⟨_, m, p1, p2, _, ex hr, .int _ _⟩
          · cases h
        · cases h
      · cases h
    · cases h
  · rename_i h' ver i0 len yv hx hy
    have hxv := ev_sound fr hx
    have hyv := ev_sound fr hy
    generalize hex : a.eval x = u at hxv ex
    generalize hey : a.eval y = q at hyv ex
    split at h
    · rename_i els hsrc
      obtain ⟨bd, cap, rfl, hu, hlc, hnone, hcells⟩ := asrc_sound st hyv hsrc
      split at h
      · rename_i o' ho'
        split at h
        · rename_i hc
          obtain ⟨c1, c2⟩ := hc
          cases h
          cases hxv with
          | own _ _ _ _ ad n0 cap0 hlt hh =>
            obtain ⟨hv1, hv2⟩ := hh o' ho'
            obtain ⟨b, q1, q2, q3, q4, q5, q6, q7⟩ := hv2 c1
            subst q3
            obtain ⟨g1, g2, o2, cs, e1, e2, e3, e4⟩ := st.dom h' b q1
            rw [ho'] at e1; cases e1
            have hmin : Nat.min els.length n0 = min els.length n0 := rfl
            by_cases hz : Nat.min els.length n0 = 0
            · rw [hz]
              simp only [List.take_zero, List.append_nil, Nat.add_zero, List.take_append_drop]
              rw [show ({ o' with elems := o'.elems } : AObj) = o' from rfl, obj_set_self ho']
              exact ⟨w, m, st, Adv.refl _ _ _, _, ex (run_copy_zero w t o.type e ad bd n0 cap0 els.length cap ht hi hz), .int _ _⟩
            · generalize hk : Nat.min els.length n0 = k at hz
              have hk1 : k ≤ els.length := by omega
              have hk2 : k ≤ n0 := by omega
              have hne : els ≠ [] := fun e => by subst e; simp at hk1; omega
              obtain ⟨xa, news, rfl, n1, n2, n3, n4⟩ := src_values hu hcells hne
              have had := q2 (.inl (by omega))
              subst had
              have hfit0 := block_fits e3 e4
              have hks : k * i.size ≤ els.length * i.size := Nat.mul_le_mul_right _ hk1
              have hcl : (news.take (k * i.size)).length = k * i.size := by simp; omega
              have hb1 : (i0 + k) * o'.s ≤ o'.elems.length * o'.s := Nat.mul_le_mul_right _ (by omega)
              have hfit : i0 * o'.s + (news.take (k * i.size)).length ≤ cs.size := by
                rw [hcl, c2, ← Nat.add_mul]; omega
              have hr := run_copy_cells (P := P) w t o.type e b (i0 * o'.s) n0 cap0 xa els.length cap cs o'.e (news.take (k * i.size)) ht hi e2 (by rw [hcl, hk]) (fun j v hj => by
                rw [List.getElem?_take] at hj
                split at hj
                · exact n2 j v hj
                · cases hj) hfit (fun v hv => n3 v (List.mem_of_mem_take hv))
              rw [hk] at hr
              have hnl : (o'.elems.take i0 ++ els.take k ++ o'.elems.drop (i0 + k)).length = o'.elems.length := by simp; omega
              have hu' : ∀ e', e' ∈ o'.elems.take i0 ++ els.take k ++ o'.elems.drop (i0 + k) → e'.length = o'.s := by
                intro e' he'
                rcases List.mem_append.1 he' with he' | he'
                · rcases List.mem_append.1 he' with he' | he'
                  · exact e3 e' (List.mem_of_mem_take he')
                  · rw [← c2]; exact hu e' (List.mem_of_mem_take he')
                · exact e3 e' (List.mem_of_mem_drop he')
              obtain ⟨p1, p2⟩ := st.upd ho' q1 (o' := { o' with elems := o'.elems.take i0 ++ els.take k ++ o'.elems.drop (i0 + k) }) rfl rfl (by rw [hnl]; exact Nat.le_refl _) (w' := w.setRow b (cs.toList.take (i0 * o'.s) ++ news.take (k * i.size) ++ cs.toList.drop (i0 * o'.s + (news.take (k * i.size)).length)).toArray) rfl rfl rfl (by simp) (fun k hk => setRow_other w b k _ hk) e2 (setRow_heap w b cs _ o'.e _ e2) (splice_size cs _ _ hfit) hu' (fun i2 e' j2 q a1 a2 => by
                have hj2 : j2 < o'.s := by
                  have := hu' e' (List.mem_of_getElem? a1)
                  have := (List.getElem?_eq_some_iff.1 a2).1
                  omega
                simp only
                rw [splice_get cs _ _ _ hfit, hcl]
                have hlt0 : (o'.elems.take i0).length = i0 := by simp; omega
                have hlt1 : (o'.elems.take i0 ++ els.take k).length = i0 + k := by simp; omega
                rcases Nat.lt_or_ge i2 i0 with hA | hA
                · have hm := Nat.mul_le_mul_right o'.s hA
                  rw [Nat.succ_mul] at hm
                  rw [if_neg (by omega)]
                  rw [List.getElem?_append_left (by omega), List.getElem?_append_left (by omega), List.getElem?_take_of_lt hA] at a1
                  exact e4 i2 e' j2 q a1 a2
                · rcases Nat.lt_or_ge i2 (i0 + k) with hB | hB
                  · rw [List.getElem?_append_left (by omega), List.getElem?_append_right (by omega), hlt0, List.getElem?_take_of_lt (by omega)] at a1
                    have hm := Nat.mul_le_mul_right o'.s hA
                    have hm2 := Nat.mul_le_mul_right o'.s hB
                    rw [Nat.succ_mul, Nat.add_mul] at hm2
                    rw [if_pos (by rw [c2]; omega)]
                    obtain ⟨v, b1, b2, b3⟩ := FC.nested hu n4 (i2 - i0) e' j2 q a1 a2
                    refine ⟨v, ?_, b2, b3⟩
                    have hsub : i2 * o'.s + j2 - i0 * o'.s = (i2 - i0) * i.size + j2 := by
                      rw [c2, Nat.sub_mul]; omega
                    rw [hsub, List.getElem?_take_of_lt]
                    · exact b1
                    · rw [← hsub, c2]; omega
                  · have hm2 := Nat.mul_le_mul_right o'.s hB
                    rw [Nat.add_mul] at hm2
                    rw [if_neg (by rw [c2]; omega)]
                    rw [List.getElem?_append_right (by omega), hlt1, List.getElem?_drop, show i0 + k + (i2 - (i0 + k)) = i2 by omega] at a1
                    exact e4 i2 e' j2 q a1 a2)
              exact ⟨_, m, p1, p2, _, ex hr, .int _ _⟩
        · cases h
      · cases h
    · cases h
  · cases h
theorem clear_ok {t e : TypeId} {x : Operand} {i : TypeInfo} {z : Value} {y : AV} (ht : P.underlying t = some (.slice e)) (hi : P.info? e = some i) (hz : i.zero = some z) (hcz : cst z = some y) (h1 : y.cells.all AV.one = true) (hyl : y.cells.length = i.size) (hzs : z.cells.size = i.size) (hs : 0 < i.size)
    (ho : o.op = .call { callee := .builtin .clear, args := #[x], argTypes := #[t] }) (st : St w m H B) (fr : FR n w m H B env a) {r : Option AV × AHeap} (h : sstep (.clear i.size y.cells x) env H = some r) : SOK P o a w m H B r := by
  have ex : ∀ {v : Value} {w' : World}, (Builtin.clear_ #[t] o.type #[a.eval x]).run P w = .ok v w' → (execOp a.eval o).run P w = .ok (.value v) w' := by
    intro v w' hr
    simp [execOp, ho, resolve, invoke, builtin, hr]
  have tup : ∀ {w' : World} {m' : AMap} {H' : AHeap}, RV w' m' H' B (.tuple []) (.tuple #[]) := .tuple [] #[] rfl (by simp)
  have zero : ∀ (ad : Option Addr) (c : Nat), (Builtin.clear_ #[t] o.type #[.slice ad 0 c]).run P w = .ok (.tuple #[]) w := by
    intro ad c
    cases ad <;> simp [Builtin.clear_, run_underlying ht]
  simp only [sstep] at h
  split at h
  · rename_i h' ver i0 len hx
    have hxv := ev_sound fr hx
    generalize hex : a.eval x = u at hxv ex
    split at h
    · rename_i o' ho'
      split at h
      · rename_i hc
        obtain ⟨c1, c2, c3⟩ := hc
        cases h
        cases hxv with
        | own _ _ _ _ ad n0 cap0 hlt hh =>
          obtain ⟨hv1, hv2⟩ := hh o' ho'
          obtain ⟨b, q1, q2, q3, q4, q5, q6, q7⟩ := hv2 c1
          subst q3
          obtain ⟨g1, g2, o2, cs, e1, e2, e3, e4⟩ := st.dom h' b q1
          rw [ho'] at e1; cases e1
          rcases Nat.eq_zero_or_pos n0 with hz0 | hz0
          · subst hz0
            simp only [List.replicate_zero, List.append_nil, Nat.add_zero, List.take_append_drop]
            rw [show ({ o' with elems := o'.elems } : AObj) = o' from rfl, obj_set_self ho']
            exact ⟨w, m, st, Adv.refl _ _ _, _, ex (zero ad cap0), tup⟩
          · have had := q2 (.inl (by omega))
            subst had
            have hfit0 := block_fits e3 e4
            have hrl := RL_zeros (zero_RL (w := w) (m := m) (H := H) (B := B) hcz h1) hyl hs n0
            have hzl : (Builtin.zeroCells z.cells n0).toList.length = n0 * i.size := by simp [Builtin.zeroCells, hzs]
            have hurep : ∀ e', e' ∈ List.replicate n0 y.cells → e'.length = i.size := fun e' he' => by rw [List.eq_of_mem_replicate he']; exact hyl
            have hcells := arr_cells hurep hrl
            have ones : ∀ v ∈ (Builtin.zeroCells z.cells n0).toList, v.oneCell' = true := by
              intro v hv
              obtain ⟨k, hk⟩ := List.mem_iff_getElem?.1 hv
              have hkl := (List.getElem?_eq_some_iff.1 hk).1
              rw [hzl] at hkl
              have hfl : ((List.replicate n0 y.cells).flatten).length = n0 * i.size := by rw [flatten_length (s := i.size) _ hurep]; simp
              have hfg : ((List.replicate n0 y.cells).flatten)[k]? = some (((List.replicate n0 y.cells).flatten)[k]'(by omega)) := List.getElem?_eq_getElem _
              obtain ⟨i2, e', j2, a1, a2, a3⟩ := flatten_get_inv _ hurep k _ hfg
              obtain ⟨v', b1, b2, b3⟩ := hcells i2 e' j2 _ a1 a2
              rw [← a3] at b1
              have hk' : ((Array.range (n0 * i.size)).map fun i => z.cells[i % z.cells.size]!)[k]? = some v := by
                rw [Array.getElem?_toList] at hk
                rw [← hk]; simp only [Builtin.zeroCells, hzs]
              rw [hk'] at b1
              cases b1
              rw [b2.one_eq]; exact b3
            have hb1 : (i0 + n0) * o'.s ≤ o'.elems.length * o'.s := Nat.mul_le_mul_right _ (by omega)
            have hfit : i0 * o'.s + (Builtin.zeroCells z.cells n0).toList.length ≤ cs.size := by
              rw [hzl, c2, ← Nat.add_mul]; omega
            have hst := run_storeCells_at P b (i0 * o'.s) o'.e (Builtin.zeroCells z.cells n0).toList 0 cs w e2 (by simpa using hfit) ones
            simp only [Nat.add_zero] at hst
            have hr : (Builtin.clear_ #[t] o.type #[.slice (some ⟨b, i0 * o'.s, none⟩) n0 cap0]).run P w = .ok (.tuple #[]) (w.setRow b (cs.toList.take (i0 * o'.s) ++ (Builtin.zeroCells z.cells n0).toList ++ cs.toList.drop (i0 * o'.s + (Builtin.zeroCells z.cells n0).toList.length)).toArray) := by
              obtain ⟨n1, rfl⟩ : ∃ n1, n0 = n1 + 1 := ⟨n0 - 1, by omega⟩
              have hzv : (zeroValue e).run P w = .ok z w := by simp [zeroValue, typeInfo, hi, hz]
              simp only [Builtin.clear_, List.getElem?_toArray, List.getElem?_cons_zero, Sem.run_bind, run_underlying ht, Result.andThen_ok, hzv, hst, Sem.run_pure]
            have hnl : (o'.elems.take i0 ++ List.replicate n0 y.cells ++ o'.elems.drop (i0 + n0)).length = o'.elems.length := by simp; omega
            have hu' : ∀ e', e' ∈ o'.elems.take i0 ++ List.replicate n0 y.cells ++ o'.elems.drop (i0 + n0) → e'.length = o'.s := by
              intro e' he'
              rcases List.mem_append.1 he' with he' | he'
              · rcases List.mem_append.1 he' with he' | he'
                · exact e3 e' (List.mem_of_mem_take he')
                · rw [← c2]; exact hurep e' he'
              · exact e3 e' (List.mem_of_mem_drop he')
            obtain ⟨p1, p2⟩ := st.upd ho' q1 (o' := { o' with elems := o'.elems.take i0 ++ List.replicate n0 y.cells ++ o'.elems.drop (i0 + n0) }) rfl rfl (by rw [hnl]; exact Nat.le_refl _) (w' := w.setRow b (cs.toList.take (i0 * o'.s) ++ (Builtin.zeroCells z.cells n0).toList ++ cs.toList.drop (i0 * o'.s + (Builtin.zeroCells z.cells n0).toList.length)).toArray) rfl rfl rfl (by simp) (fun k hk => setRow_other w b k _ hk) e2 (setRow_heap w b cs _ o'.e _ e2) (splice_size cs _ _ hfit) hu' (fun i2 e' j2 q a1 a2 => by
              have hj2 : j2 < o'.s := by
                have := hu' e' (List.mem_of_getElem? a1)
                have := (List.getElem?_eq_some_iff.1 a2).1
                omega
              simp only
              rw [splice_get cs _ _ _ hfit, hzl]
              have hlt0 : (o'.elems.take i0).length = i0 := by simp; omega
              have hlt1 : (o'.elems.take i0 ++ List.replicate n0 y.cells).length = i0 + n0 := by simp; omega
              rcases Nat.lt_or_ge i2 i0 with hA | hA
              · have hm := Nat.mul_le_mul_right o'.s hA
                rw [Nat.succ_mul] at hm
                rw [if_neg (by omega)]
                rw [List.getElem?_append_left (by omega), List.getElem?_append_left (by omega), List.getElem?_take_of_lt hA] at a1
                exact e4 i2 e' j2 q a1 a2
              · rcases Nat.lt_or_ge i2 (i0 + n0) with hB | hB
                · rw [List.getElem?_append_left (by omega), List.getElem?_append_right (by omega), hlt0] at a1
                  have hm := Nat.mul_le_mul_right o'.s hA
                  have hm2 := Nat.mul_le_mul_right o'.s hB
                  rw [Nat.succ_mul, Nat.add_mul] at hm2
                  rw [if_pos (by rw [c2]; omega)]
                  obtain ⟨v, b1, b2, b3⟩ := hcells (i2 - i0) e' j2 q a1 a2
                  refine ⟨v, ?_, b2, b3⟩
                  have hsub : i2 * o'.s + j2 - i0 * o'.s = (i2 - i0) * i.size + j2 := by
                    rw [c2, Nat.sub_mul]; omega
                  rw [hsub, Array.getElem?_toList, ← b1]
                  simp only [Builtin.zeroCells, hzs]
                · have hm2 := Nat.mul_le_mul_right o'.s hB
                  rw [Nat.add_mul] at hm2
                  rw [if_neg (by rw [c2]; omega)]
                  rw [List.getElem?_append_right (by omega), hlt1, List.getElem?_drop, show i0 + n0 + (i2 - (i0 + n0)) = i2 by omega] at a1
                  exact e4 i2 e' j2 q a1 a2)
            exact ⟨_, m, p1, p2, _, ex hr, tup⟩
      · cases h
    · cases h
  · rename_i hx
    have hxv := ev_sound fr hx
    generalize hex : a.eval x = u at hxv ex
    cases h
    cases hxv with
    | nilSlice ad => exact ⟨w, m, st, Adv.refl _ _ _, _, ex (zero ad 0), tup⟩
  · cases h
theorem trOp_clear {s : Nat} {z : List AV} {x : Operand} (h : trOp P o = some (.clear s z x)) : ∃ t e i zv y, o.op = .call { callee := .builtin .clear, args := #[x], argTypes := #[t] } ∧ P.underlying t = some (.slice e) ∧ P.info? e = some i ∧ i.zero = some zv ∧ cst zv = some y ∧ (y.cells.all AV.one = true ∧ y.cells.length = i.size ∧ zv.cells.size = i.size ∧ 0 < i.size) ∧ s = i.size ∧ z = y.cells := by
  unfold trOp at h
  repeat' (split at h)
  all_goals (first | (cases h; done) | skip)
  cases h
  have hargs : ∀ {as : Array Operand}, as.toList = [x] → as = #[x] := by intro as h; cases as; simp_all
  have htys : ∀ {ts : Array TypeId} {p : TypeId}, ts.toList = [p] → ts = #[p] := by intro ts p h; cases ts; simp_all
  rename_i hts ho hop _ ht hu _ hi hinf _ hz hzz _ hy hc hcond has
  refine ⟨_, _, _, _, _, ?_, hu, hinf, hzz, hc, hcond, rfl, rfl⟩
  rw [hop, hargs has, htys ho]
theorem trOp_copy {s : Nat} {x y : Operand} (h : trOp P o = some (.copy s x y)) : ∃ t e i, o.op = .call { callee := .builtin .copy, args := #[x, y], argTypes := #[t, t] } ∧ P.underlying t = some (.slice e) ∧ P.info? e = some i ∧ s = i.size := by
  unfold trOp at h
  repeat' (split at h)
  all_goals (first | (cases h; done) | skip)
  cases h
  have hargs : ∀ {as : Array Operand}, as.toList = [x, y] → as = #[x, y] := by intro as h; cases as; simp_all
  have htys : ∀ {ts : Array TypeId} {p : TypeId}, ts.toList = [p, p] → ts = #[p, p] := by intro ts p h; cases ts; simp_all
  rename_i hts ho htu _ _ _ _ _ hi has
  subst htu
  refine ⟨_, _, _, ?_, ‹_›, hi, rfl⟩
  rw [ho, hargs has, htys hts]
theorem trOp_store {s : Nat} {g : Bool} {x v : Operand} (h : trOp P o = some (.store s g x v)) : ∃ t i d, o.op = .store t x v ∧ P.info? t = some i ∧ P.underlying t = some d ∧ s = i.size ∧ g = isAggD d := by
  unfold trOp at h
  repeat' (split at h)
  all_goals (first | (cases h; done) | skip)
  cases h
  exact ⟨_, _, _, ‹_›, ‹_›, ‹_›, rfl, rfl⟩
theorem trOp_append {e s bytes : Nat} {x y : Operand} (h : trOp P o = some (.append e s bytes x y)) : ∃ t i z, o.op = .call { callee := .builtin .append, args := #[x, y], argTypes := #[t, t] } ∧ P.underlying t = some (.slice e) ∧ P.info? e = some i ∧ i.zero = some z ∧ z.cells.size = i.size ∧ s = i.size ∧ bytes = i.bytes := by
  unfold trOp at h
  repeat' (split at h)
  all_goals (first | (cases h; done) | skip)
  cases h
  have hargs : ∀ {as : Array Operand}, as.toList = [x, y] → as = #[x, y] := by intro as h; cases as; simp_all
  have htys : ∀ {ts : Array TypeId} {p : TypeId}, ts.toList = [p, p] → ts = #[p, p] := by intro ts p h; cases ts; simp_all
  rename_i hl hr htu _ _ _ _ _ _ hc _ _ ha
  subst htu
  refine ⟨_, _, _, ?_, ‹_›, ‹_›, ‹_›, hc.1, rfl, rfl⟩
  rw [hr, hargs ha, htys hl]
theorem sstep_sound (htr : trOp P o = some io) (st : St w m H B) (fr : FR n w m H B env a) {r : Option AV × AHeap} (h : sstep io env H = some r) : SOK P o a w m H B r := by
  have quiet : (match qstep io env H with | some q => some (sres q H) | none => none) = some r → SOK P o a w m H B r := by
    intro h
    split at h
    · rename_i q hq
      cases h
      exact quiet_ok htr st fr hq
    · cases h
  cases io with
  | store s g x v =>
    obtain ⟨t, i, d, ho, hi, hd, rfl, rfl⟩ := trOp_store htr
    exact store_ok hi ho st fr h
  | append e s b x y =>
    obtain ⟨t, i, z, ho, ht, hi, hz, hzs, rfl, rfl⟩ := trOp_append htr
    exact append_ok ht hi hz hzs ho st fr h
  | copy s x y =>
    obtain ⟨t, e, i, ho, ht, hi, rfl⟩ := trOp_copy htr
    exact copy_ok ht hi ho st fr h
  | clear s z x =>
    obtain ⟨t, e, i, zv, y, ho, ht, hi, hz, hy, ⟨c1, c2, c3, c4⟩, rfl, rfl⟩ := trOp_clear htr
    exact clear_ok ht hi hz hy c1 c2 c3 c4 ho st fr h
  | _ => exact quiet h
end
end Go.Awp
/- Calls; lists of operations in the text's order. Generic in the program. -/
namespace Go.Awp
set_option linter.unusedSectionVars false
variable [Fx]
open Go.RowKit (Below)
def callable (P : Program) (f : FuncId) : Bool :=
  match P.funcs[f]? with
  | some fn => !(fn.name == "runtime.NumGoroutine") && fn.body.isSome
  | none => false
/-- Arguments as they are known, and as they are. -/
def Args (w : World) (m : AMap) (H : AHeap) (B : Nat) (xs : List AV) (vs : Array Value) : Prop :=
  xs.length = vs.size ∧ ∀ (i : Nat) (x : AV) (v : Value), xs[i]? = some x → vs[i]? = some v → RV w m H B x v
/-- A call in the midst of objects of the activation's own. -/
def ACall (P : Program) (f : FuncId) (xs : List AV) (H : AHeap) (R : AV → AHeap → Prop) : Prop :=
  callable P f = true ∧ ∀ (w : World) (m : AMap) (B : Nat) (vs : Array Value), St w m H B → Args w m H B xs vs →
    Calls P f vs w fun e w' => ∃ v x m' H', e = .returned v ∧ R x H' ∧ St w' m' H' B ∧ Adv w m H w' m' H' ∧ RV w' m' H' B x v
theorem ACall.mono {P f xs H} {R R' : AV → AHeap → Prop} (h : ACall P f xs H R) (hr : ∀ x H', R x H' → R' x H') : ACall P f xs H R' :=
  ⟨h.1, fun w m B vs st ha => (h.2 w m B vs st ha).mono fun _ _ ⟨v, x, m', H', a, b, c⟩ => ⟨v, x, m', H', a, hr _ _ b, c⟩⟩
/-- A call whose arguments and results are plain data. -/
def PCall (P : Program) (f : FuncId) (xs : List AV) (r : AV) : Prop :=
  callable P f = true ∧ ∀ (w : World) (vs : Array Value), Fx.Ok w w.heap.size → Args w (fun _ => none) [] w.heap.size xs vs →
    Calls P f vs w fun e w' => ∃ v, e = .returned v ∧ Below w.heap.size w w' ∧ ∀ (m : AMap) (H : AHeap) (B : Nat), B ≤ w.heap.size → (∀ h b, m h = some b → b < w.heap.size) → RV w' m H B r v
/-- Values that say nothing of any world. -/
def AV.simple : AV → Bool
  | .bool _ | .int _ _ | .str _ => true
  | _ => false
theorem RV.simple {w w' m m' H H' B B'} {x : AV} {v : Value} (h : RV w m H B x v) (hs : x.simple = true) : RV w' m' H' B' x v := by
  cases h <;> first | (cases hs; done) | constructor
theorem AV.simple_one {x : AV} (hs : x.simple = true) : x.one = true := by
  cases x <;> first | rfl | cases hs
/-- A call on plain data that hands back a new slice, of simple values. -/
def NCall (P : Program) (f : FuncId) (xs : List AV) (e : TypeId) (sz : Nat) (els : List (List AV)) : Prop :=
  callable P f = true ∧ (∀ el, el ∈ els → el.length = sz ∧ ∀ x, x ∈ el → x.simple = true) ∧ ∀ (w : World) (vs : Array Value), Fx.Ok w w.heap.size → Args w (fun _ => none) [] w.heap.size xs vs →
    Calls P f vs w fun en w' => ∃ b cap us, en = .returned (.slice (some ⟨b, 0, none⟩) els.length cap) ∧ Below w.heap.size w w' ∧ w.heap.size ≤ b ∧ b < w'.heap.size ∧ w'.heap[b]? = some (.cells us e (0, 0)) ∧ els.length ≤ cap ∧ cap ≤ maxLen ∧ us.size = cap * sz ∧
      ∀ (i : Nat) (el : List AV) (j : Nat) (x : AV), els[i]? = some el → el[j]? = some x → ∃ v, us[i * sz + j]? = some v ∧ RV w' (fun _ => none) [] 0 x v
/-- A value, as plain data: as what a call is handed. -/
def Frz (H : AHeap) (x x' : AV) : Prop := ∀ (w : World) (m : AMap) (B : Nat) (v : Value), St w m H B → RV w m H B x v → RV w (fun _ => none) [] w.heap.size x' v
inductive FrzL (H : AHeap) : List AV → List AV → Prop
  | nil : FrzL H [] []
  | cons {x x' : AV} {l l' : List AV} (h : Frz H x x') (t : FrzL H l l') : FrzL H (x :: l) (x' :: l')
theorem FrzL.list {H : AHeap} {xs ys : List AV} (h : FrzL H xs ys) {w m B} (st : St w m H B) : ∀ (l : List Value), xs.length = l.length → (∀ (i : Nat) (x : AV) (v : Value), xs[i]? = some x → l[i]? = some v → RV w m H B x v) → ys.length = l.length ∧ ∀ (i : Nat) (x : AV) (v : Value), ys[i]? = some x → l[i]? = some v → RV w (fun _ => none) [] w.heap.size x v := by
  induction h with
  | nil => intro l hl _; exact ⟨hl, by simp⟩
  | cons hx _ ih =>
    intro l hl hr
    cases l with
    | nil => simp at hl
    | cons v l =>
      obtain ⟨q1, q2⟩ := ih l (by simpa using hl) (fun i x v a b => hr (i + 1) x v (by simpa using a) (by simpa using b))
      refine ⟨by simp [q1], fun i x v' a b => ?_⟩
      cases i with
      | zero => simp at a b; subst a; subst b; exact hx w m B _ st (hr 0 _ _ rfl rfl)
      | succ i => exact q2 i x v' (by simpa using a) (by simpa using b)
theorem FrzL.args {H : AHeap} {xs ys : List AV} (h : FrzL H xs ys) {w m B} {vs : Array Value} (st : St w m H B) (ha : Args w m H B xs vs) : Args w (fun _ => none) [] w.heap.size ys vs := by
  obtain ⟨q1, q2⟩ := h.list st vs.toList (by simpa using ha.1) (fun i x v a b => ha.2 i x v a (by simpa using b))
  exact ⟨by simpa using q1, fun i x v a b => q2 i x v a (by simpa using b)⟩
theorem below_adv {w w' : World} {m : AMap} {H : AHeap} {B : Nat} (st : St w m H B) (h : Below w.heap.size w w') : St w' m H B ∧ Adv w m H w' m H := by
  have ad : Adv w m H w' m H := ⟨h.os, h.tape, h.output, h.size, fun b hb _ => h.block b hb, fun _ _ e => .inl e, Nat.le_refl _, fun k o' _ e => ⟨o', e, rfl, rfl, Nat.le_refl _, fun _ b hb => ⟨hb, by simp only [World.shape?, h.block b (st.dom k b hb).2.1]⟩⟩⟩
  refine ⟨⟨Nat.le_trans st.base h.size, fun k b e => ?_, st.inj, st.fxa ad⟩, ad⟩
  obtain ⟨h1, h2, o1, cs, e1, e2, e3, e4⟩ := st.dom k b e
  refine ⟨h1, Nat.lt_of_lt_of_le h2 h.size, o1, cs, e1, by rw [h.block b h2]; exact e2, e3, fun i el j x a1 a2 => ?_⟩
  obtain ⟨v, q1, q2, q3⟩ := e4 i el j x a1 a2
  exact ⟨v, q1, q2.mono ad, q3⟩
theorem adopt_call {w w' : World} {m : AMap} {H : AHeap} {B : Nat} (st : St w m H B) (hb : Below w.heap.size w w') {h : Nat} {o : AObj} (ho : AHeap.obj H h = some o) (hm : m h = none) {b : Nat} {us : Array Value} (h1 : w.heap.size ≤ b) (h2 : b < w'.heap.size)
    (h3 : w'.heap[b]? = some (.cells us o.e (0, 0))) (hu : ∀ e, e ∈ o.elems → e.length = o.s ∧ ∀ x, x ∈ e → x.simple = true)
    (hc : ∀ (i : Nat) (e : List AV) (j : Nat) (x : AV), o.elems[i]? = some e → e[j]? = some x → ∃ v, us[i * o.s + j]? = some v ∧ RV w' (fun _ => none) [] 0 x v) : St w' (AMap.upd m h b) H B ∧ Adv w m H w' (AMap.upd m h b) H := by
  have ad : Adv w m H w' (AMap.upd m h b) H := by
    refine ⟨hb.os, hb.tape, hb.output, hb.size, fun k hk _ => hb.block k hk, fun k b' e => ?_, Nat.le_refl _, fun k o1 hk e => ⟨o1, e, rfl, rfl, Nat.le_refl _, fun _ b' hb' => ?_⟩⟩
    · unfold AMap.upd at e
      split at e
      · cases e; exact .inr h1
      · exact .inl e
    · have hkh : k ≠ h := by intro e; subst e; rw [hm] at hb'; cases hb'
      refine ⟨by simp [AMap.upd, hkh, hb'], ?_⟩
      simp only [World.shape?, hb.block b' (st.dom k b' hb').2.1]
  refine ⟨⟨Nat.le_trans st.base hb.size, fun k b' e => ?_, fun k k' b' e e' => ?_, st.fxa ad⟩, ad⟩
  · unfold AMap.upd at e
    split at e
    · rename_i hkh
      cases e; subst hkh
      refine ⟨Nat.le_trans st.base h1, h2, o, us, ho, h3, fun e he => (hu e he).1, fun i el j x a1 a2 => ?_⟩
      obtain ⟨v, q1, q2⟩ := hc i el j x a1 a2
      have hs := (hu el (List.mem_of_getElem? a1)).2 x (List.mem_of_getElem? a2)
      exact ⟨v, q1, q2.simple hs, AV.simple_one hs⟩
    · obtain ⟨g1, g2, o1, cs, e1, e2, e3, e4⟩ := st.dom k b' e
      refine ⟨g1, Nat.lt_of_lt_of_le g2 hb.size, o1, cs, e1, by rw [hb.block b' g2]; exact e2, e3, fun i el j x a1 a2 => ?_⟩
      obtain ⟨v, q1, q2, q3⟩ := e4 i el j x a1 a2
      exact ⟨v, q1, q2.mono ad, q3⟩
  · unfold AMap.upd at e e'
    split at e <;> split at e'
    · rename_i a b; rw [a, b]
    · cases e
      have := (st.dom k' _ e').2.1; omega
    · cases e'
      have := (st.dom k _ e).2.1; omega
    · exact st.inj k k' b' e e'
theorem adopt_own {w' : World} {m : AMap} {H : AHeap} {B : Nat} {h e sz : Nat} {els : List (List AV)} (ho : AHeap.obj H h = some ⟨e, sz, els⟩) {b cap : Nat} {us : Array Value} (h3 : w'.heap[b]? = some (.cells us e (0, 0))) (h4 : els.length ≤ cap) (h5 : cap ≤ maxLen) (h6 : us.size = cap * sz) :
    RV w' (AMap.upd m h b) H B (.own h els.length 0 els.length) (.slice (some ⟨b, 0, none⟩) els.length cap) := by
  refine .own _ _ _ _ _ _ _ (AHeap.obj_lt ho) fun o' ho' => ?_
  rw [ho] at ho'; cases ho'
  refine ⟨Nat.le_refl _, fun _ => ⟨b, by simp [AMap.upd], fun _ => by simp, rfl, by simp, h4, h5, ?_⟩⟩
  simp [World.shape?, h3, h6]
/-- The same in the midst of objects. -/
theorem NCall.lift {P f xs ys e sz els H} (h : NCall P f ys e sz els) (hf : FrzL H xs ys) : ACall P f xs H fun x H' => x = .own H.length els.length 0 els.length ∧ H' = H ++ [some ⟨e, sz, els⟩] := by
  refine ⟨h.1, fun w m B vs st ha => ?_⟩
  refine (h.2.2 w vs (st.fx.keep st.base fun _ _ => rfl) (hf.args st ha)).mono fun en w' ⟨b, cap, us, he, hb, h1, h2, h3, h4, h5, h6, hc⟩ => ?_
  obtain ⟨p1, p2⟩ := st.push [some ⟨e, sz, els⟩]
  have hm : m H.length = none := by
    cases hm : m H.length with
    | none => rfl
    | some b => exact absurd (st.mlt hm) (Nat.lt_irrefl _)
  have ho : AHeap.obj (H ++ [some ⟨e, sz, els⟩]) H.length = some ⟨e, sz, els⟩ := AHeap.obj_push_eq
  obtain ⟨q1, q2⟩ := adopt_call p1 hb ho hm h1 h2 h3 h.2.1 hc
  exact ⟨_, _, _, _, he, ⟨rfl, rfl⟩, q1, p2.trans q2, adopt_own ho h3 h4 h5 h6⟩
/-- A call of plain data, whatever objects there are. -/
theorem PCall.lift {P f xs ys r H} (h : PCall P f ys r) (hf : FrzL H xs ys) : ACall P f xs H fun x H' => x = r ∧ H' = H := by
  refine ⟨h.1, fun w m B vs st ha => ?_⟩
  refine (h.2 w vs (st.fx.keep st.base fun _ _ => rfl) (hf.args st ha)).mono fun e w' ⟨v, he, hb, hr⟩ => ?_
  obtain ⟨p, q⟩ := below_adv st hb
  exact ⟨v, r, m, H, he, ⟨rfl, rfl⟩, p, q, hr m H B st.base (fun k b e => (st.dom k b e).2.1)⟩
structure IStmt where
  dst : Option Nat
  op : IOp
  guard : Option (Nat × Bool)
  uses : List Nat
  late : Bool
def envput (d : Option Nat) (x : AV) (env : AEnv) : AEnv :=
  match d with
  | some d => (d, x) :: env
  | none => env
/-- The method of a type, where the interface's value is handed over as it is. -/
def amethod (P : Program) (t : TypeId) (name : String) : Option FuncId :=
  match P.info? t with
  | some i => (match i.methods.find? (·.name == name) with
    | some m => if m.path.isEmpty then (match m.func, P.underlying t with
      | some (f, true), some (.pointer _) => some f
      | some (_, false), some (.pointer _) => none
      | some (f, false), some _ => some f
      | _, _ => none) else none
    | none => none)
  | none => none
def acall (P : Program) (io : IOp) (env : AEnv) (H : AHeap) (K : AV → AHeap → Prop) : Prop :=
  match io with
  | .call f args => match evs env args with
    | some vs => ACall P f vs H K
    | none => False
  | .callv x args => match ev env x, evs env args with
    | some (.func (.func f) first caps), some vs => ACall P f (first ++ vs ++ caps) H K
    | _, _ => False
  | .isnil neg x => match ev env x with
    | some v => (match alen H v with
      | some (.int _ n) => if 0 < n then K (.bool neg) H else ∀ b, K (.bool b) H
      | _ => False)
    | none => False
  | .mknil => K .nilSlice H
  | .invoke x name args => match ev env x, evs env args with
    | some (.iface t v), some vs => (match amethod P t name with
      | some f => ACall P f (v :: vs) H K
      | none => False)
    | _, _ => False
  | io => match sstep io env H with
    | some (some x, H') => K x H'
    | some (none, H') => K (.tuple []) H'
    | none => False
def awpOps (P : Program) : List IStmt → (AEnv → AHeap → Prop) → AEnv → AHeap → Prop
  | [], K, env, H => K env H
  | s :: rest, K, env, H => match s.guard with
    | none => acall P s.op env H fun x H' => awpOps P rest K (envput s.dst x env) H'
    | some (g, want) => match AEnv.get env g with
      | some (.bool c) => (c = want → acall P s.op ((g, .bool want) :: env) H fun x H' => awpOps P rest K (envput s.dst x ((g, .bool want) :: env)) H') ∧
          (c = !want → awpOps P rest K (envput s.dst (.tuple []) ((g, .bool (!want)) :: env)) H)
      | some (.tuple []) => awpOps P rest K (envput s.dst (.tuple []) env) H
      | _ => False
/-- The translation of an operation with its target and its guard. -/
def usesOf (u : Bool) (o : Oper) : List Nat :=
  if u then o.op.operands.toList.filterMap fun | .tmp t => some t | _ => none else []
def lateOf (u : Option (List Nat)) (d : Option Nat) : Bool :=
  match u, d with
  | some lt, some d => lt.contains d
  | _, _ => false
def trStmt (P : Program) (n : Nat) (u : Option (List Nat)) (ops : List Oper) (o : Oper) : Option IStmt :=
  match trOp P o, (match o.dst with | some d => decide (d < n) | none => true) with
  | some io, true => (match o.guard with
    | none => some ⟨o.dst, io, none, usesOf u.isSome o, lateOf u o.dst⟩
    | some (j, want) => (match (ops[j]?).bind (·.dst) with
      | some g => some ⟨o.dst, io, some (g, want), usesOf u.isSome o, lateOf u o.dst⟩
      | none => none))
  | _, _ => none
def trStmts (P : Program) (n : Nat) (u : Option (List Nat)) (ops : List Oper) : List Oper → Option (List IStmt)
  | [] => some []
  | o :: l => match trStmt P n u ops o, trStmts P n u ops l with
    | some s, some r => some (s :: r)
    | _, _ => none
/-- What is known in the midst of a body: the objects' map is somewhere. -/
def Rel (n : Nat) (w0 : World) (m0 : AMap) (H0 : AHeap) (B : Nat) (env : AEnv) (H : AHeap) (a : Act) (w : World) : Prop :=
  ∃ m, FR n w m H B env a ∧ St w m H B ∧ Adv w0 m0 H0 w m H
end Go.Awp
/- Lists of operations: their truth in the model. Generic in the program. -/
namespace Go.Awp
set_option linter.unusedSectionVars false
variable [Fx]
open Go.RowKit (Below)
section
variable {P : Program} {o : Oper}
theorem trOp_call {f : FuncId} {args : List Operand} (h : trOp P o = some (.call f args)) : ∃ (as : Array Operand) (ts : Array TypeId), o.op = .call { callee := .value (.func f), args := as, argTypes := ts } ∧ as.toList = args := by
  unfold trOp at h
  repeat' (split at h)
  all_goals (first | (cases h; done) | skip)
  cases h
  exact ⟨_, _, ‹_›, rfl⟩
theorem trOp_callv {f : Operand} {args : List Operand} (h : trOp P o = some (.callv f args)) : ∃ (as : Array Operand) (ts : Array TypeId), o.op = .call { callee := .value f, args := as, argTypes := ts } ∧ as.toList = args := by
  unfold trOp at h
  repeat' (split at h)
  all_goals (first | (cases h; done) | skip)
  cases h
  exact ⟨_, _, ‹_›, rfl⟩
theorem run_callFunc_ok {f : FuncId} (hc : callable P f = true) (vs : Array Value) (w : World) : (callFunc f vs).run P w = .ok (.enter f vs) w := by
  unfold callable at hc
  split at hc
  · rename_i fn hfn
    simp at hc
    obtain ⟨h1, h2⟩ := hc
    have hb : fn.body.isNone = false := by cases hb : fn.body <;> simp_all
    simp only [callFunc, Sem.run_bind, run_program, Result.andThen_ok, hfn, hb]
    simp [h1]
  · cases hc
theorem trOp_mknil (h : trOp P o = some .mknil) : ∃ t e i, o.op = .buildSlice t 0 #[] ∧ P.underlying t = some (.slice e) ∧ P.info? e = some i := by
  unfold trOp at h
  repeat' (split at h)
  all_goals (first | (cases h; done) | skip)
  rename_i hp
  have hargs : ∀ {as : Array (Nat × Operand)}, as.toList = [] → as = #[] := by intro as h; cases as; simp_all
  refine ⟨_, _, _, ?_, ‹_›, ‹_›⟩
  rw [← hargs hp]; assumption
theorem run_equal_nil {t e : TypeId} (ht : P.underlying t = some (.slice e)) (d : Nat) (ad : Option Addr) (len cap : Nat) (w : World) : (Op.equalIn (d + 1) t (.slice ad len cap) (.slice none 0 0)).run P w = .ok ad.isNone w := by
  cases ad <;> simp only [Op.equalIn, Sem.run_bind, run_underlying ht, Result.andThen_ok, Sem.run_pure, Option.isNone_none, Option.isNone_some]
theorem trOp_isnil {neg : Bool} {x : Operand} (h : trOp P o = some (.isnil neg x)) : ∃ t e u, o.op = .binOp (if neg then .neq else .eql) t x (.const (.slice none 0 0)) u ∧ P.underlying t = some (.slice e) := by
  unfold trOp at h
  repeat' (split at h)
  all_goals (first | (cases h; done) | skip)
  all_goals (cases h; exact ⟨_, _, _, ‹_›, ‹_›⟩)
theorem alen_val {w m H B} {x : AV} {v : Value} (hx : RV w m H B x v) {k : IntKind} {n : Int} (h : alen H x = some (.int k n)) : ∃ (ad : Option Addr) (len cap : Nat), v = .slice ad len cap ∧ n = len ∧ (0 < n → ad ≠ none) := by
  cases hx with
  | own h' ver i len ad n' cap hh hv =>
    simp only [alen] at h
    split at h
    · rename_i o ho
      split at h
      · rename_i hver
        cases h
        obtain ⟨b, q1, q2, q3, q4, q5, _⟩ := (hv o ho).2 hver
        exact ⟨ad, n', cap, rfl, by rw [q3], fun h0 => by rw [q2 (.inl (by omega))]; simp⟩
      · cases h
    · cases h
  | sub h' ver i j s len ad n' cap hlt hv =>
    simp only [alen] at h
    split at h
    · rename_i o ho
      split at h
      · rename_i hver
        cases h
        obtain ⟨b, q1, q2, q3, q4⟩ := (hv o ho).2 hver
        exact ⟨_, n', cap, rfl, by rw [q3], fun _ => by simp⟩
      · cases h
    · cases h
  | roNil => cases h; exact ⟨_, _, _, rfl, rfl, fun h0 => by simp at h0⟩
  | ro => cases h; exact ⟨_, _, _, rfl, rfl, fun _ => by simp⟩
  | nilSlice => cases h; exact ⟨_, _, _, rfl, rfl, fun h0 => by omega⟩
  | _ => simp [alen] at h
theorem trOp_invoke {x : Operand} {name : String} {args : List Operand} (h : trOp P o = some (.invoke x name args)) : ∃ (as : Array Operand) (ts : Array TypeId), o.op = .call { callee := .invoke x name, args := as, argTypes := ts } ∧ as.toList = args := by
  unfold trOp at h
  repeat' (split at h)
  all_goals (first | (cases h; done) | skip)
  cases h
  exact ⟨_, _, ‹_›, rfl⟩
theorem amethod_run {t : TypeId} {name : String} {f : FuncId} (h : amethod P t name = some f) (k : Nat) (v : Value) (w : World) : (method (k + 1) t v name).run P w = .ok (f, v) w := by
  unfold amethod at h
  split at h
  · rename_i i hi
    split at h
    · rename_i m hm
      split at h
      · rename_i hp
        have hpl : m.path.toList = [] := by simpa using hp
        have hti : (typeInfo t).run P w = .ok i w := by simp [typeInfo, hi]
        split at h
        · rename_i f' e hf hu
          cases h
          simp only [method, Sem.run_bind, hti, Result.andThen_ok, hm, hpl, follow, Sem.run_pure, hf, receiverAt, run_underlying hu, Place.get]
        · cases h
        · rename_i f' d hne hf hu
          cases h
          simp only [method, Sem.run_bind, hti, Result.andThen_ok, hm, hpl, follow, Sem.run_pure, hf, receiverAt, run_underlying hu, Place.get]
        · cases h
      · cases h
    · cases h
  · cases h
variable {n : Nat} {w0 : World} {m0 : AMap} {H0 : AHeap} {B : Nat} {env : AEnv} {H : AHeap} {a : Act} {w : World} {io : IOp} {K : AV → AHeap → Prop} {Q : Exit → Act → World → Prop} {next : Act → World → Prop}
theorem upon_calls {f : FuncId} {vs : Array Value} {R : Ending → World → Prop} (h : Calls P f vs w R) (hr : ∀ e w', R e w' → ∃ v, e = .returned v ∧ next (a.put o.dst v) w') (hrun : (execOp a.eval o).run P w = .ok (.enter f vs) w) : o.wp P a w next Q := by
  unfold Oper.wp
  rw [hrun, Oper.upon_enter]
  refine h.mono fun e w' hR => ?_
  obtain ⟨v, rfl, hn⟩ := hr e w' hR
  exact hn
theorem acall_sound (htr : trOp P o = some io) {m : AMap} (fr : FR n w m H B env a) (st : St w m H B) (h : acall P io env H K)
    (hnext : ∀ x H' v w' m', K x H' → St w' m' H' B → Adv w m H w' m' H' → RV w' m' H' B x v → next (a.put o.dst v) w') : o.wp P a w next Q := by
  have step : (match sstep io env H with | some (some x, H') => K x H' | some (none, H') => K (.tuple []) H' | none => False) → o.wp P a w next Q := by
    intro h
    split at h
    · rename_i x H' hs
      obtain ⟨w', m', p1, p2, v, p3, p4⟩ := sstep_sound htr st fr hs
      unfold Oper.wp
      rw [p3, Oper.upon_value]
      exact hnext x H' v w' m' h p1 p2 p4
    · rename_i H' hs
      obtain ⟨w', m', p1, p2, p3⟩ := sstep_sound htr st fr hs
      unfold Oper.wp
      rw [p3, Oper.upon_skip]
      exact hnext _ H' undef w' m' h p1 p2 (.tuple [] #[] rfl (by simp))
    · exact h.elim
  cases io with
  | call f args =>
    simp only [acall] at h
    split at h
    · rename_i vs hvs
      obtain ⟨as, ts, ho, rfl⟩ := trOp_call htr
      obtain ⟨p1, p2⟩ := evs_sound fr _ _ hvs
      refine upon_calls (h.2 w m B (as.map a.eval) st ⟨by simpa using p1, fun i x v a b => p2 i x v a (by simpa using b)⟩) (fun e w' ⟨v, x, m', H', he, hk, s1, s2, s3⟩ => ⟨v, he, hnext x H' v w' m' hk s1 s2 s3⟩) ?_
      simp [execOp, ho, resolve, Act.eval, Deferred.ofValue, invoke, run_callFunc_ok h.1]
    · exact h.elim
  | callv x args =>
    simp only [acall] at h
    split at h
    · rename_i f first caps vs hx hvs
      obtain ⟨as, ts, ho, rfl⟩ := trOp_callv htr
      obtain ⟨p1, p2⟩ := evs_sound fr _ _ hvs
      have hxv := ev_sound fr hx
      generalize he : a.eval x = u at hxv
      cases hxv with
      | func _ _ _ f' c' hf hc h1 h2 =>
        refine upon_calls (h.2 w m B (f' ++ as.map a.eval ++ c') st ⟨by simp [hf, hc, p1], fun i x v e1 e2 => ?_⟩) (fun e w' ⟨v, x, m', H', he, hk, s1, s2, s3⟩ => ⟨v, he, hnext x H' v w' m' hk s1 s2 s3⟩) ?_
        · have e2' : (f'.toList ++ as.toList.map a.eval ++ c'.toList)[i]? = some v := by
            have : (f' ++ as.map a.eval ++ c').toList[i]? = some v := by rw [Array.getElem?_toList]; exact e2
            rwa [Array.toList_append, Array.toList_append, Array.toList_map] at this
          have hpl : vs.length = (as.toList.map a.eval).length := by simpa using p1
          have hfl : first.length = f'.toList.length := by simpa using hf
          rcases Nat.lt_or_ge i first.length with hi | hi
          · rw [List.append_assoc, List.getElem?_append_left hi] at e1
            rw [List.append_assoc, List.getElem?_append_left (by omega)] at e2'
            exact h1 i x v e1 (by simpa using e2')
          · rw [List.append_assoc, List.getElem?_append_right hi] at e1
            rw [List.append_assoc, List.getElem?_append_right (by omega)] at e2'
            rw [← hfl] at e2'
            rcases Nat.lt_or_ge (i - first.length) vs.length with hj | hj
            · rw [List.getElem?_append_left hj] at e1
              rw [List.getElem?_append_left (by omega)] at e2'
              exact p2 _ x v e1 e2'
            · rw [List.getElem?_append_right hj] at e1
              rw [List.getElem?_append_right (by omega), ← hpl] at e2'
              exact h2 _ x v e1 (by simpa using e2')
        · simp [execOp, ho, resolve, he, Deferred.ofValue, invoke, run_callFunc_ok h.1]
    · exact h.elim
  | mknil =>
    simp only [acall] at h
    obtain ⟨t, e, i, ho, ht, hi⟩ := trOp_mknil htr
    have hrun : (execOp a.eval o).run P w = .ok (.value (.slice (some ⟨w.heap.size, 0, none⟩) 0 0)) (w.alloc (.cells #[] e)) := by
      simp only [execOp, ho, Instr.buildSlice, Sem.run_bind, run_underlying ht, Result.andThen_ok, run_sizeOf' hi, Nat.zero_mul, show ¬ 0 > 2 ^ 24 by decide, if_false, if_true, Sem.run_pure, Instr.fill, Array.map_empty, show Array.range 0 = #[] by simp, newRow, run_newObj, World.alloc]
    have hb : Below w.heap.size w (w.alloc (.cells #[] e)) := ⟨rfl, rfl, rfl, (by show w.heap.size ≤ (w.heap.push _).size; rw [Array.size_push]; omega), fun k hk => by
      show (w.heap.push _)[k]? = _
      rw [Array.getElem?_push, if_neg (by omega)]⟩
    obtain ⟨p, q⟩ := below_adv st hb
    unfold Oper.wp
    rw [hrun, Oper.upon_value]
    exact hnext _ H _ _ m h p q (.nilSlice _)
  | isnil neg x =>
    simp only [acall] at h
    split at h
    · rename_i v hv
      split at h
      · rename_i k n hn
        obtain ⟨t, e, u, ho, ht⟩ := trOp_isnil htr
        obtain ⟨ad, len, cap, he, hlen, hne⟩ := alen_val (ev_sound fr hv) hn
        have hc : a.eval (.const (.slice none 0 0)) = .slice none 0 0 := rfl
        have hrun : (execOp a.eval o).run P w = .ok (.value (.bool (if neg then !ad.isNone else ad.isNone))) w := by
          have heq : (Op.equal t (.slice ad len cap) (.slice none 0 0)).run P w = .ok ad.isNone w := by
            unfold Op.equal Op.maxDepth
            exact run_equal_nil ht 9999 ad len cap w
          have hg : ∀ op, (eqGuard op t x (.const (.slice none 0 0)) (.slice ad len cap) (.slice none 0 0)).run P w = .ok () w := by
            intro op
            unfold eqGuard
            split <;> rfl
          cases neg with
          | false =>
            have ho' : o.op = .binOp .eql t x (.const (.slice none 0 0)) u := ho
            have hb : binOp .eql t (.slice ad len cap) (.slice none 0 0) = (do pure (.bool (← Op.equal t (.slice ad len cap) (.slice none 0 0)))) := by unfold binOp; rfl
            simp only [execOp, ho', hc, he, Sem.run_bind, hg, Result.andThen_ok, hb, heq, Sem.run_pure]
            rfl
          | true =>
            have ho' : o.op = .binOp .neq t x (.const (.slice none 0 0)) u := ho
            have hb : binOp .neq t (.slice ad len cap) (.slice none 0 0) = (do pure (.bool (!(← Op.equal t (.slice ad len cap) (.slice none 0 0))))) := by unfold binOp; rfl
            simp only [execOp, ho', hc, he, Sem.run_bind, hg, Result.andThen_ok, hb, heq, Sem.run_pure]
            rfl
        unfold Oper.wp
        rw [hrun, Oper.upon_value]
        by_cases h0 : 0 < n
        · rw [if_pos h0] at h
          have := hne h0
          have e1 : (if neg then !ad.isNone else ad.isNone) = neg := by cases ad <;> cases neg <;> simp_all
          rw [e1]
          exact hnext _ H _ w m h st (Adv.refl _ _ _) (.bool _)
        · rw [if_neg h0] at h
          exact hnext _ H _ w m (h _) st (Adv.refl _ _ _) (.bool _)
      · exact h.elim
    · exact h.elim
  | invoke x name args =>
    simp only [acall] at h
    split at h
    · rename_i t v vs hx hvs
      split at h
      · rename_i f hm
        obtain ⟨as, ts, ho, rfl⟩ := trOp_invoke htr
        obtain ⟨p1, p2⟩ := evs_sound fr _ _ hvs
        have hxv := ev_sound fr hx
        generalize he : a.eval x = u at hxv
        cases hxv with
        | iface _ _ v' hv' =>
          refine upon_calls (h.2 w m B (#[v'] ++ as.map a.eval) st ⟨by simp [p1, Nat.add_comm], fun i x v e1 e2 => ?_⟩) (fun e w' ⟨v, x, m', H', he, hk, s1, s2, s3⟩ => ⟨v, he, hnext x H' v w' m' hk s1 s2 s3⟩) ?_
          · cases i with
            | zero =>
              have e3 : (#[v'] ++ Array.map a.eval as)[0]? = some v' := by rw [Array.getElem?_append_left (show 0 < 1 from Nat.zero_lt_one)]; rfl
              rw [e3] at e2
              cases e1; cases e2; exact hv'
            | succ i =>
              simp only [List.getElem?_cons_succ] at e1
              rw [Array.getElem?_append_right (by simp)] at e2
              exact p2 i x v e1 (by simpa using e2)
          · have hd : P.types.size + Made.depth = (P.types.size + Made.depth - 1) + 1 := by simp [Made.depth]
            simp only [execOp, ho, resolve, Sem.run_bind, Sem.run_pure, Result.andThen_ok, he, invoke]
            have hz : (#[Value.iface t v'] ++ Array.map a.eval as)[0]? = some (Value.iface t v') := by rw [Array.getElem?_append_left (show 0 < 1 from Nat.zero_lt_one)]; rfl
            have hxs : (#[Value.iface t v'] ++ Array.map a.eval as).extract 1 (#[Value.iface t v'] ++ Array.map a.eval as).size = Array.map a.eval as := by simp
            rw [hz]
            simp only [hxs, callMethod, Sem.run_bind, run_program, Result.andThen_ok]
            rw [hd, amethod_run hm]
            simp only [Result.andThen_ok]
            exact run_callFunc_ok h.1 _ _
      · exact h.elim
    · exact h.elim
  | _ => exact step h
theorem yielded_eq {ops : List Oper} {j g : Nat} (hj : (ops[j]?).bind (·.dst) = some g) (tmps : Array Value) : yielded ops.toArray tmps j = match tmps[g]? with | some (.bool b) => some b | _ => none := by
  unfold yielded
  rw [List.getElem?_toArray, hj]
  simp only [Option.bind_some]
  cases tmps[g]? with
  | none => rfl
  | some v => cases v <;> rfl
theorem FR.over {n w m H B} {env : AEnv} {a : Act} (h : FR n w m H B env a) {g : Nat} {x : AV} (hx : AEnv.get env g = some x) : FR n w m H B ((g, x) :: env) a := by
  refine ⟨h.defers, h.size, fun t y e => ?_⟩
  simp only [AEnv.get] at e
  split at e
  · rename_i hgt; subst hgt; cases e; exact h.slots g x hx
  · exact h.slots t y e
theorem FR.envput {n w m H B} {env : AEnv} {a : Act} (h : FR n w m H B env a) {d : Option Nat} (hd : (match d with | some d => decide (d < n) | none => true) = true) {x : AV} {v : Value} (hv : RV w m H B x v) : FR n w m H B (Awp.envput d x env) (a.put d v) := by
  cases d with
  | none => exact h
  | some d => exact h.put (by simpa using hd) hv
theorem awpOps_sound {u : Option (List Nat)} {ops : List Oper} : ∀ (l : List Oper) (ss : List IStmt), trStmts P n u ops l = some ss → ∀ {K : AEnv → AHeap → Prop} (env : AEnv) (H : AHeap) (a : Act) (w : World), Rel n w0 m0 H0 B env H a w → awpOps P ss K env H →
    (∀ env' H' a' w', K env' H' → Rel n w0 m0 H0 B env' H' a' w' → Q .normal a' w') → wpList P ops.toArray Q l a w
  | [], ss, htr, K, env, H, a, w, rel, h, hq => by
    cases htr
    exact hq env H a w h rel
  | o :: l, ss, htr, K, env, H, a, w, rel, h, hq => by
    simp only [trStmts] at htr
    split at htr
    · rename_i s r hs hr
      cases htr
      unfold trStmt at hs
      split at hs
      · rename_i io hio hd
        obtain ⟨m, fr, st, ad⟩ := rel
        simp only [awpOps] at h
        split at hs
        · rename_i hg
          cases hs
          simp only at h
          refine wpList_plain hg fun N hN => ?_
          refine acall_sound hio fr st h fun x H' v w' m' hk s1 s2 s3 => hN _ _ ?_
          exact awpOps_sound l r hr _ _ _ _ ⟨m', (fr.mono s2).envput hd s3, s1, ad.trans s2⟩ hk hq
        · rename_i j want hg
          split at hs
          · rename_i g hj
            cases hs
            simp only at h
            have hw : ∀ (u : Value), a.tmps[g]? = some u → Region.wanted o (yielded ops.toArray a.tmps) = ((match u with | .bool b => some b | _ => none) == some want) := by
              intro u hu
              simp only [Region.wanted, hg, yielded_eq hj, hu]
              cases u <;> rfl
            split at h
            · rename_i c hc
              obtain ⟨h1, h2⟩ := h
              obtain ⟨u, hu, ru⟩ := fr.slots g _ hc
              cases ru
              by_cases hcw : c = want
              · subst hcw
                refine wpList_step fun N hN => ?_
                rw [hw _ hu]
                simp only [beq_self_eq_true, if_true]
                refine acall_sound hio (fr.over hc) st (h1 rfl) fun x H' v w' m' hk s1 s2 s3 => hN _ _ ?_
                exact awpOps_sound l r hr _ _ _ _ ⟨m', ((fr.over hc).mono s2).envput hd s3, s1, ad.trans s2⟩ hk hq
              · have hcw' : c = !want := by cases c <;> cases want <;> simp_all
                subst hcw'
                refine wpList_step fun N hN => ?_
                rw [hw _ hu, if_neg (by cases want <;> simp)]
                refine hN _ _ ?_
                exact awpOps_sound l r hr _ _ _ _ ⟨m, (fr.over hc).envput hd (.tuple [] #[] rfl (by simp)), st, ad⟩ (h2 rfl) hq
            · rename_i hc
              obtain ⟨u, hu, ru⟩ := fr.slots g _ hc
              cases ru
              refine wpList_step fun N hN => ?_
              rw [hw _ hu, if_neg (by simp)]
              refine hN _ _ ?_
              exact awpOps_sound l r hr _ _ _ _ ⟨m, fr.envput hd (.tuple [] #[] rfl (by simp)), st, ad⟩ h hq
            · exact h.elim
          · cases hs
      · cases hs
    · cases htr
end
end Go.Awp
/- Regions that draw their order: what is owed of them, part 1. Generic in the program. -/
namespace Go.Awp
set_option linter.unusedSectionVars false
variable [Fx]
inductive Cls where
  | pure | load | alloc | call | write
def cls : IOp → Cls
  | .load .. | .iaddr .. | .slice .. | .slice3 .. | .len .. => .load
  | .box .. | .zero .. | .mklit .. | .mkslice .. => .alloc
  | .call .. | .callv .. | .invoke .. => .call
  | .store .. | .append .. | .copy .. | .clear .. => .write
  | _ => .pure
theorem qstep_indep {io : IOp} (h : cls io = .pure ∨ cls io = .alloc) (env : AEnv) (H H' : AHeap) : qstep io env H = qstep io env H' := by
  cases io <;> simp [cls] at h <;> rfl
theorem deref_push {H : AHeap} {p : AV} {cells : List AV} (h : deref H p = some cells) (X : AHeap) : deref (H ++ X) p = some cells := by
  cases p <;> simp only [deref] at h ⊢ <;> try exact h
  split at h
  · rename_i o ho
    rw [AHeap.obj_push_lt (AHeap.obj_lt ho), ho]
    exact h
  · cases h
theorem alen_push {H : AHeap} {p v : AV} (h : alen H p = some v) (X : AHeap) : alen (H ++ X) p = some v := by
  cases p <;> simp only [alen] at h ⊢ <;> try exact h
  all_goals
    split at h
    · rename_i o ho
      rw [AHeap.obj_push_lt (AHeap.obj_lt ho), ho]
      exact h
    · cases h
theorem aiaddr_push {H : AHeap} {s : Nat} {p q v : AV} (h : aiaddr H s p q = some v) (X : AHeap) : aiaddr (H ++ X) s p q = some v := by
  unfold aiaddr at h ⊢
  split at h
  · split at h
    · rename_i o ho
      simp only [AHeap.obj_push_lt (AHeap.obj_lt ho), ho]
      exact h
    · cases h
  · split at h
    · rename_i o ho
      simp only [AHeap.obj_push_lt (AHeap.obj_lt ho), ho]
      exact h
    · cases h
  · exact h
  · cases h
theorem aslice_push {H : AHeap} {s : Nat} {p v : AV} {l r : Option AV} (h : aslice H s p l r = some v) (X : AHeap) : aslice (H ++ X) s p l r = some v := by
  cases p <;> simp only [aslice] at h ⊢ <;> try exact h
  split at h
  · rename_i o ho
    rw [AHeap.obj_push_lt (AHeap.obj_lt ho), ho]
    exact h
  · cases h
theorem aslice3_push {H : AHeap} {s : Nat} {p v : AV} {l r q : Option AV} (h : aslice3 H s p l r q = some v) (X : AHeap) : aslice3 (H ++ X) s p l r q = some v := by
  cases p <;> simp only [aslice3] at h ⊢ <;> try exact h
  split at h
  · rename_i o ho
    rw [AHeap.obj_push_lt (AHeap.obj_lt ho), ho]
    exact h
  · cases h
theorem qstep_push {io : IOp} (hl : cls io = .load) {env : AEnv} {H : AHeap} {v : AV} (h : qstep io env H = some (.val v)) (X : AHeap) : qstep io env (H ++ X) = some (.val v) := by
  cases io <;> simp [cls] at hl
  · simp only [qstep] at h ⊢
    split at h
    · rename_i p hp
      split at h
      · rename_i cells hc
        simp only [deref_push hc X]
        exact h
      · cases h
    · cases h
  · simp only [qstep] at h ⊢
    split at h
    · rename_i p q hp hq
      split at h
      · rename_i u hu
        simp only [aiaddr_push hu X]
        exact h
      · cases h
    · cases h
  · simp only [qstep] at h ⊢
    split at h
    · rename_i p l r hp hl hr
      split at h
      · rename_i u hu
        simp only [aslice_push hu X]
        exact h
      · cases h
    · cases h
  · simp only [qstep] at h ⊢
    split at h
    · rename_i p l r q hp hl hr hq
      split at h
      · rename_i u hu
        simp only [aslice3_push hu X]
        exact h
      · cases h
    · cases h
  · simp only [qstep] at h ⊢
    split at h
    · rename_i p hp
      split at h
      · rename_i u hu
        simp only [alen_push hu X]
        exact h
      · cases h
    · cases h
/-- Which function a call calls, and with what. -/
def target (P : Program) (io : IOp) (env : AEnv) : Option (FuncId × List AV) :=
  match io with
  | .call f args => match evs env args with
    | some vs => some (f, vs)
    | none => none
  | .callv x args => match ev env x, evs env args with
    | some (.func (.func f) first caps), some vs => some (f, first ++ vs ++ caps)
    | _, _ => none
  | .invoke x name args => match ev env x, evs env args with
    | some (.iface t v), some vs => (match amethod P t name with
      | some f => some (f, v :: vs)
      | none => none)
    | _, _ => none
  | _ => none
/-- Guards: whether the statement is carried out; and what is known then. -/
def guardD (g : Option (Nat × Bool)) (env : AEnv) (on : AEnv → Prop) (off : AEnv → Prop) : Prop :=
  match g with
  | none => on env
  | some (g, want) => match AEnv.get env g with
    | some (.bool c) => (c = want → on ((g, .bool want) :: env)) ∧ (c = !want → off ((g, .bool (!want)) :: env))
    | some (.tuple []) => off env
    | _ => False
/-- The part of a region ahead of its first write: reads, new objects, calls of plain data. -/
def awpD1 (P : Program) : List IStmt → List (IOp × AEnv × AV) → (List (IOp × AEnv × AV) → AEnv → AHeap → Prop) → AEnv → AHeap → Prop
  | [], L, K, env, H => K L env H
  | s :: rest, L, K, env, H => guardD s.guard env
      (fun env => match cls s.op with
        | .pure => (match qstep s.op (AEnv.trim env s.uses) H with
          | some (.val v) => awpD1 P rest L K (envput s.dst v env) H
          | _ => False)
        | .load => (match qstep s.op (AEnv.trim env s.uses) H with
          | some (.val v) => awpD1 P rest (if s.late then (s.op, AEnv.trim env s.uses, v) :: L else L) K (envput s.dst v env) H
          | _ => False)
        | .alloc => (match qstep s.op (AEnv.trim env s.uses) H with
          | some (.box e sz cells) => awpD1 P rest L K (envput s.dst (.ptr H.length 1 0 0) env) (H ++ [some ⟨e, sz, [cells]⟩])
          | some (.arr e sz els) => awpD1 P rest L K (envput s.dst (.own H.length els.length 0 els.length) env) (H ++ [some ⟨e, sz, els⟩])
          | _ => False)
        | .call => (match target P s.op (AEnv.trim env s.uses) with
          | some (f, vs) => (∃ ys r, (∀ X : AHeap, FrzL (H ++ X) vs ys) ∧ PCall P f ys r ∧ awpD1 P rest L K (envput s.dst r env) H) ∨
              (∃ ys e sz els, (∀ X : AHeap, FrzL (H ++ X) vs ys) ∧ NCall P f ys e sz els ∧ awpD1 P rest L K (envput s.dst (.own H.length els.length 0 els.length) env) (H ++ [some ⟨e, sz, els⟩]))
          | none => False)
        | .write => False)
      (fun env => awpD1 P rest L K (envput s.dst (.tuple []) env) H)
/-- The part of a region from its first write on: what was read reads the same behind each write. -/
def awpD2 : List IStmt → List (IOp × AEnv × AV) → List AHeap → (AEnv → AHeap → Prop) → AEnv → AHeap → Prop
  | [], _, _, K, env, H => K env H
  | s :: rest, L, Ps, K, env, H => match s.guard, cls s.op with
    | none, .pure => (match qstep s.op (AEnv.trim env s.uses) H with
      | some (.val v) => awpD2 rest L Ps K (envput s.dst v env) H
      | _ => False)
    | none, .load => (match qstep s.op (AEnv.trim env s.uses) H with
      | some (.val v) => (∀ G, G ∈ Ps → qstep s.op (AEnv.trim env s.uses) G = some (.val v)) ∧ awpD2 rest ((s.op, AEnv.trim env s.uses, v) :: L) Ps K (envput s.dst v env) H
      | _ => False)
    | none, .write => (match sstep s.op (AEnv.trim env s.uses) H with
      | some (x, H') => (∀ t, t ∈ L → qstep t.1 t.2.1 H' = some (.val t.2.2)) ∧ awpD2 rest L (H :: Ps) K (envput s.dst (x.getD (.tuple [])) env) H'
      | none => False)
    | _, _ => False
/-- Ancestors of operations, as bits. -/
def ancStep (acc : List Nat) (o : Oper) : Nat := o.after.toList.foldl (fun s e => if Region.binds .any e then s ||| (2 ^ e.on) ||| (acc[e.on]?.getD 0) else s) 0
def ancs : List Nat → List Oper → List Nat
  | acc, [] => acc
  | acc, o :: r => ancs (acc ++ [ancStep acc o]) r
def Listed (ops : List Oper) (L : Nat → Prop) (i : Nat) : Prop := ∀ o, ops[i]? = some o → ∀ e, e ∈ o.after → Region.binds .any e = true → L e.on
theorem ancs_spec (ops : List Oper) (L : Nat → Prop) (hcl : ∀ j, L j → Listed ops L j) : ∀ (r : List Oper) (acc : List Nat), (∀ j, r[j]? = ops[acc.length + j]?) →
    (∀ i x, acc[i]? = some x → ∀ j, x.testBit j = true → Listed ops L i → L j) → ∀ i x, (ancs acc r)[i]? = some x → ∀ j, x.testBit j = true → Listed ops L i → L j
  | [], acc, _, h => h
  | o :: r, acc, hr, h => by
    simp only [ancs]
    refine ancs_spec ops L hcl r _ (fun j => ?_) fun i x hx j hj hL => ?_
    · have := hr (j + 1)
      simp only [List.getElem?_cons_succ] at this
      rw [this]; simp; congr 1; omega
    · rcases Nat.lt_or_ge i acc.length with hi | hi
      · rw [List.getElem?_append_left hi] at hx
        exact h i x hx j hj hL
      · rw [List.getElem?_append_right hi] at hx
        have hi0 : i = acc.length := by
          rcases Nat.eq_or_lt_of_le hi with e | e
          · exact e.symm
          · rw [List.getElem?_eq_none (by simp; omega)] at hx; cases hx
        subst hi0
        simp at hx
        subst hx
        have ho : ops[acc.length]? = some o := by have := hr 0; simpa using this.symm
        have hLo := hL o ho
        unfold ancStep at hj
        have key : ∀ (es : List Edge) (s : Nat), (∀ e, e ∈ es → e ∈ o.after) → (s.testBit j = true → L j) → (es.foldl (fun s e => if Region.binds .any e then s ||| (2 ^ e.on) ||| (acc[e.on]?.getD 0) else s) s).testBit j = true → L j := by
          intro es
          induction es with
          | nil => intro s _ hs hj; exact hs hj
          | cons e es ih =>
            intro s hes hs hj
            refine ih _ (fun e' he' => hes e' (by simp [he'])) (fun hb => ?_) hj
            simp only at hb
            split at hb
            · rename_i hbe
              have hLe := hLo e (hes e (by simp)) hbe
              simp only [Nat.testBit_or, Bool.or_eq_true] at hb
              rcases hb with (hb | hb) | hb
              · exact hs hb
              · rw [Nat.testBit_two_pow] at hb
                have : e.on = j := by simpa using hb
                rw [← this]; exact hLe
              · cases hx : acc[e.on]? with
                | none => rw [hx] at hb; simp at hb
                | some y =>
                  rw [hx] at hb
                  exact h e.on y hx j (by simpa using hb) (hcl e.on hLe)
            · exact hs hb
        exact key o.after.toList 0 (fun e he => by simpa using he) (fun hb => by simp at hb) hj
end Go.Awp
