/- What a function is handed, read from the given form of its arguments: plain data. -/
import Derived.Test.YtepnijjgdhldeaaLz
import Derived.Deep.Slices
import Derived.OpenShut
import Derived.WideShapes
namespace Go.Awp
open Go.ChangeShapes Go.WideShapes Go.Deep

/-- What a cell of an argument may be. -/
inductive Cs where
  | int (k : IntKind)
  | bool
  | str
  | sl (es : List Cs)
inductive Fits : Cs → AV → Prop
  | int (k : IntKind) (n : Int) (h : (Lit.int k n).wf = true) : Fits (.int k) (.int k n)
  | bool (b : Bool) : Fits .bool (.bool b)
  | str (s : ByteArray) (h : s.size ≤ maxLen) : Fits .str (.str s)
  | sl (es : List Cs) (l : List (List AV)) (hl : l.length ≤ maxLen) (h : ∀ row, row ∈ l → row.length = es.length)
      (hh : ∀ row, row ∈ l → ∀ (i : Nat) c y, es[i]? = some c → row[i]? = some y → Fits c y) : Fits (.sl es) (.ro false l)
theorem Fits.one {c : Cs} {x : AV} (h : Fits c x) : x.one = true := by cases h <;> rfl
def flatF (P : Program) (g : TypeId → Option (List Cs)) : Nat → List Field → Option (List Cs)
  | _, [] => some []
  | off, fl :: r => if fl.offset = off then (match g fl.type, flatF P g (off + P.cellsOf fl.type) r with
    | some a, some b => if a.length = P.cellsOf fl.type then some (a ++ b) else none
    | _, _ => none) else none
def flat (P : Program) : Nat → TypeId → Option (List Cs)
  | 0, _ => none
  | f + 1, t => match P.underlying t with
    | some (.int k) => some [.int k]
    | some .bool => some [.bool]
    | some .string => some [.str]
    | some (.slice e) => (match flat P f e with
      | some es => if es.length = P.cellsOf e ∧ 0 < es.length then some [.sl es] else none
      | none => none)
    | some (.struct fs) => (match flatF P (flat P f) 0 fs.toList with
      | some l => if l.length = P.cellsOf t then some l else none
      | none => none)
    | some (.array n e) => (match flat P f e with
      | some es => if es.length = P.cellsOf e ∧ n * es.length = P.cellsOf t then some (List.replicate n es).flatten else none
      | none => none)
    | _ => none
theorem addr_add {b off n : Nat} : (⟨b, off, none⟩ : Addr).add n = ⟨b, off + n, none⟩ := by
  unfold Addr.add
  split
  · rename_i h; subst h; rfl
  · rfl
section
variable {H : Type} {enc : TypeId × Value → H} {P : Program} {w : World} {spare : Nat → Bool}
def Opened (w : World) (l : List Cs) (cs : List Value) : Prop := cs.length = l.length ∧ ∃ xs : List AV, xs.length = l.length ∧ ∀ (i : Nat) c y v, l[i]? = some c → xs[i]? = some y → cs[i]? = some v → Fits c y ∧ RV w (fun _ => none) [] w.heap.size y v
theorem opened_nil : Opened w [] [] := ⟨rfl, [], rfl, fun i c y v h => by simp at h⟩
theorem opened_one {c : Cs} {x : AV} {v : Value} (h : Fits c x) (hv : RV w (fun _ => none) [] w.heap.size x v) : Opened w [c] [v] :=
  ⟨rfl, [x], rfl, fun i c' y v' h1 h2 h3 => by
    cases i with
    | zero => cases h1; cases h2; cases h3; exact ⟨h, hv⟩
    | succ i => simp at h1⟩
theorem opened_append {l l' : List Cs} {cs cs' : List Value} (h : Opened w l cs) (h' : Opened w l' cs') : Opened w (l ++ l') (cs ++ cs') := by
  obtain ⟨a1, xs, a2, a3⟩ := h
  obtain ⟨b1, ys, b2, b3⟩ := h'
  refine ⟨by simp [a1, b1], xs ++ ys, by simp [a2, b2], fun i c y v h1 h2 h3 => ?_⟩
  rcases Nat.lt_or_ge i l.length with hi | hi
  · rw [List.getElem?_append_left hi] at h1
    rw [List.getElem?_append_left (by omega)] at h2 h3
    exact a3 i c y v h1 h2 h3
  · rw [List.getElem?_append_right hi] at h1
    rw [List.getElem?_append_right (by omega)] at h2 h3
    rw [a2] at h2; rw [a1] at h3
    exact b3 _ c y v h1 h2 h3
theorem open_flatF {g : TypeId → Option (List Cs)} {m : Nat} {cs : List Value}
    (ih : ∀ t l, g t = some l → ∀ (cs : List Value) x, DataW.trod enc P w 0 spare true m t cs = some x → Opened w l cs) :
    ∀ (fl : List Field) (off : Nat) (l : List Cs), flatF P g off fl = some l → off + l.length = cs.length → (∀ f, f ∈ fl → ∃ y, DataW.trod enc P w 0 spare true m f.type ((cs.drop f.offset).take (P.cellsOf f.type)) = some y) → Opened w l (cs.drop off)
  | [], off, l, h, hl, _ => by
    cases h
    have e : cs.drop off = [] := List.drop_eq_nil_of_le (by simp at hl; omega)
    rw [e]; exact opened_nil
  | f :: r, off, l, h, hl, hx => by
    unfold flatF at h
    split at h
    · rename_i ho
      split at h
      · rename_i a b ha hb
        split at h
        · rename_i hal
          cases h
          obtain ⟨y, hy⟩ := hx f (by simp)
          have h1 := ih _ _ ha _ _ hy
          rw [ho] at h1
          have h2 := open_flatF ih r _ b hb (by simp at hl; omega) fun f' hf' => hx f' (by simp [hf'])
          have := opened_append h1 h2
          have e : (cs.drop off).take (P.cellsOf f.type) ++ cs.drop (off + P.cellsOf f.type) = cs.drop off := by
            rw [← List.drop_drop]; exact List.take_append_drop ..
          rwa [e] at this
        · cases h
      · cases h
    · cases h
theorem open_array {m n s : Nat} {e : TypeId} {es : List Cs} (hs : es.length = s) {cs : List Value}
    (ih : ∀ (cs : List Value) x, DataW.trod enc P w 0 spare true m e cs = some x → Opened w es cs) :
    ∀ (k i : Nat), i + k = n → n * s = cs.length → (∀ i, i < n → ∃ y, DataW.trod enc P w 0 spare true m e ((cs.drop (i * s)).take s) = some y) → Opened w (List.replicate k es).flatten (cs.drop (i * s))
  | 0, i, hi, hl, _ => by
    have e : cs.drop (i * s) = [] := List.drop_eq_nil_of_le (by rw [← hl]; exact Nat.mul_le_mul_right _ (by omega))
    rw [e]; exact opened_nil
  | k + 1, i, hi, hl, hx => by
    obtain ⟨y, hy⟩ := hx i (by omega)
    have h1 := ih _ _ hy
    have h2 := open_array hs ih k (i + 1) (by omega) hl hx
    have := opened_append h1 h2
    have e : (cs.drop (i * s)).take s ++ cs.drop ((i + 1) * s) = cs.drop (i * s) := by
      rw [show (i + 1) * s = i * s + s from Nat.succ_mul .., ← List.drop_drop]; exact List.take_append_drop ..
    rw [e] at this
    simpa [List.replicate_succ] using this
theorem open_flat : ∀ (f : Nat) (t : TypeId) (l : List Cs), flat P f t = some l → ∀ (fuel : Nat) (cs : List Value) (x : DataW H × List MemPlace), DataW.trod enc P w 0 spare true fuel t cs = some x → Opened w l cs
  | 0, t, l, h => by simp [flat] at h
  | f + 1, t, l, h => by
    intro fuel cs x hx
    have ih := open_flat f
    unfold flat at h
    split at h
    · rename_i k hu
      cases h
      cases fuel with
      | zero => simp [DataW.trod] at hx
      | succ m =>
        unfold DataW.trod at hx
        rw [hu] at hx
        split at hx <;> simp_all
        rename_i k' n _
        obtain ⟨⟨rfl, hw⟩, _⟩ := hx
        exact opened_one (.int _ _ hw) (.int _ _)
    · rename_i hu
      cases h
      cases fuel with
      | zero => simp [DataW.trod] at hx
      | succ m =>
        unfold DataW.trod at hx
        rw [hu] at hx
        split at hx <;> simp_all
        exact opened_one (.bool _) (.bool _)
    · rename_i hu
      cases h
      cases fuel with
      | zero => simp [DataW.trod] at hx
      | succ m =>
        unfold DataW.trod at hx
        rw [hu] at hx
        split at hx <;> simp_all
        exact opened_one (.str _ hx.1) (.str _)
    · rename_i e hu
      split at h
      · rename_i es he
        split at h
        · rename_i hes
          cases h
          rcases open_slice hu hx with ⟨rfl, _⟩ | ⟨a, len, cap, m, n, D, Pl, rfl, hb, hl, hm, hmm, rfl, hel⟩
          · exact opened_one (.sl es [] (Nat.zero_le _) (fun _ h => by cases h) (fun _ h => by cases h)) (.roNil _ _ _ fun _ => rfl)
          · rcases Nat.eq_zero_or_pos len with hz | hz
            · subst hz
              exact opened_one (.sl es [] (Nat.zero_le _) (fun _ h => by cases h) (fun _ h => by cases h)) (.roNil _ _ _ fun h => by cases h)
            · have hlm : len ≤ m := by rw [hmm]; split <;> omega
              have each : ∀ i, i < len → ∃ q : List AV × (Nat → Value), q.1.length = es.length ∧ ∀ j, j < es.length → w.cell? ((a.add (i * P.cellsOf e)).add j) = some (q.2 j) ∧ ∀ c y, es[j]? = some c → q.1[j]? = some y → Fits c y ∧ RV w (fun _ => none) [] w.heap.size y (q.2 j) := by
                intro i hi
                obtain ⟨cs', h1, h2⟩ := hel i (by omega)
                obtain ⟨o1, xs, o2, o3⟩ := ih e es he n cs' _ h2
                obtain ⟨_, hlen, hcell⟩ := World.cells?_some h1
                refine ⟨(xs, fun j => cs'.getD j default), o2, fun j hj => ?_⟩
                have hg : cs'[j]? = some (cs'.getD j default) := by simp [List.getD, List.getElem?_eq_getElem (show j < cs'.length by omega)]
                exact ⟨by rw [hcell j (by omega), hg], fun c y h1 h2 => o3 j c y _ h1 h2 hg⟩
              obtain ⟨q, hq⟩ := choose_lt each
              have c0 := ((hq 0 hz).2 0 hes.2).1
              obtain ⟨b, off, spot⟩ := a
              have hspot : spot = none := by simpa [Addr.add] using World.cell?_spot c0
              subst hspot
              have hlt : b < w.heap.size := by
                rcases Nat.lt_or_ge b w.heap.size with h | h
                · exact h
                · simp [World.cell?, Addr.add, Array.getElem?_eq_none h] at c0
              have hll : ((List.range len).map fun i => (q i).1).length = len := by simp
              have hget : ∀ (i : Nat) el, ((List.range len).map fun i => (q i).1)[i]? = some el → i < len ∧ el = (q i).1 := by
                intro i el h
                rw [List.getElem?_map] at h
                rcases Nat.lt_or_ge i len with hi | hi
                · rw [List.getElem?_range hi] at h; cases h; exact ⟨hi, rfl⟩
                · rw [List.getElem?_eq_none (by simpa using hi)] at h; cases h
              refine opened_one (x := .ro false ((List.range len).map fun i => (q i).1)) (.sl es _ (by rw [hll]; omega) (fun row hr => ?_) fun row hr j c y h1 h2 => ?_) ?_
              · obtain ⟨i, hi, rfl⟩ := List.mem_map.1 hr
                exact (hq i (List.mem_range.1 hi)).1
              · obtain ⟨i, hi, rfl⟩ := List.mem_map.1 hr
                have hj := (List.getElem?_eq_some_iff.1 h1).1
                exact (((hq i (List.mem_range.1 hi)).2 j hj).2 c y h1 h2).1
              · have key := RV.ro (w := w) (m := fun _ => none) (H := []) (B := w.heap.size) false ((List.range len).map fun i => (q i).1) (P.cellsOf e) b off cap (fun i j => (q i).2 j)
                  (by intro h; have := congrArg List.length h; rw [hll] at this; simp at this; omega) (fun _ h => by cases h) (fun h => by cases h) hlt
                  (fun el hel => by
                    obtain ⟨i, hi, rfl⟩ := List.mem_map.1 hel
                    rw [(hq i (List.mem_range.1 hi)).1]; exact hes.1)
                  (by rw [hll]; exact hl)
                  (fun i el j y h1 h2 => by
                    obtain ⟨hi, rfl⟩ := hget i el h1
                    have hj := (List.getElem?_eq_some_iff.1 h2).1
                    rw [(hq i hi).1] at hj
                    obtain ⟨p1, p2⟩ := (hq i hi).2 j hj
                    refine ⟨?_, (p2 _ _ (List.getElem?_eq_getElem hj) h2).1.one⟩
                    rw [addr_add, addr_add] at p1; exact p1)
                  (fun i el j y h1 h2 => by
                    obtain ⟨hi, rfl⟩ := hget i el h1
                    have hj := (List.getElem?_eq_some_iff.1 h2).1
                    rw [(hq i hi).1] at hj
                    obtain ⟨p1, p2⟩ := (hq i hi).2 j hj
                    exact (p2 _ _ (List.getElem?_eq_getElem hj) h2).2)
                rwa [hll] at key
        · cases h
      · cases h
    · rename_i fs hu
      split at h
      · rename_i l' hl
        split at h
        · rename_i hlen
          cases h
          obtain ⟨xs, n, _, _, hc, hxl, hf⟩ := DataW.trod_struct hu hx
          have := open_flatF (cs := cs) (m := n) (fun t l ht cs x hx => ih t l ht n cs x hx) fs.toList 0 l hl (by omega) fun f' hf' => by
            obtain ⟨i, hi, e⟩ := List.mem_iff_getElem.1 hf'
            have := hf i f' (by rw [← Array.getElem?_toList, List.getElem?_eq_getElem hi, e])
            rw [this]
            have hi' : i < xs.length := by simpa [hxl] using hi
            exact ⟨xs[i], List.getElem?_eq_getElem hi'⟩
          simpa using this
        · cases h
      · cases h
    · rename_i n e hu
      split at h
      · rename_i es he
        split at h
        · rename_i hes
          cases h
          obtain ⟨xs, m, _, _, hc, hxl, hf⟩ := DataW.trod_array hu hx
          have := open_array (cs := cs) (n := n) (m := m) hes.1 (fun cs x hx => ih e es he m cs x hx) n 0 (by omega) (by rw [hc, ← hes.2, hes.1]) fun i hi => by
            rw [hf i hi]
            exact ⟨xs[i]'(by omega), List.getElem?_eq_getElem (by omega)⟩
          simpa using this
        · cases h
      · cases h
    · cases h
theorem open_cell {t : TypeId} {c : Cs} {v : Value} {d : DataW H} {ps : List MemPlace} {f : Nat} (hf : flat P f t = some [c]) (hv : v.cells.toList = [v]) (h : DataW.Trod enc P w 0 spare true t v d ps) : ∃ x, Fits c x ∧ RV w (fun _ => none) [] w.heap.size x v := by
  obtain ⟨fuel, h⟩ := h
  rw [hv] at h
  obtain ⟨_, xs, hl, hx⟩ := open_flat f t _ hf fuel _ _ h
  match xs, hl with
  | [x], _ =>
    obtain ⟨p, q⟩ := hx 0 c x v rfl rfl rfl
    exact ⟨x, p, q⟩
theorem open_agg {t : TypeId} {l : List Cs} {vs : Array Value} {d : DataW H} {ps : List MemPlace} {f : Nat} (hf : flat P f t = some l) (h : DataW.Trod enc P w 0 spare true t (.agg vs) d ps) :
    ∃ xs : List AV, xs.length = l.length ∧ (∀ (i : Nat) c y, l[i]? = some c → xs[i]? = some y → Fits c y) ∧ RV w (fun _ => none) [] w.heap.size (.agg xs) (.agg vs) := by
  obtain ⟨fuel, h⟩ := h
  obtain ⟨hc, xs, hl, hx⟩ := open_flat f t l hf fuel _ _ h
  have hc' : vs.size = l.length := by simpa [Value.cells] using hc
  refine ⟨xs, hl, fun i c y h1 h2 => ?_, .agg _ _ (by omega) (fun x hm => ?_) fun i y v h1 h2 => ?_⟩
  · have hi := (List.getElem?_eq_some_iff.1 h1).1
    exact (hx i c y _ h1 h2 (List.getElem?_eq_getElem (by simpa [Value.cells, hc'] using hi))).1
  · obtain ⟨i, hi, rfl⟩ := List.mem_iff_getElem.1 hm
    exact (hx i _ _ _ (List.getElem?_eq_getElem (by omega)) (List.getElem?_eq_getElem hi) (List.getElem?_eq_getElem (by simpa [Value.cells, hc', ← hl] using hi))).1.one
  · have hi := (List.getElem?_eq_some_iff.1 h1).1
    exact (hx i _ _ v (List.getElem?_eq_getElem (by omega)) h1 (by simpa [Value.cells] using h2)).2
end
end Go.Awp
