/- Values carried over a call's border, by reckoning. Generic in the program. -/
import Derived.Test.YtepnijjgdhldeaaA5
namespace Go.Awp
set_option linter.unusedSectionVars false
variable [Fx]
def carL (f : AV → Option AV) : List AV → Option (List AV)
  | [] => some []
  | x :: r => match f x, carL f r with
    | some y, some l => some (y :: l)
    | _, _ => none
def carR (f : AV → Option AV) : List (List AV) → Option (List (List AV))
  | [] => some []
  | x :: r => match carL f x, carR f r with
    | some y, some l => some (y :: l)
    | _, _ => none
/-- A value as a call is handed it (out: false), or as a call hands it back (out: true). -/
def carry (out : Bool) (H : AHeap) : Nat → AV → Option AV
  | 0, _ => none
  | d + 1, x => match x with
    | .bool b => some (.bool b)
    | .int k n => some (.int k n)
    | .str s => some (.str s)
    | .nilFunc => some .nilFunc
    | .nilIface => some .nilIface
    | .nilPtr => some .nilPtr
    | .nilSlice => some .nilSlice
    | .iface t v => (match carry out H d v with | some y => some (.iface t y) | none => none)
    | .func fn a b => (match carL (carry out H d) a, carL (carry out H d) b with | some a', some b' => some (.func fn a' b') | _, _ => none)
    | .agg cs => (match carL (carry out H d) cs with | some l => some (.agg l) | none => none)
    | .tuple cs => (match carL (carry out H d) cs with | some l => some (.tuple l) | none => none)
    | .ro fr l => if out = false ∨ fr = true ∨ l = [] then (match carR (carry out H d) l with | some l' => some (.ro out l') | none => none) else none
    | .full l => if out = false then (match carR (carry out H d) l with | some l' => some (.ro out l') | none => none) else none
    | .junk => none
    | .own h ver i len => (match AHeap.obj H h with
      | some o => if ver = o.elems.length then (match carR (carry out H d) ((o.elems.drop i).take len) with | some l' => some (.ro out l') | none => none) else none
      | none => none)
    | .ptr h ver i j => (match deref H (.ptr h ver i j) with
      | some cells => (match carL (carry out H d) cells with | some l => some (.rop l) | none => none)
      | none => none)
    | .rop cells => if out = false then (match carL (carry out H d) cells with | some l => some (.rop l) | none => none) else none
def Tgt (out : Bool) (B : Nat) (m2 : AMap) (B2 : Nat) : Prop := (out = true → B2 ≤ B ∧ ∀ h b, m2 h = some b → b < B) ∧ (out = false → ∀ h, m2 h = none)
theorem Tgt.good {out : Bool} {B : Nat} {m2 : AMap} {B2 : Nat} (t : Tgt out B m2 B2) {b : Nat} (h : out = false ∨ B ≤ b) : (∀ k, m2 k ≠ some b) ∧ (out = true → B2 ≤ b) := by
  cases out with
  | false => exact ⟨fun k e => (by rw [t.2 rfl k] at e; cases e), fun e => (by cases e)⟩
  | true =>
    rcases h with h | h
    · cases h
    · exact ⟨fun k e => by have := (t.1 rfl).2 k b e; omega, fun _ => Nat.le_trans (t.1 rfl).1 h⟩
def Car (out : Bool) (H : AHeap) (x y : AV) : Prop := y.one = x.one ∧ ∀ (X : AHeap) (w : World) (m : AMap) (B : Nat) (v : Value) (m2 : AMap) (H2 : AHeap) (B2 : Nat), St w m (H ++ X) B → RV w m (H ++ X) B x v → Tgt out B m2 B2 → RV w m2 H2 B2 y v
theorem carL_spec {R : AV → AV → Prop} {f : AV → Option AV} (hf : ∀ x y, f x = some y → R x y) : ∀ (l l' : List AV), carL f l = some l' → l'.length = l.length ∧ ∀ (i : Nat) y, l'[i]? = some y → ∃ x, l[i]? = some x ∧ R x y
  | [], l', h => by cases h; exact ⟨rfl, by simp⟩
  | x :: r, l', h => by
    simp only [carL] at h
    split at h
    · rename_i y l h1 h2
      cases h
      obtain ⟨q1, q2⟩ := carL_spec hf r l h2
      refine ⟨by simp [q1], fun i z hz => ?_⟩
      cases i with
      | zero => simp at hz; subst hz; exact ⟨x, rfl, hf x _ h1⟩
      | succ i => exact q2 i z (by simpa using hz)
    · cases h
theorem carR_spec {R : AV → AV → Prop} {f : AV → Option AV} (hf : ∀ x y, f x = some y → R x y) : ∀ (l l' : List (List AV)), carR f l = some l' → l'.length = l.length ∧ ∀ (i : Nat) el', l'[i]? = some el' → ∃ el, l[i]? = some el ∧ el'.length = el.length ∧ ∀ (j : Nat) y, el'[j]? = some y → ∃ x, el[j]? = some x ∧ R x y
  | [], l', h => by cases h; exact ⟨rfl, by simp⟩
  | x :: r, l', h => by
    simp only [carR] at h
    split at h
    · rename_i y l h1 h2
      cases h
      obtain ⟨q1, q2⟩ := carR_spec hf r l h2
      refine ⟨by simp [q1], fun i z hz => ?_⟩
      cases i with
      | zero => simp at hz; subst hz; exact ⟨x, rfl, carL_spec hf x _ h1⟩
      | succ i => exact q2 i z (by simpa using hz)
    · cases h
theorem car_rows {out : Bool} {H X : AHeap} {w : World} {m : AMap} {B : Nat} {m2 : AMap} {H2 : AHeap} {B2 : Nat} (st : St w m (H ++ X) B) (t : Tgt out B m2 B2) {l l' : List (List AV)} (hr : l'.length = l.length ∧ ∀ (i : Nat) el', l'[i]? = some el' → ∃ el, l[i]? = some el ∧ el'.length = el.length ∧ ∀ (j : Nat) y, el'[j]? = some y → ∃ x, el[j]? = some x ∧ Car out H x y)
    {ad : Option Addr} {cap s : Nat} (hnone : l = [] → ad = none → cap = 0) (hcap : l.length ≤ cap) (hs : ∀ e, e ∈ l → e.length = s)
    (hsome : l ≠ [] → ∃ b off, ad = some ⟨b, off, none⟩ ∧ b < w.heap.size ∧ (out = false ∨ B ≤ b) ∧ ∀ (i : Nat) (e : List AV) (j : Nat) (x : AV), l[i]? = some e → e[j]? = some x → ∃ v, w.cell? ⟨b, off + i * s + j, none⟩ = some v ∧ RV w m (H ++ X) B x v ∧ x.one = true) :
    RV w m2 H2 B2 (.ro out l') (.slice ad l.length cap) := by
  obtain ⟨hl, hr⟩ := hr
  by_cases hne : l = []
  · subst hne
    have : l' = [] := List.eq_nil_of_length_eq_zero (by simpa using hl)
    subst this
    exact .roNil _ _ _ (hnone rfl)
  · obtain ⟨b, off, rfl, hlt, hgood, hc⟩ := hsome hne
    obtain ⟨g1, g2⟩ := t.good hgood
    rw [← hl]
    refine .ro out l' s b off cap (fun i j => (w.cell? ⟨b, off + i * s + j, none⟩).getD undef) (fun e => hne (List.eq_nil_of_length_eq_zero (by rw [← hl, e]; rfl))) g1 g2 hlt (fun e he => ?_) (by omega) (fun i e j x h1 h2 => ?_) (fun i e j x h1 h2 => ?_)
    · obtain ⟨i, hi⟩ := List.mem_iff_getElem?.1 he
      obtain ⟨el, h1, h2, _⟩ := hr i e hi
      rw [h2]; exact hs el (List.mem_of_getElem? h1)
    · obtain ⟨el, q1, q2, q3⟩ := hr i e h1
      obtain ⟨y, q4, q5⟩ := q3 j x h2
      obtain ⟨v, p1, p2, p3⟩ := hc i el j y q1 q4
      exact ⟨by rw [p1]; rfl, by rw [q5.1]; exact p3⟩
    · obtain ⟨el, q1, q2, q3⟩ := hr i e h1
      obtain ⟨y, q4, q5⟩ := q3 j x h2
      obtain ⟨v, p1, p2, p3⟩ := hc i el j y q1 q4
      simp only [p1, Option.getD_some]
      exact q5.2 X w m B v m2 H2 B2 st p2 t
theorem carry_sound {out : Bool} {H : AHeap} : ∀ (d : Nat) (x y : AV), carry out H d x = some y → Car out H x y := by
  intro d
  induction d with
  | zero => intro x y h; cases h
  | succ d ih =>
    have lst : ∀ (l l' : List AV), carL (carry out H d) l = some l' → l'.length = l.length ∧ ∀ (i : Nat) y, l'[i]? = some y → ∃ x, l[i]? = some x ∧ Car out H x y := carL_spec ih
    have idx : ∀ {X : AHeap} {w : World} {m : AMap} {B : Nat} {m2 : AMap} {H2 : AHeap} {B2 : Nat}, St w m (H ++ X) B → Tgt out B m2 B2 → ∀ {l l' : List AV} {vs : Array Value}, carL (carry out H d) l = some l' → (∀ (i : Nat) (x : AV) (v : Value), l[i]? = some x → vs[i]? = some v → RV w m (H ++ X) B x v) →
        ∀ (i : Nat) (x : AV) (v : Value), l'[i]? = some x → vs[i]? = some v → RV w m2 H2 B2 x v := by
      intro X w m B m2 H2 B2 st t l l' vs hl hv i x v e1 e2
      obtain ⟨y, q1, q2⟩ := (lst l l' hl).2 i x e1
      exact q2.2 X w m B v m2 H2 B2 st (hv i y v q1 e2) t
    have ones : ∀ {l l' : List AV}, carL (carry out H d) l = some l' → (∀ x, x ∈ l → x.one = true) → ∀ x, x ∈ l' → x.one = true := by
      intro l l' hl h1 x hx
      obtain ⟨i, hi⟩ := List.mem_iff_getElem?.1 hx
      obtain ⟨y, q1, q2⟩ := (lst l l' hl).2 i x hi
      rw [q2.1]; exact h1 y (List.mem_of_getElem? q1)
    have places : ∀ {X : AHeap} {w : World} {m : AMap} {B : Nat} {m2 : AMap} {H2 : AHeap} {B2 : Nat}, St w m (H ++ X) B → Tgt out B m2 B2 → ∀ {l l' : List AV} {b off : Nat}, carL (carry out H d) l = some l' → b < w.heap.size → (out = false ∨ B ≤ b) →
        (∀ (j : Nat) (x : AV), l[j]? = some x → ∃ v, w.cell? ⟨b, off + j, none⟩ = some v ∧ RV w m (H ++ X) B x v ∧ x.one = true) → RV w m2 H2 B2 (.rop l') (.pointer (some ⟨b, off, none⟩)) := by
      intro X w m B m2 H2 B2 st t l l' b off hl hlt hgood hc
      obtain ⟨g1, g2⟩ := t.good hgood
      refine .rop l' b off (fun j => (w.cell? ⟨b, off + j, none⟩).getD undef) g1 hlt (fun j x h1 => ?_) (fun j x h1 => ?_)
      · obtain ⟨y, q1, q2⟩ := (lst l l' hl).2 j x h1
        obtain ⟨v, p1, p2, p3⟩ := hc j y q1
        exact ⟨by rw [p1]; rfl, by rw [q2.1]; exact p3⟩
      · obtain ⟨y, q1, q2⟩ := (lst l l' hl).2 j x h1
        obtain ⟨v, p1, p2, p3⟩ := hc j y q1
        simp only [p1, Option.getD_some]
        exact q2.2 X w m B v m2 H2 B2 st p2 t
    intro x y h
    cases x with
    | bool b => cases h; exact ⟨rfl, fun X w m B v m2 H2 B2 st hv t => hv.simple rfl⟩
    | int k n => cases h; exact ⟨rfl, fun X w m B v m2 H2 B2 st hv t => hv.simple rfl⟩
    | str s => cases h; exact ⟨rfl, fun X w m B v m2 H2 B2 st hv t => hv.simple rfl⟩
    | nilFunc => cases h; exact ⟨rfl, fun X w m B v m2 H2 B2 st hv t => by cases hv; constructor⟩
    | nilIface => cases h; exact ⟨rfl, fun X w m B v m2 H2 B2 st hv t => by cases hv; constructor⟩
    | nilPtr => cases h; exact ⟨rfl, fun X w m B v m2 H2 B2 st hv t => by cases hv; constructor⟩
    | nilSlice => cases h; exact ⟨rfl, fun X w m B v m2 H2 B2 st hv t => by cases hv; constructor⟩
    | iface ty v =>
      simp only [carry] at h
      split at h
      · rename_i z hz
        cases h
        refine ⟨rfl, fun X w m B u m2 H2 B2 st hv t => ?_⟩
        cases hv with
        | iface _ _ u' hu => exact .iface _ _ _ ((ih _ _ hz).2 X w m B u' m2 H2 B2 st hu t)
      · cases h
    | func fn a b =>
      simp only [carry] at h
      split at h
      · rename_i a' b' ha hb
        cases h
        refine ⟨rfl, fun X w m B u m2 H2 B2 st hv t => ?_⟩
        cases hv with
        | func _ _ _ f' c' hf hc h1 h2 => exact .func _ _ _ _ _ (by rw [(lst _ _ ha).1]; exact hf) (by rw [(lst _ _ hb).1]; exact hc) (idx st t ha h1) (idx st t hb h2)
      · cases h
    | agg cs =>
      simp only [carry] at h
      split at h
      · rename_i l hl
        cases h
        refine ⟨rfl, fun X w m B u m2 H2 B2 st hv t => ?_⟩
        cases hv with
        | agg _ vs hlen h1 hh => exact .agg _ _ (by rw [(lst _ _ hl).1]; exact hlen) (ones hl h1) (idx st t hl hh)
      · cases h
    | tuple cs =>
      simp only [carry] at h
      split at h
      · rename_i l hl
        cases h
        refine ⟨rfl, fun X w m B u m2 H2 B2 st hv t => ?_⟩
        cases hv with
        | tuple _ vs hlen hh => exact .tuple _ _ (by rw [(lst _ _ hl).1]; exact hlen) (idx st t hl hh)
      · cases h
    | ro fr l =>
      simp only [carry] at h
      split at h
      · rename_i hcond
        split at h
        · rename_i l' hl
          cases h
          refine ⟨rfl, fun X w m B u m2 H2 B2 st hv t => ?_⟩
          have hrows := carR_spec ih l l' hl
          cases hv with
          | roNil _ a cap ha => exact car_rows st t hrows (s := 0) (fun _ => ha) (Nat.zero_le _) (by simp) (fun e => absurd rfl e)
          | ro _ _ s b off cap vs hne hb hfr hlt hs hcap hc hv =>
            refine car_rows st t hrows (fun e => absurd e hne) hcap hs fun _ => ⟨b, off, rfl, hlt, ?_, fun i e j x h1 h2 => ⟨vs i j, (hc i e j x h1 h2).1, hv i e j x h1 h2, (hc i e j x h1 h2).2⟩⟩
            rcases hcond with h | h | h
            · exact .inl h
            · exact .inr (hfr h)
            · exact absurd h hne
        · cases h
      · cases h
    | full l =>
      simp only [carry] at h
      split at h
      · rename_i hcond
        split at h
        · rename_i l' hl
          cases h
          refine ⟨rfl, fun X w m B u m2 H2 B2 st hv t => ?_⟩
          have hrows := carR_spec ih l l' hl
          cases hv with
          | full _ n ad hv =>
            obtain ⟨x0, hx0⟩ : ∃ x0, x0 = AV.ro false l := ⟨_, rfl⟩
            obtain ⟨v0, hv0⟩ : ∃ v0, v0 = Value.slice ad n n := ⟨_, rfl⟩
            rw [← hx0, ← hv0] at hv
            rw [← hv0]
            cases hv with
            | roNil _ a cap ha =>
              cases hx0
              exact car_rows st t hrows (s := 0) (fun _ => ha) (Nat.zero_le _) (by simp) (fun e => absurd rfl e)
            | ro _ _ s b off cap vs hne hb hfr hlt hs hcap hc hv =>
              cases hx0
              exact car_rows st t hrows (fun e => absurd e hne) hcap hs fun _ => ⟨b, off, rfl, hlt, .inl hcond, fun i e j x h1 h2 => ⟨vs i j, (hc i e j x h1 h2).1, hv i e j x h1 h2, (hc i e j x h1 h2).2⟩⟩
            | _ => cases hx0
        · cases h
      · cases h
    | junk => cases h
    | own h' ver i len =>
      simp only [carry] at h
      split at h
      · rename_i o ho
        split at h
        · rename_i hver
          split at h
          · rename_i l' hl
            cases h
            refine ⟨rfl, fun X w m B u m2 H2 B2 st hv t => ?_⟩
            have hrows := carR_spec ih _ l' hl
            have hox : AHeap.obj (H ++ X) h' = some o := by rw [AHeap.obj_push_lt (AHeap.obj_lt ho)]; exact ho
            cases hv with
            | own _ _ _ _ a n cap hh hvv =>
              obtain ⟨b, q1, q2, q3, q4, q5, q6, q7⟩ := (hvv o hox).2 hver
              obtain ⟨g1, g2, o', cs, e1, e2, e3, e4⟩ := st.dom h' b q1
              rw [hox] at e1; cases e1
              have hlen : ((o.elems.drop i).take len).length = len := by simp; omega
              have key := car_rows (H2 := H2) st t hrows (ad := a) (cap := cap) (s := o.s) (fun _ e => by
                rcases Nat.eq_zero_or_pos cap with h0 | h0
                · exact h0
                · rw [q2 (.inl h0)] at e; cases e) (by rw [hlen]; exact q5) (fun e he => e3 e (List.mem_of_mem_drop (List.mem_of_mem_take he))) (fun hne => ⟨b, i * o.s, q2 (.inl (by
                  rcases Nat.eq_zero_or_pos cap with h0 | h0
                  · exact absurd (List.eq_nil_of_length_eq_zero (by rw [hlen]; omega)) hne
                  · exact h0)), g2, .inr g1, fun i' e j x h1 h2 => by
                    rw [List.getElem?_take] at h1
                    split at h1
                    · rw [List.getElem?_drop] at h1
                      have := st.cell q1 hox h1 h2
                      rw [show (i + i') * o.s + j = i * o.s + i' * o.s + j by rw [Nat.add_mul]] at this
                      exact this
                    · cases h1⟩)
              rw [hlen] at key
              rw [q3]; exact key
          · cases h
        · cases h
      · cases h
    | ptr h' ver i j =>
      simp only [carry] at h
      split at h
      · rename_i cells hc
        split at h
        · rename_i l hl
          cases h
          refine ⟨rfl, fun X w m B u m2 H2 B2 st hv t => ?_⟩
          simp only [deref] at hc
          split at hc
          · rename_i o ho
            split at hc
            · rename_i hver
              split at hc
              · rename_i el hel
                cases hc
                have hox : AHeap.obj (H ++ X) h' = some o := by rw [AHeap.obj_push_lt (AHeap.obj_lt ho)]; exact ho
                cases hv with
                | ptr _ _ _ _ a hh hvv =>
                  obtain ⟨b, q1, q2⟩ := (hvv o hox).2 hver
                  obtain ⟨g1, g2, _⟩ := st.dom h' b q1
                  subst q2
                  refine places st t hl g2 (.inr g1) fun k x hk => ?_
                  rw [List.getElem?_drop] at hk
                  have := st.cell q1 hox hel hk
                  rwa [← Nat.add_assoc] at this
              · cases hc
            · cases hc
          · cases hc
        · cases h
      · cases h
    | rop cells =>
      simp only [carry] at h
      split at h
      · rename_i hout
        split at h
        · rename_i l hl
          cases h
          refine ⟨rfl, fun X w m B u m2 H2 B2 st hv t => ?_⟩
          cases hv with
          | rop _ b off vs hb hlt hc hv => exact places st t hl hlt (.inl hout) fun j x hj => ⟨vs j, (hc j x hj).1, hv j x hj, (hc j x hj).2⟩
        · cases h
      · cases h
theorem frz_of {H : AHeap} {d : Nat} {x y : AV} (h : carry false H d x = some y) (X : AHeap) : Frz (H ++ X) x y :=
  fun w m B v st hv => (carry_sound d x y h).2 X w m B v _ _ _ st hv ⟨fun e => (by cases e), fun _ _ => rfl⟩
theorem frzL_of {H : AHeap} {d : Nat} : ∀ {xs ys : List AV}, carL (carry false H d) xs = some ys → ∀ X, FrzL (H ++ X) xs ys
  | [], ys, h, X => by cases h; exact .nil
  | x :: r, ys, h, X => by
    simp only [carL] at h
    split at h
    · rename_i y l h1 h2
      cases h
      exact .cons (frz_of h1 X) (frzL_of h2 X)
    · cases h
theorem frzL_of' {H : AHeap} {d : Nat} {xs ys : List AV} (h : carL (carry false H d) xs = some ys) : FrzL H xs ys := by
  have := frzL_of h []
  rwa [List.append_nil] at this
theorem out_of {H : AHeap} {d : Nat} {x y : AV} (h : carry true H d x = some y) : Out H x y := by
  intro w m B v st hv m' H' B' hB hm
  have := (carry_sound d x y h).2 [] w m B v m' H' B' (by rw [List.append_nil]; exact st) (by rw [List.append_nil]; exact hv)
  exact this ⟨fun _ => ⟨hB, hm⟩, fun e => by cases e⟩
end Go.Awp
