/- Small rules for the walk: objects by number, values over a call's border where lists are not known one by one. Generic in the program. -/
import Derived.Test.YtepnijjgdhldeaaLw
namespace Go.Awp

theorem obj_zero {o : Option AObj} {H : AHeap} : AHeap.obj (o :: H) 0 = o := rfl
theorem obj_succ {o : Option AObj} {H : AHeap} {n : Nat} : AHeap.obj (o :: H) (n + 1) = AHeap.obj H n := by
  simp [AHeap.obj]
theorem obj_app {o : Option AObj} {X Y : AHeap} : AHeap.obj (X ++ o :: Y) X.length = o := by
  simp [AHeap.obj]
theorem obj_app_add {X Y : AHeap} {k : Nat} : AHeap.obj (X ++ Y) (X.length + k) = AHeap.obj Y k := by
  show (((X ++ Y : List (Option AObj)))[List.length X + k]?).join = (Y[k]?).join
  rw [List.getElem?_append_right (by omega)]
  congr 2; omega
theorem set_app {o p : Option AObj} {X Y : AHeap} : (X ++ o :: Y).set X.length p = X ++ p :: Y := by
  simp
theorem set_app_add {p : Option AObj} {X Y : AHeap} {k : Nat} : (X ++ Y).set (X.length + k) p = X ++ Y.set k p := by
  rw [List.set_append_right _ _ (by omega)]
  congr 2; omega

def Simple (l : List (List AV)) : Prop := ∀ el, el ∈ l → ∀ x, x ∈ el → x.simple = true

theorem carL_simple {out : Bool} {H : AHeap} {d : Nat} : ∀ {l : List AV}, (∀ x, x ∈ l → x.simple = true) → carL (carry out H (d + 1)) l = some l
  | [], _ => rfl
  | x :: r, h => by
    have h1 : carry out H (d + 1) x = some x := by
      have := h x (by simp)
      cases x <;> first | rfl | cases this
    simp only [carL, h1, carL_simple (l := r) fun y hy => h y (by simp [hy])]

theorem carR_simple {out : Bool} {H : AHeap} {d : Nat} : ∀ {l : List (List AV)}, Simple l → carR (carry out H (d + 1)) l = some l
  | [], _ => rfl
  | x :: r, h => by
    simp only [carR, carL_simple (h x (by simp)), carR_simple (l := r) fun y hy => h y (by simp [hy])]

theorem car_ro {out fr : Bool} {H : AHeap} {d : Nat} {l : List (List AV)} (hl : Simple l) (hc : out = false ∨ fr = true) : carry out H (d + 2) (.ro fr l) = some (.ro out l) := by
  have : out = false ∨ fr = true ∨ l = [] := by rcases hc with h | h <;> simp [h]
  rw [show carry out H (d + 2) (.ro fr l) = (if out = false ∨ fr = true ∨ l = [] then (match carR (carry out H (d + 1)) l with | some l' => some (.ro out l') | none => none) else none) from rfl, if_pos this, carR_simple hl]

theorem car_ro_false {fr : Bool} {H : AHeap} {d : Nat} {l : List (List AV)} (hl : Simple l) : carry false H (d + 2) (.ro fr l) = some (.ro false l) := car_ro hl (.inl rfl)
theorem car_ro_true {H : AHeap} {d : Nat} {l : List (List AV)} (hl : Simple l) : carry true H (d + 2) (.ro true l) = some (.ro true l) := car_ro hl (.inr rfl)

theorem car_own {out : Bool} {H : AHeap} {d h : Nat} {o : AObj} (ho : AHeap.obj H h = some o) (hl : Simple o.elems) : carry out H (d + 2) (.own h o.elems.length 0 o.elems.length) = some (.ro out o.elems) := by
  rw [show carry out H (d + 2) (.own h o.elems.length 0 o.elems.length) = (match AHeap.obj H h with | some p => if o.elems.length = p.elems.length then (match carR (carry out H (d + 1)) ((p.elems.drop 0).take o.elems.length) with | some l' => some (.ro out l') | none => none) else none | none => none) from rfl, ho]
  simp only [if_true, List.drop_zero, List.take_length, carR_simple hl]

theorem car_int {out : Bool} {H : AHeap} {d : Nat} {k : IntKind} {n : Int} : carry out H (d + 1) (.int k n) = some (.int k n) := rfl
theorem car_bool {out : Bool} {H : AHeap} {d : Nat} {b : Bool} : carry out H (d + 1) (.bool b) = some (.bool b) := rfl
theorem car_str {out : Bool} {H : AHeap} {d : Nat} {b : ByteArray} : carry out H (d + 1) (.str b) = some (.str b) := rfl
theorem car_agg {out : Bool} {H : AHeap} {d : Nat} {cs l : List AV} (h : carL (carry out H d) cs = some l) : carry out H (d + 1) (.agg cs) = some (.agg l) := by
  rw [show carry out H (d + 1) (.agg cs) = (match carL (carry out H d) cs with | some l => some (.agg l) | none => none) from rfl, h]
theorem car_tuple {out : Bool} {H : AHeap} {d : Nat} {cs l : List AV} (h : carL (carry out H d) cs = some l) : carry out H (d + 1) (.tuple cs) = some (.tuple l) := by
  rw [show carry out H (d + 1) (.tuple cs) = (match carL (carry out H d) cs with | some l => some (.tuple l) | none => none) from rfl, h]
theorem carL_nil {f : AV → Option AV} : carL f [] = some [] := rfl
theorem carL_cons {f : AV → Option AV} {x y : AV} {r l : List AV} (h1 : f x = some y) (h2 : carL f r = some l) : carL f (x :: r) = some (y :: l) := by simp only [carL, h1, h2]

/-- An empty slice, as plain data. -/
theorem frz_nil {H : AHeap} {b : Bool} : Frz H .nilSlice (.ro b []) := fun w m B v st hv => by
  cases hv with
  | nilSlice a => exact .roNil _ _ _ fun _ => rfl
theorem frz_car {H : AHeap} {d : Nat} {x y : AV} (h : carry false H d x = some y) : Frz H x y := by
  have := frz_of h []
  rwa [List.append_nil] at this

end Go.Awp
