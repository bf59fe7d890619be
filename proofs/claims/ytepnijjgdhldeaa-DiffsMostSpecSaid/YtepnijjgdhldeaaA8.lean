/- Small rules for the walk: objects by number, values over a call's border where lists are not known one by one. Generic in the program. -/
import Derived.Test.YtepnijjgdhldeaaA6
import Derived.Deep.Slices
import Derived.OpenShut
import Derived.WideShapes
import Derived.WalkKit
import Derived.ProofKit
import Derived.ShutString
import Derived.ChangeOld
import Derived.Below
import Derived.SizedLaws
namespace Go.Awp
set_option linter.unusedSectionVars false
variable [Fx]
theorem obj_zero {o : Option AObj} {H : AHeap} : AHeap.obj (o :: H) 0 = o := rfl
theorem obj_succ {o : Option AObj} {H : AHeap} {n : Nat} : AHeap.obj (o :: H) (n + 1) = AHeap.obj H n := by
  simp [AHeap.obj]
theorem obj_app {o : Option AObj} {X Y : AHeap} : AHeap.obj (X ++ o :: Y) X.length = o := by
  simp [AHeap.obj]
theorem obj_app_add {X Y : AHeap} {k : Nat} : AHeap.obj (X ++ Y) (X.length + k) = AHeap.obj Y k := by
  show (((X ++ Y : List (Option AObj)))[List.length X + k]?).join = (Y[k]?).join
  rw [List.getElem?_append_right (by omega)]
  congr 2; omega
theorem set_app {o p : Option AObj} {X Y : AHeap} : (X ++ o :: Y).set X.length p = X ++ p :: Y := by
  simp
theorem set_app_add {p : Option AObj} {X Y : AHeap} {k : Nat} : (X ++ Y).set (X.length + k) p = X ++ Y.set k p := by
  rw [List.set_append_right _ _ (by omega)]
  congr 2; omega
def Simple (l : List (List AV)) : Prop := ∀ el, el ∈ l → ∀ x, x ∈ el → x.simple = true
theorem carL_simple {out : Bool} {H : AHeap} {d : Nat} : ∀ {l : List AV}, (∀ x, x ∈ l → x.simple = true) → carL (carry out H (d + 1)) l = some l
  | [], _ => rfl
  | x :: r, h => by
    have h1 : carry out H (d + 1) x = some x := by
      have := h x (by simp)
      cases x <;> first | rfl | cases this
    simp only [carL, h1, carL_simple (l := r) fun y hy => h y (by simp [hy])]
theorem carR_simple {out : Bool} {H : AHeap} {d : Nat} : ∀ {l : List (List AV)}, Simple l → carR (carry out H (d + 1)) l = some l
  | [], _ => rfl
  | x :: r, h => by
    simp only [carR, carL_simple (h x (by simp)), carR_simple (l := r) fun y hy => h y (by simp [hy])]
theorem car_ro {out fr : Bool} {H : AHeap} {d : Nat} {l : List (List AV)} (hl : Simple l) (hc : out = false ∨ fr = true) : carry out H (d + 2) (.ro fr l) = some (.ro out l) := by
  have : out = false ∨ fr = true ∨ l = [] := by rcases hc with h | h <;> simp [h]
  rw [show carry out H (d + 2) (.ro fr l) = (if out = false ∨ fr = true ∨ l = [] then (match carR (carry out H (d + 1)) l with | some l' => some (.ro out l') | none => none) else none) from rfl, if_pos this, carR_simple hl]
theorem car_ro_false {fr : Bool} {H : AHeap} {d : Nat} {l : List (List AV)} (hl : Simple l) : carry false H (d + 2) (.ro fr l) = some (.ro false l) := car_ro hl (.inl rfl)
theorem car_own {out : Bool} {H : AHeap} {d h : Nat} {o : AObj} (ho : AHeap.obj H h = some o) (hl : Simple o.elems) : carry out H (d + 2) (.own h o.elems.length 0 o.elems.length) = some (.ro out o.elems) := by
  rw [show carry out H (d + 2) (.own h o.elems.length 0 o.elems.length) = (match AHeap.obj H h with | some p => if o.elems.length = p.elems.length then (match carR (carry out H (d + 1)) ((p.elems.drop 0).take o.elems.length) with | some l' => some (.ro out l') | none => none) else none | none => none) from rfl, ho]
  simp only [if_true, List.drop_zero, List.take_length, carR_simple hl]
theorem car_agg {out : Bool} {H : AHeap} {d : Nat} {cs l : List AV} (h : carL (carry out H d) cs = some l) : carry out H (d + 1) (.agg cs) = some (.agg l) := by
  rw [show carry out H (d + 1) (.agg cs) = (match carL (carry out H d) cs with | some l => some (.agg l) | none => none) from rfl, h]
theorem carL_cons {f : AV → Option AV} {x y : AV} {r l : List AV} (h1 : f x = some y) (h2 : carL f r = some l) : carL f (x :: r) = some (y :: l) := by simp only [carL, h1, h2]
/-- An empty slice, as plain data. -/
theorem frz_nil {H : AHeap} {b : Bool} : Frz H .nilSlice (.ro b []) := fun w m B v st hv => by
  cases hv with
  | nilSlice a => exact .roNil _ _ _ fun _ => rfl
theorem frz_car {H : AHeap} {d : Nat} {x y : AV} (h : carry false H d x = some y) : Frz H x y := by
  have := frz_of h []
  rwa [List.append_nil] at this
end Go.Awp
/- The walk's rules in one bundle. -/
namespace Go.Awp
set_option linter.unusedSectionVars false
variable [Fx]
theorem sstep_store {s : Nat} {g : Bool} {x v : Operand} {env : AEnv} {H : AHeap} : sstep (.store s g x v) env H = (match ev env x, ev env v with
    | some (.ptr h ver i j), some y => (match AHeap.obj H h with
      | some o => (match o.elems[i]? with
        | some e => if ver = o.elems.length ∧ y.cells.length = s ∧ y.isTuple = false ∧ j + s ≤ e.length then some (none, H.set h (some { o with elems := o.elems.set i (setMany e j y.cells) })) else none
        | none => none)
      | none => none)
    | _, _ => none) := rfl
theorem walk : (type_of% @sstep_store) ∧  (type_of% @a_mknil) ∧ (type_of% @awp_seq) ∧ (type_of% @awp_ops) ∧ (type_of% @awp_trim) ∧ (type_of% @awp_skip) ∧ (type_of% @awp_cond) ∧ (type_of% @awp_block) ∧ (type_of% @awp_exit) ∧ (type_of% @awp_ret) ∧ (type_of% @awp_label) ∧ (type_of% @awp_goto) ∧ (type_of% @awp_opsD) ∧ (type_of% @postK_app) ∧ (type_of% @tlK_app) ∧ (type_of% @then_normal) ∧ (type_of% @then_exit) ∧ (type_of% @then_ret) ∧ (type_of% @then_goto) ∧ (type_of% @block_normal) ∧ (type_of% @block_ret) ∧ (type_of% @block_goto) ∧ (type_of% @block_exit) ∧ (type_of% @block_exit_ne) ∧ (type_of% @loop_normal) ∧ (type_of% @loop_exit) ∧ (type_of% @loop_ret) ∧ (type_of% @loop_goto) ∧ (type_of% @scope_normal) ∧ (type_of% @scope_exit) ∧ (type_of% @scope_ret) ∧ (type_of% @scope_goto) ∧ (type_of% @ops_nil) ∧ (type_of% @ops_none) ∧ (type_of% @ops_some) ∧ (type_of% @opsK_app) ∧ (type_of% @gOn_app) ∧ (type_of% @gOff_app) ∧ (type_of% @gGone_app) ∧ (type_of% @acall_call) ∧ (type_of% @callK_app) ∧ (type_of% @callvK_app) ∧ (type_of% @withRes_val) ∧ (type_of% @withRes_skip) ∧ (type_of% @withQR_val) ∧ (type_of% @withQR_box) ∧ (type_of% @withQR_arr) ∧ (type_of% @withArgs_some) ∧ (type_of% @withGuard_tt) ∧ (type_of% @withGuard_ff) ∧ (type_of% @withGuard_tf) ∧ (type_of% @withGuard_ft) ∧ (type_of% @withGuard_gone) ∧ (type_of% @withBool_t) ∧ (type_of% @withBool_f) ∧ (type_of% @condK_app) ∧ (type_of% @post_ret) ∧ (type_of% @post_normal) ∧ (type_of% @D1_nil) ∧ (type_of% @D1_none) ∧ (type_of% @D1_some) ∧ (type_of% @D2_nil) ∧ (type_of% @d1K_app) ∧ (type_of% @d1V_late) ∧ (type_of% @d1V_early) ∧ (type_of% @d1B_app) ∧ (type_of% @d1A_app) ∧ (type_of% @d1T_app) ∧ (type_of% @d1On_app) ∧ (type_of% @d1Off_app) ∧ (type_of% @d1Gone_app) ∧ (type_of% @d2V_app) ∧ (type_of% @d2L_app) ∧ (type_of% @d2W_app) ∧ (type_of% @withQ_val) ∧ (type_of% @withQ_box) ∧ (type_of% @withQ_arr) ∧ (type_of% @withT_some) ∧ (type_of% @withW_val) ∧ (type_of% @withW_skip) ∧ (type_of% @past_nil) ∧ (type_of% @past_cons) ∧ (type_of% @same_nil) ∧ (type_of% @same_cons) ∧ (type_of% @a_mv) ∧ (type_of% @d_mv) ∧ (type_of% @e_mv) ∧ (type_of% @a_pick) ∧ (type_of% @d_pick) ∧ (type_of% @e_pick) ∧ (type_of% @a_load) ∧ (type_of% @d_load) ∧ (type_of% @e_load) ∧ (type_of% @a_box) ∧ (type_of% @d_box) ∧ (type_of% @a_zero) ∧ (type_of% @d_zero) ∧ (type_of% @a_build) ∧ (type_of% @d_build) ∧ (type_of% @e_build) ∧ (type_of% @a_mklit) ∧ (type_of% @d_mklit) ∧ (type_of% @a_mkslice) ∧ (type_of% @d_mkslice) ∧ (type_of% @a_faddr) ∧ (type_of% @d_faddr) ∧ (type_of% @e_faddr) ∧ (type_of% @a_field) ∧ (type_of% @d_field) ∧ (type_of% @e_field) ∧ (type_of% @a_iaddr) ∧ (type_of% @d_iaddr) ∧ (type_of% @e_iaddr) ∧ (type_of% @a_iaddrA) ∧ (type_of% @d_iaddrA) ∧ (type_of% @e_iaddrA) ∧ (type_of% @a_indexA) ∧ (type_of% @d_indexA) ∧ (type_of% @e_indexA) ∧ (type_of% @a_indexS) ∧ (type_of% @d_indexS) ∧ (type_of% @e_indexS) ∧ (type_of% @a_slice) ∧ (type_of% @d_slice) ∧ (type_of% @e_slice) ∧ (type_of% @a_sliceS) ∧ (type_of% @d_sliceS) ∧ (type_of% @e_sliceS) ∧ (type_of% @a_slice0) ∧ (type_of% @d_slice0) ∧ (type_of% @e_slice0) ∧ (type_of% @a_extract) ∧ (type_of% @d_extract) ∧ (type_of% @e_extract) ∧ (type_of% @a_len) ∧ (type_of% @d_len) ∧ (type_of% @e_len) ∧ (type_of% @a_lenS) ∧ (type_of% @d_lenS) ∧ (type_of% @e_lenS) ∧ (type_of% @a_mm) ∧ (type_of% @d_mm) ∧ (type_of% @e_mm) ∧ (type_of% @a_un) ∧ (type_of% @d_un) ∧ (type_of% @e_un) ∧ (type_of% @a_bin) ∧ (type_of% @d_bin) ∧ (type_of% @e_bin) ∧ (type_of% @a_binB) ∧ (type_of% @d_binB) ∧ (type_of% @e_binB) ∧ (type_of% @a_eqA) ∧ (type_of% @d_eqA) ∧ (type_of% @e_eqA) ∧ (type_of% @a_conv) ∧ (type_of% @d_conv) ∧ (type_of% @e_conv) ∧ (type_of% @a_iface) ∧ (type_of% @d_iface) ∧ (type_of% @e_iface) ∧ (type_of% @a_mkfun) ∧ (type_of% @d_mkfun) ∧ (type_of% @e_mkfun) ∧ (type_of% @a_nilchk) ∧ (type_of% @d_nilchk) ∧ (type_of% @e_nilchk) ∧ (type_of% @a_store) ∧ (type_of% @e_store) ∧ (type_of% @a_append) ∧ (type_of% @e_append) ∧ (type_of% @awp_opsA) ∧ (type_of% @tP_app) ∧ (type_of% @tL_app) ∧ (type_of% @tA_app) ∧ (type_of% @T_fin) ∧ (type_of% @T_stop) ∧ (type_of% @T_pure) ∧ (type_of% @T_load) ∧ (type_of% @T_alt) ∧ (type_of% @reads_nil) ∧ (type_of% @reads_cons) ∧ (type_of% @a_slice3) ∧ (type_of% @d_slice3) ∧ (type_of% @e_slice3) ∧ (type_of% @a_clear) ∧ (type_of% @e_clear) ∧ (type_of% @a_copy) ∧ (type_of% @e_copy) ∧ (type_of% @d_call) ∧ (type_of% @d_callv) ∧ (type_of% @d_invoke) ∧ (type_of% @obj_zero) ∧ (type_of% @obj_succ) ∧ (type_of% @obj_app) ∧ (type_of% @obj_app_add) ∧ (type_of% @set_app) ∧ (type_of% @set_app_add) :=
  ⟨@sstep_store, @a_mknil, @awp_seq, @awp_ops, @awp_trim, @awp_skip, @awp_cond, @awp_block, @awp_exit, @awp_ret, @awp_label, @awp_goto, @awp_opsD, @postK_app, @tlK_app, @then_normal, @then_exit, @then_ret, @then_goto, @block_normal, @block_ret, @block_goto, @block_exit, @block_exit_ne, @loop_normal, @loop_exit, @loop_ret, @loop_goto, @scope_normal, @scope_exit, @scope_ret, @scope_goto, @ops_nil, @ops_none, @ops_some, @opsK_app, @gOn_app, @gOff_app, @gGone_app, @acall_call, @callK_app, @callvK_app, @withRes_val, @withRes_skip, @withQR_val, @withQR_box, @withQR_arr, @withArgs_some, @withGuard_tt, @withGuard_ff, @withGuard_tf, @withGuard_ft, @withGuard_gone, @withBool_t, @withBool_f, @condK_app, @post_ret, @post_normal, @D1_nil, @D1_none, @D1_some, @D2_nil, @d1K_app, @d1V_late, @d1V_early, @d1B_app, @d1A_app, @d1T_app, @d1On_app, @d1Off_app, @d1Gone_app, @d2V_app, @d2L_app, @d2W_app, @withQ_val, @withQ_box, @withQ_arr, @withT_some, @withW_val, @withW_skip, @past_nil, @past_cons, @same_nil, @same_cons, @a_mv, @d_mv, @e_mv, @a_pick, @d_pick, @e_pick, @a_load, @d_load, @e_load, @a_box, @d_box, @a_zero, @d_zero, @a_build, @d_build, @e_build, @a_mklit, @d_mklit, @a_mkslice, @d_mkslice, @a_faddr, @d_faddr, @e_faddr, @a_field, @d_field, @e_field, @a_iaddr, @d_iaddr, @e_iaddr, @a_iaddrA, @d_iaddrA, @e_iaddrA, @a_indexA, @d_indexA, @e_indexA, @a_indexS, @d_indexS, @e_indexS, @a_slice, @d_slice, @e_slice, @a_sliceS, @d_sliceS, @e_sliceS, @a_slice0, @d_slice0, @e_slice0, @a_extract, @d_extract, @e_extract, @a_len, @d_len, @e_len, @a_lenS, @d_lenS, @e_lenS, @a_mm, @d_mm, @e_mm, @a_un, @d_un, @e_un, @a_bin, @d_bin, @e_bin, @a_binB, @d_binB, @e_binB, @a_eqA, @d_eqA, @e_eqA, @a_conv, @d_conv, @e_conv, @a_iface, @d_iface, @e_iface, @a_mkfun, @d_mkfun, @e_mkfun, @a_nilchk, @d_nilchk, @e_nilchk, @a_store, @e_store, @a_append, @e_append, @awp_opsA, @tP_app, @tL_app, @tA_app, @T_fin, @T_stop, @T_pure, @T_load, @T_alt, @reads_nil, @reads_cons, @a_slice3, @d_slice3, @e_slice3, @a_clear, @e_clear, @a_copy, @e_copy, @d_call, @d_callv, @d_invoke, @obj_zero, @obj_succ, @obj_app, @obj_app_add, @set_app, @set_app_add⟩
end Go.Awp
/- What a function is handed, read from the given form of its arguments: plain data. -/
namespace Go.Awp
set_option linter.unusedSectionVars false
variable [Fx]
open Go.ChangeShapes Go.WideShapes Go.Deep
/-- What a cell of an argument may be. -/
inductive Cs where
  | int (k : IntKind)
  | bool
  | str
  | sl (bytes : Nat) (es : List Cs)
inductive Fits : Cs → AV → Prop
  | int (k : IntKind) (n : Int) (h : (Lit.int k n).wf = true) : Fits (.int k) (.int k n)
  | bool (b : Bool) : Fits .bool (.bool b)
  | str (s : ByteArray) (h : s.size ≤ maxLen) : Fits .str (.str s)
  | sl (bytes : Nat) (es : List Cs) (l : List (List AV)) (hl : l.length ≤ maxLen) (hb : l.length * bytes ≤ reachBytes) (h : ∀ row, row ∈ l → row.length = es.length)
      (hh : ∀ row, row ∈ l → ∀ (i : Nat) c y, es[i]? = some c → row[i]? = some y → Fits c y) : Fits (.sl bytes es) (.ro false l)
theorem Fits.one {c : Cs} {x : AV} (h : Fits c x) : x.one = true := by cases h <;> rfl
def flatF (P : Program) (g : TypeId → Option (List Cs)) : Nat → List Field → Option (List Cs)
  | _, [] => some []
  | off, fl :: r => if fl.offset = off then (match g fl.type, flatF P g (off + P.cellsOf fl.type) r with
    | some a, some b => if a.length = P.cellsOf fl.type then some (a ++ b) else none
    | _, _ => none) else none
def flat (P : Program) : Nat → TypeId → Option (List Cs)
  | 0, _ => none
  | f + 1, t => match P.underlying t with
    | some (.int k) => some [.int k]
    | some .bool => some [.bool]
    | some .string => some [.str]
    | some (.slice e) => (match flat P f e with
      | some es => if es.length = P.cellsOf e ∧ 0 < es.length then some [.sl (P.bytesOf e) es] else none
      | none => none)
    | some (.struct fs) => (match flatF P (flat P f) 0 fs.toList with
      | some l => if l.length = P.cellsOf t then some l else none
      | none => none)
    | some (.array n e) => (match flat P f e with
      | some es => if es.length = P.cellsOf e ∧ n * es.length = P.cellsOf t then some (List.replicate n es).flatten else none
      | none => none)
    | _ => none
theorem addr_add {b off n : Nat} : (⟨b, off, none⟩ : Addr).add n = ⟨b, off + n, none⟩ := by
  unfold Addr.add
  split
  · rename_i h; subst h; rfl
  · rfl
section
variable {H : Type} {enc : TypeId × Value → H} {P : Program} {w : World} {spare : Nat → Bool}
def Opened (w : World) (l : List Cs) (cs : List Value) : Prop := cs.length = l.length ∧ ∃ xs : List AV, xs.length = l.length ∧ ∀ (i : Nat) c y v, l[i]? = some c → xs[i]? = some y → cs[i]? = some v → Fits c y ∧ RV w (fun _ => none) [] w.heap.size y v
theorem opened_nil : Opened w [] [] := ⟨rfl, [], rfl, fun i c y v h => by simp at h⟩
theorem opened_one {c : Cs} {x : AV} {v : Value} (h : Fits c x) (hv : RV w (fun _ => none) [] w.heap.size x v) : Opened w [c] [v] :=
  ⟨rfl, [x], rfl, fun i c' y v' h1 h2 h3 => by
    cases i with
    | zero => cases h1; cases h2; cases h3; exact ⟨h, hv⟩
    | succ i => simp at h1⟩
theorem opened_append {l l' : List Cs} {cs cs' : List Value} (h : Opened w l cs) (h' : Opened w l' cs') : Opened w (l ++ l') (cs ++ cs') := by
  obtain ⟨a1, xs, a2, a3⟩ := h
  obtain ⟨b1, ys, b2, b3⟩ := h'
  refine ⟨by simp [a1, b1], xs ++ ys, by simp [a2, b2], fun i c y v h1 h2 h3 => ?_⟩
  rcases Nat.lt_or_ge i l.length with hi | hi
  · rw [List.getElem?_append_left hi] at h1
    rw [List.getElem?_append_left (by omega)] at h2 h3
    exact a3 i c y v h1 h2 h3
  · rw [List.getElem?_append_right hi] at h1
    rw [List.getElem?_append_right (by omega)] at h2 h3
    rw [a2] at h2; rw [a1] at h3
    exact b3 _ c y v h1 h2 h3
theorem weightsAll_mem {P : Program} {e : TypeId} {d : DataW H} {x : Nat} (hx : x ∈ d.weights P e) : ∀ {l : List (DataW H)}, d ∈ l → x ∈ DataW.weightsAll P e l
  | [], h => by cases h
  | a :: l, h => by
    unfold DataW.weightsAll
    rcases List.mem_cons.1 h with rfl | h
    · exact List.mem_append_left _ hx
    · exact List.mem_append_right _ (weightsAll_mem hx h)
theorem weightsEach_mem {P : Program} {d : DataW H} {t : TypeId} {x : Nat} (hx : x ∈ d.weights P t) : ∀ {ts : List TypeId} {l : List (DataW H)} {i : Nat}, ts[i]? = some t → l[i]? = some d → x ∈ DataW.weightsEach P ts l
  | [], l, i, h, _ => by simp at h
  | _ :: _, [], i, _, h => by simp at h
  | u :: ts, a :: l, i, h1, h2 => by
    unfold DataW.weightsEach
    cases i with
    | zero => cases h1; cases h2; exact List.mem_append_left _ hx
    | succ i => exact List.mem_append_right _ (weightsEach_mem hx (i := i) h1 h2)
def Slim (P : Program) (t : TypeId) (d : DataW H) : Prop := ∀ x, x ∈ d.weights P t → x ≤ reachBytes
theorem open_flatF {g : TypeId → Option (List Cs)} {m : Nat} {cs : List Value}
    (ih : ∀ t l, g t = some l → ∀ (cs : List Value) x, DataW.trod enc P w 0 spare true m t cs = some x → Slim P t x.1 → Opened w l cs) :
    ∀ (fl : List Field) (off : Nat) (l : List Cs), flatF P g off fl = some l → off + l.length = cs.length → (∀ f, f ∈ fl → ∃ y, DataW.trod enc P w 0 spare true m f.type ((cs.drop f.offset).take (P.cellsOf f.type)) = some y ∧ Slim P f.type y.1) → Opened w l (cs.drop off)
  | [], off, l, h, hl, _ => by
    cases h
    have e : cs.drop off = [] := List.drop_eq_nil_of_le (by simp at hl; omega)
    rw [e]; exact opened_nil
  | f :: r, off, l, h, hl, hx => by
    unfold flatF at h
    split at h
    · rename_i ho
      split at h
      · rename_i a b ha hb
        split at h
        · rename_i hal
          cases h
          obtain ⟨y, hy, hsl⟩ := hx f (by simp)
          have h1 := ih _ _ ha _ _ hy hsl
          rw [ho] at h1
          have h2 := open_flatF ih r _ b hb (by simp at hl; omega) fun f' hf' => hx f' (by simp [hf'])
          have := opened_append h1 h2
          have e : (cs.drop off).take (P.cellsOf f.type) ++ cs.drop (off + P.cellsOf f.type) = cs.drop off := by
            rw [← List.drop_drop]; exact List.take_append_drop ..
          rwa [e] at this
        · cases h
      · cases h
    · cases h
theorem open_array {m n s : Nat} {e : TypeId} {es : List Cs} (hs : es.length = s) {cs : List Value}
    (ih : ∀ (cs : List Value) x, DataW.trod enc P w 0 spare true m e cs = some x → Slim P e x.1 → Opened w es cs) :
    ∀ (k i : Nat), i + k = n → n * s = cs.length → (∀ i, i < n → ∃ y, DataW.trod enc P w 0 spare true m e ((cs.drop (i * s)).take s) = some y ∧ Slim P e y.1) → Opened w (List.replicate k es).flatten (cs.drop (i * s))
  | 0, i, hi, hl, _ => by
    have e : cs.drop (i * s) = [] := List.drop_eq_nil_of_le (by rw [← hl]; exact Nat.mul_le_mul_right _ (by omega))
    rw [e]; exact opened_nil
  | k + 1, i, hi, hl, hx => by
    obtain ⟨y, hy, hsl⟩ := hx i (by omega)
    have h1 := ih _ _ hy hsl
    have h2 := open_array hs ih k (i + 1) (by omega) hl hx
    have := opened_append h1 h2
    have e : (cs.drop (i * s)).take s ++ cs.drop ((i + 1) * s) = cs.drop (i * s) := by
      rw [show (i + 1) * s = i * s + s from Nat.succ_mul .., ← List.drop_drop]; exact List.take_append_drop ..
    rw [e] at this
    simpa [List.replicate_succ] using this
theorem open_flat : ∀ (f : Nat) (t : TypeId) (l : List Cs), flat P f t = some l → ∀ (fuel : Nat) (cs : List Value) (x : DataW H × List MemPlace), DataW.trod enc P w 0 spare true fuel t cs = some x → Slim P t x.1 → Opened w l cs
  | 0, t, l, h => by simp [flat] at h
  | f + 1, t, l, h => by
    intro fuel cs x hx hsl
    have ih := open_flat f
    unfold flat at h
    split at h
    · rename_i k hu
      cases h
      cases fuel with
      | zero => simp [DataW.trod] at hx
      | succ m =>
        unfold DataW.trod at hx
        rw [hu] at hx
        split at hx <;> simp_all
        rename_i k' n _
        obtain ⟨⟨rfl, hw⟩, _⟩ := hx
        exact opened_one (.int _ _ hw) (.int _ _)
    · rename_i hu
      cases h
      cases fuel with
      | zero => simp [DataW.trod] at hx
      | succ m =>
        unfold DataW.trod at hx
        rw [hu] at hx
        split at hx <;> simp_all
        exact opened_one (.bool _) (.bool _)
    · rename_i hu
      cases h
      cases fuel with
      | zero => simp [DataW.trod] at hx
      | succ m =>
        unfold DataW.trod at hx
        rw [hu] at hx
        split at hx <;> simp_all
        exact opened_one (.str _ hx.1) (.str _)
    · rename_i e hu
      split at h
      · rename_i es he
        split at h
        · rename_i hes
          cases h
          rcases open_slice hu hx with ⟨rfl, _⟩ | ⟨a, len, cap, m, n, D, Pl, rfl, hb, hl, hm, hmm, rfl, hel⟩
          · exact opened_one (.sl (P.bytesOf e) es [] (Nat.zero_le _) (by simp) (fun _ h => by cases h) (fun _ h => by cases h)) (.roNil _ _ _ fun _ => rfl)
          · rcases Nat.eq_zero_or_pos len with hz | hz
            · subst hz
              exact opened_one (.sl (P.bytesOf e) es [] (Nat.zero_le _) (by simp) (fun _ h => by cases h) (fun _ h => by cases h)) (.roNil _ _ _ fun h => by cases h)
            · have hlm : len ≤ m := by rw [hmm]; split <;> omega
              have hbytes : len * P.bytesOf e ≤ reachBytes := by
                have := hsl ((len + (m - len)) * P.bytesOf e) (by
                  unfold DataW.weights
                  simp only [hu, List.length_map, List.length_range]
                  exact List.mem_cons_self ..)
                exact Nat.le_trans (Nat.mul_le_mul_right _ (by omega)) this
              have hel2 : ∀ i, i < len → Slim P e (D i) := fun i hi x hx => hsl x (by
                unfold DataW.weights
                simp only [hu]
                exact List.mem_cons_of_mem _ (List.mem_append_left _ (weightsAll_mem hx (List.mem_map.2 ⟨i, List.mem_range.2 hi, rfl⟩))))
              have each : ∀ i, i < len → ∃ q : List AV × (Nat → Value), q.1.length = es.length ∧ ∀ j, j < es.length → w.cell? ((a.add (i * P.cellsOf e)).add j) = some (q.2 j) ∧ ∀ c y, es[j]? = some c → q.1[j]? = some y → Fits c y ∧ RV w (fun _ => none) [] w.heap.size y (q.2 j) := by
                intro i hi
                obtain ⟨cs', h1, h2⟩ := hel i (by omega)
                obtain ⟨o1, xs, o2, o3⟩ := ih e es he n cs' _ h2 (hel2 i hi)
                obtain ⟨_, hlen, hcell⟩ := World.cells?_some h1
                refine ⟨(xs, fun j => cs'.getD j default), o2, fun j hj => ?_⟩
                have hg : cs'[j]? = some (cs'.getD j default) := by simp [List.getD, List.getElem?_eq_getElem (show j < cs'.length by omega)]
                exact ⟨by rw [hcell j (by omega), hg], fun c y h1 h2 => o3 j c y _ h1 h2 hg⟩
              obtain ⟨q, hq⟩ := choose_lt each
              have c0 := ((hq 0 hz).2 0 hes.2).1
              obtain ⟨b, off, spot⟩ := a
              have hspot : spot = none := by simpa [Addr.add] using World.cell?_spot c0
              subst hspot
              have hlt : b < w.heap.size := by
                rcases Nat.lt_or_ge b w.heap.size with h | h
                · exact h
                · simp [World.cell?, Addr.add, Array.getElem?_eq_none h] at c0
              have hll : ((List.range len).map fun i => (q i).1).length = len := by simp
              have hget : ∀ (i : Nat) el, ((List.range len).map fun i => (q i).1)[i]? = some el → i < len ∧ el = (q i).1 := by
                intro i el h
                rw [List.getElem?_map] at h
                rcases Nat.lt_or_ge i len with hi | hi
                · rw [List.getElem?_range hi] at h; cases h; exact ⟨hi, rfl⟩
                · rw [List.getElem?_eq_none (by simpa using hi)] at h; cases h
              refine opened_one (x := .ro false ((List.range len).map fun i => (q i).1)) (.sl (P.bytesOf e) es _ (by rw [hll]; omega) (by rw [hll]; exact hbytes) (fun row hr => ?_) fun row hr j c y h1 h2 => ?_) ?_
              · obtain ⟨i, hi, rfl⟩ := List.mem_map.1 hr
                exact (hq i (List.mem_range.1 hi)).1
              · obtain ⟨i, hi, rfl⟩ := List.mem_map.1 hr
                have hj := (List.getElem?_eq_some_iff.1 h1).1
                exact (((hq i (List.mem_range.1 hi)).2 j hj).2 c y h1 h2).1
              · have key := RV.ro (w := w) (m := fun _ => none) (H := []) (B := w.heap.size) false ((List.range len).map fun i => (q i).1) (P.cellsOf e) b off cap (fun i j => (q i).2 j)
                  (by intro h; have := congrArg List.length h; rw [hll] at this; simp at this; omega) (fun _ h => by cases h) (fun h => by cases h) hlt
                  (fun el hel => by
                    obtain ⟨i, hi, rfl⟩ := List.mem_map.1 hel
                    rw [(hq i (List.mem_range.1 hi)).1]; exact hes.1)
                  (by rw [hll]; exact hl)
                  (fun i el j y h1 h2 => by
                    obtain ⟨hi, rfl⟩ := hget i el h1
                    have hj := (List.getElem?_eq_some_iff.1 h2).1
                    rw [(hq i hi).1] at hj
                    obtain ⟨p1, p2⟩ := (hq i hi).2 j hj
                    refine ⟨?_, (p2 _ _ (List.getElem?_eq_getElem hj) h2).1.one⟩
                    rw [addr_add, addr_add] at p1; exact p1)
                  (fun i el j y h1 h2 => by
                    obtain ⟨hi, rfl⟩ := hget i el h1
                    have hj := (List.getElem?_eq_some_iff.1 h2).1
                    rw [(hq i hi).1] at hj
                    obtain ⟨p1, p2⟩ := (hq i hi).2 j hj
                    exact (p2 _ _ (List.getElem?_eq_getElem hj) h2).2)
                rwa [hll] at key
        · cases h
      · cases h
    · rename_i fs hu
      split at h
      · rename_i l' hl
        split at h
        · rename_i hlen
          cases h
          obtain ⟨xs, n, _, hxe, hc, hxl, hf⟩ := DataW.trod_struct hu hx
          have := open_flatF (cs := cs) (m := n) (fun t l ht cs x hx hsl => ih t l ht n cs x hx hsl) fs.toList 0 l hl (by omega) fun f' hf' => by
            obtain ⟨i, hi, e⟩ := List.mem_iff_getElem.1 hf'
            have := hf i f' (by rw [← Array.getElem?_toList, List.getElem?_eq_getElem hi, e])
            rw [this]
            have hi' : i < xs.length := by simpa [hxl] using hi
            refine ⟨xs[i], List.getElem?_eq_getElem hi', fun x hx => hsl x ?_⟩
            rw [hxe]
            unfold DataW.weights
            simp only [hu]
            exact weightsEach_mem (i := i) hx (by rw [List.getElem?_map, List.getElem?_eq_getElem hi, e]; rfl) (by rw [List.getElem?_map, List.getElem?_eq_getElem hi']; rfl)
          simpa using this
        · cases h
      · cases h
    · rename_i n e hu
      split at h
      · rename_i es he
        split at h
        · rename_i hes
          cases h
          obtain ⟨xs, m, _, hxe, hc, hxl, hf⟩ := DataW.trod_array hu hx
          have := open_array (cs := cs) (n := n) (m := m) hes.1 (fun cs x hx hsl => ih e es he m cs x hx hsl) n 0 (by omega) (by rw [hc, ← hes.2, hes.1]) fun i hi => by
            rw [hf i hi]
            refine ⟨xs[i]'(by omega), List.getElem?_eq_getElem (by omega), fun x hx => hsl x ?_⟩
            rw [hxe]
            unfold DataW.weights
            simp only [hu]
            exact weightsAll_mem hx (List.mem_map.2 ⟨_, List.getElem_mem (by omega), rfl⟩)
          simpa using this
        · cases h
      · cases h
    · cases h
theorem open_cell {t : TypeId} {c : Cs} {v : Value} {d : DataW H} {ps : List MemPlace} {f : Nat} (hf : flat P f t = some [c]) (hv : v.cells.toList = [v]) (h : DataW.Trod enc P w 0 spare true t v d ps) (hsl : Slim P t d) : ∃ x, Fits c x ∧ RV w (fun _ => none) [] w.heap.size x v := by
  obtain ⟨fuel, h⟩ := h
  rw [hv] at h
  obtain ⟨_, xs, hl, hx⟩ := open_flat f t _ hf fuel _ _ h hsl
  match xs, hl with
  | [x], _ =>
    obtain ⟨p, q⟩ := hx 0 c x v rfl rfl rfl
    exact ⟨x, p, q⟩
theorem open_agg {t : TypeId} {l : List Cs} {vs : Array Value} {d : DataW H} {ps : List MemPlace} {f : Nat} (hf : flat P f t = some l) (h : DataW.Trod enc P w 0 spare true t (.agg vs) d ps) (hsl : Slim P t d) :
    ∃ xs : List AV, xs.length = l.length ∧ (∀ (i : Nat) c y, l[i]? = some c → xs[i]? = some y → Fits c y) ∧ RV w (fun _ => none) [] w.heap.size (.agg xs) (.agg vs) := by
  obtain ⟨fuel, h⟩ := h
  obtain ⟨hc, xs, hl, hx⟩ := open_flat f t l hf fuel _ _ h hsl
  have hc' : vs.size = l.length := by simpa [Value.cells] using hc
  refine ⟨xs, hl, fun i c y h1 h2 => ?_, .agg _ _ (by omega) (fun x hm => ?_) fun i y v h1 h2 => ?_⟩
  · have hi := (List.getElem?_eq_some_iff.1 h1).1
    exact (hx i c y _ h1 h2 (List.getElem?_eq_getElem (by simpa [Value.cells, hc'] using hi))).1
  · obtain ⟨i, hi, rfl⟩ := List.mem_iff_getElem.1 hm
    exact (hx i _ _ _ (List.getElem?_eq_getElem (by omega)) (List.getElem?_eq_getElem hi) (List.getElem?_eq_getElem (by simpa [Value.cells, hc', ← hl] using hi))).1.one
  · have hi := (List.getElem?_eq_some_iff.1 h1).1
    exact (hx i _ _ v (List.getElem?_eq_getElem (by omega)) h1 (by simpa [Value.cells] using h2)).2
end
end Go.Awp
/- From a contract on plain data to a given statement about a function that answers one bool. -/
namespace Go.Awp
set_option linter.unusedSectionVars false
variable [Fx]
open Go.ChangeShapes Go.WideShapes Go.ChangeAt Go.RowKit Go.Deep
inductive LFits : List Cs → List AV → Prop
  | nil : LFits [] []
  | cons {c : Cs} {x : AV} {l : List Cs} {r : List AV} (h : Fits c x) (t : LFits l r) : LFits (c :: l) (x :: r)
theorem lfits_of : ∀ {l : List Cs} {ys : List AV}, ys.length = l.length → (∀ (i : Nat) c y, l[i]? = some c → ys[i]? = some y → Fits c y) → LFits l ys
  | [], [], _, _ => .nil
  | [], _ :: _, h, _ => by simp at h
  | _ :: _, [], h, _ => by simp at h
  | c :: l, y :: ys, h, hh => .cons (hh 0 c y rfl rfl) (lfits_of (by simpa using h) fun i c' y' h1 h2 => hh (i + 1) c' y' h1 h2)
def shape (P : Program) (t : TypeId) : Option (Bool × List Cs) :=
  match P.underlying t with
  | some (.struct _) | some (.array _ _) => (flat P 9 t).map (true, ·)
  | _ => (match flat P 9 t with
    | some [c] => some (false, [c])
    | _ => none)
inductive PFits : Bool × List Cs → AV → Prop
  | agg {l : List Cs} {ys : List AV} (h : LFits l ys) : PFits (true, l) (.agg ys)
  | one {c : Cs} {x : AV} (h : Fits c x) : PFits (false, [c]) x
inductive PFitsL : List (Bool × List Cs) → List AV → Prop
  | nil : PFitsL [] []
  | cons {q : Bool × List Cs} {x : AV} {l : List (Bool × List Cs)} {r : List AV} (h : PFits q x) (t : PFitsL l r) : PFitsL (q :: l) (x :: r)
section
variable {H : Type} {enc : TypeId × Value → H} {P : Program} {w : World}
theorem open_param {t : TypeId} {q : Bool × List Cs} (hs : shape P t = some q) {b0 : Nat} {v : Value} (hv : Value.okWide P w .any b0 t v) {d : DataW H} {ps : List MemPlace} (hd : DataW.Trod enc P w 0 (fun _ => true) true t v d ps) (hsl : Slim P t d) :
    ∃ x, PFits q x ∧ RV w (fun _ => none) [] w.heap.size x v := by
  have agg : (∃ cs, v = .agg cs) → ∀ l, flat P 9 t = some l → ∃ x, PFits (true, l) x ∧ RV w (fun _ => none) [] w.heap.size x v := by
    rintro ⟨cs, rfl⟩ l hl
    obtain ⟨xs, h1, h2, h3⟩ := open_agg hl hd hsl
    exact ⟨_, .agg (lfits_of h1 h2), h3⟩
  have cell : v.cells.toList = [v] → ∀ c, flat P 9 t = some [c] → ∃ x, PFits (false, [c]) x ∧ RV w (fun _ => none) [] w.heap.size x v := by
    intro hv c hl
    obtain ⟨x, h1, h2⟩ := open_cell hl hv hd hsl
    exact ⟨_, .one h1, h2⟩
  unfold shape at hs
  split at hs
  · rename_i fs hu
    obtain ⟨cs, h1, _⟩ := okWide_struct hu hv
    cases hl : flat P 9 t with
    | none => rw [hl] at hs; cases hs
    | some l => rw [hl] at hs; cases hs; exact agg ⟨cs, h1⟩ l hl
  · rename_i n e hu
    have : ∃ cs, v = .agg cs := by
      simp only [Value.okWide, hu] at hv
      obtain ⟨cs, h1, _⟩ := hv
      exact ⟨cs, h1⟩
    cases hl : flat P 9 t with
    | none => rw [hl] at hs; cases hs
    | some l => rw [hl] at hs; cases hs; exact agg this l hl
  · rename_i g1 g2
    split at hs
    · rename_i c hl
      cases hs
      refine cell ?_ c hl
      unfold flat at hl
      split at hl
      · rename_i hu; obtain ⟨n, rfl⟩ := okWide_int hu hv; rfl
      · rename_i hu; obtain ⟨n, rfl⟩ := okWide_bool hu hv; rfl
      · rename_i hu; obtain ⟨n, rfl⟩ := okWide_string hu hv; rfl
      · rename_i hu; obtain ⟨a, n, k, rfl⟩ := okWide_slice hu hv; rfl
      · rename_i fs hu; exact absurd hu (g1 fs)
      · rename_i n e hu; exact absurd hu (g2 n e)
      · cases hl
    · cases hs
theorem open_params : ∀ {ts : List TypeId} {qs : List (Bool × List Cs)} {vs : List Value} {ds : List (DataW H)} {ps : List MemPlace} {b0 : Nat}, ts.map (shape P) = qs.map some → (∀ (j : Nat) t v, ts[j]? = some t → vs[j]? = some v → Value.okWide P w .any b0 t v) → (∀ x, x ∈ DataW.weightsEach P ts ds → x ≤ reachBytes) → DataW.TrodAll enc P w 0 (fun _ => true) true ts vs ds ps →
    ∃ xs, PFitsL qs xs ∧ xs.length = vs.length ∧ ∀ (i : Nat) x v, xs[i]? = some x → vs[i]? = some v → RV w (fun _ => none) [] w.heap.size x v
  | [], qs, vs, ds, ps, b0, hq, hv, hw, h => by
    obtain ⟨rfl, rfl, rfl⟩ := trodAll_nil h
    cases qs with
    | nil => exact ⟨[], .nil, rfl, fun i x v h => by simp at h⟩
    | cons q l => simp at hq
  | t :: ts, qs, vs, ds, ps, b0, hq, hv, hw, h => by
    obtain ⟨v, vs, d, ds, p, q, rfl, rfl, rfl, h1, h2⟩ := trodAll_cons h
    cases qs with
    | nil => simp at hq
    | cons q0 l =>
      simp only [List.map_cons, List.cons.injEq] at hq
      obtain ⟨x, x1, x2⟩ := open_param hq.1 (hv 0 t v rfl rfl) h1 (fun x hx => hw x (List.mem_append_left _ hx))
      obtain ⟨xs, y1, y2, y3⟩ := open_params hq.2 (fun j t' v' a b => hv (j + 1) t' v' a b) (fun x hx => hw x (List.mem_append_right _ hx)) h2
      refine ⟨x :: xs, .cons x1 y1, by simp [y2], fun i x' v' a b => ?_⟩
      cases i with
      | zero => cases a; cases b; exact x2
      | succ i => exact y3 i x' v' a b
theorem trodAll_stays (hl : laidOutB P = true) {W' : World} (hb : Below w.heap.size w W') : ∀ {ts : List TypeId} {vs : List Value} {ds : List (DataW H)} {ps : List MemPlace}, (ts.all fun t => P.readableRec t && decide (t < P.types.size)) = true →
    DataW.TrodAll enc P w 0 (fun _ => true) true ts vs ds ps → DataW.TrodAll enc P W' 0 (fun b => decide (b < w.heap.size)) true ts vs ds ps
  | [], vs, ds, ps, _, h => by
    obtain ⟨rfl, rfl, rfl⟩ := trodAll_nil h
    exact trodAll_mk0
  | t :: ts, vs, ds, ps, hr, h => by
    obtain ⟨v, vs, d, ds, p, q, rfl, rfl, rfl, h1, h2⟩ := trodAll_cons h
    simp only [List.all_cons, Bool.and_eq_true, decide_eq_true_eq] at hr
    have lt0 : ∀ x ∈ p, x.block < w.heap.size := by
      obtain ⟨m, hm⟩ := h1; exact DataW.trod_lt m _ _ _ hm
    exact trodAll_cons_mk (Below.trod hl hr.1.1 hr.1.2 h1 hb lt0) (trodAll_stays hl hb hr.2 h2)
end
theorem lifted_of {H : Type} {enc : TypeId × Value → H} {a : Assume} {C : Checked} {os : Os} {f : FuncId} {fn : Func} {s : ChangeSpec} {conds : List PathCond} {ts : List TypeId} {qs : List (Bool × List Cs)} {tb : TypeId}
    (own : ownKnob C.prog.godebug = none) (started : os.Started) (noInit : C.prog.inits.idxOf? f = none) (hfn : C.prog.funcs[f]? = some fn)
    (witness : ∃ (w : World) (tape : Tape) (i : Input), w.os = os ∧ (w.forCall tape i).Shaped C.prog ∧ i.vars = [] ∧ Input.okWide C.prog (w.forCall tape i) .any w.heap.size f i ∧
      s.pre6 enc C.prog fn conds false (w.forCall tape i).memory i.args ∧ a.holds C.prog (lone (Frame.enter C.prog f i.args .normal) [] (w.forCall tape i)))
    (hts : fn.params.toList = ts) (hres : fn.resultTypes = #[tb]) (hb : C.prog.underlying tb = some .bool) (hvars : s.vars = [])
    (hsp : ∀ ds : List (DataW H), ds.length = ts.length → s.fn H ds = { results := [.lit (.bool true)], args := ds })
    (hq : ts.map (shape C.prog) = qs.map some) (laidOut : laidOutB C.prog = true) (hread : (ts.all fun t => C.prog.readableRec t && decide (t < C.prog.types.size)) = true)
    (law : ∀ xs, PFitsL qs xs → PCall C.prog f xs (.bool true)) (hfx : ∀ W : World, Fx.Ok W W.heap.size) :
    ReturnsInHanded a C os f .any (s.pre6 enc C.prog fn conds false) (s.post enc C.prog fn false true false false) := by
  refine returnsInHanded_of_change_sized own started noInit hfn witness ?_
  intro W base args ds gs before hval hW _ hsz _
  have hW' := hW
  obtain ⟨p, q, hA, hV, rfl, hfz, hnd⟩ := hW
  rw [hts] at hA
  rw [hvars] at hV
  obtain ⟨rfl, rfl⟩ := trodVars_none hV
  have hvt : s.plain.varTypes C.prog = [] := by simp [ChangeSpec.plain, DataSpec.varTypes, hvars]
  rw [hvt, List.append_nil, List.append_nil, hts] at hsz
  have hsz' : ∀ x, x ∈ DataW.weightsEach C.prog ts ds → x ≤ reachBytes := fun x hx => of_decide_eq_true (List.all_eq_true.1 hsz x hx)
  obtain ⟨xs, x1, x2, x3⟩ := open_params (b0 := base) hq (fun j t v h1 h2 => hval j t v (by rw [← Array.getElem?_toList, hts]; exact h1) (by rw [← Array.getElem?_toList]; exact h2)) hsz' hA
  refine ((law xs x1).2 W args (hfx W) ⟨by simpa using x2, fun i x v h1 h2 => x3 i x v h1 (by rw [Array.getElem?_toList]; exact h2)⟩).mono fun e W' ⟨v, he, bel, rv⟩ => ?_
  have rv' := rv (fun _ => none) [] 0 (Nat.zero_le _) (fun _ _ h => by cases h)
  cases rv'
  have hlen : ds.length = ts.length := by
    have : ∀ {ts : List TypeId} {vs : List Value} {ds : List (DataW H)} {ps : List MemPlace}, DataW.TrodAll enc C.prog W 0 (fun _ => true) true ts vs ds ps → ds.length = ts.length := by
      intro ts
      induction ts with
      | nil => intro vs ds ps h; obtain ⟨_, rfl, _⟩ := trodAll_nil h; rfl
      | cons t ts ih =>
        intro vs ds ps h
        obtain ⟨_, _, _, _, _, _, _, rfl, _, _, h2⟩ := trodAll_cons h
        simp [ih h2]
    exact this hA
  have hs := hsp ds hlen
  refine ⟨_, he, ds, [], _, [], p, [], hW', ?_, ?_, ?_, bel.frame _, fun h => by cases h⟩
  · rw [List.append_nil, hs, hres]
    exact trodAll_mk1 ⟨1, by simp [DataW.trod, Value.cells, hb]⟩
  · rw [List.append_nil, hs, hts]
    exact trodAll_stays laidOut bel hread hA
  · rw [List.append_nil, hs, hvars]
    rfl
end Go.Awp
/- The walk's plain lemmas in one bundle. -/
namespace Go.Awp
set_option linter.unusedSectionVars false
variable [Fx]
theorem wl : (type_of% @Bool.not_true) ∧ (type_of% @Bool.not_false) ∧ (type_of% @true_and) ∧ (type_of% @and_true) ∧ (type_of% @List.nil_append.{0}) ∧ (type_of% @List.cons_append.{0}) ∧ (type_of% @List.drop_zero.{0}) ∧ (type_of% @List.drop_succ_cons.{0}) ∧ (type_of% @List.drop_nil.{0}) ∧ (type_of% @List.take_succ_cons.{0}) ∧ (type_of% @List.take_zero.{0}) ∧ (type_of% @List.take_nil.{0}) ∧ (type_of% @List.getElem?_cons_zero.{0}) ∧ (type_of% @List.getElem?_cons_succ.{0}) ∧ (type_of% @List.getElem?_nil.{0}) ∧ (type_of% @List.length_cons.{0}) ∧ (type_of% @List.length_nil.{0}) ∧ (type_of% @Bool.false_eq_true) ∧ (type_of% @List.set_cons_zero.{0}) ∧ (type_of% @List.set_cons_succ.{0}) ∧ (type_of% @Nat.zero_add) ∧ (type_of% @Option.getD_some.{0}) ∧ (type_of% @Option.getD_none.{0}) ∧ (type_of% @Int.toNat_natCast) ∧ (type_of% @Int.natCast_nonneg) ∧ (type_of% @List.append_assoc.{0}) ∧ (type_of% @List.length_append.{0}) ∧ (type_of% @and_self) :=
  ⟨@Bool.not_true, @Bool.not_false, @true_and, @and_true, @List.nil_append.{0}, @List.cons_append.{0}, @List.drop_zero.{0}, @List.drop_succ_cons.{0}, @List.drop_nil.{0}, @List.take_succ_cons.{0}, @List.take_zero.{0}, @List.take_nil.{0}, @List.getElem?_cons_zero.{0}, @List.getElem?_cons_succ.{0}, @List.getElem?_nil.{0}, @List.length_cons.{0}, @List.length_nil.{0}, @Bool.false_eq_true, @List.set_cons_zero.{0}, @List.set_cons_succ.{0}, @Nat.zero_add, @Option.getD_some.{0}, @Option.getD_none.{0}, @Int.toNat_natCast, @Int.natCast_nonneg, @List.append_assoc.{0}, @List.length_append.{0}, @and_self⟩
end Go.Awp
