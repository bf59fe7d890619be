/- From a contract on plain data to a given statement about a function that answers one bool. -/
import Derived.Test.YtepnijjgdhldeaaLza
import Derived.WalkKit
import Derived.ProofKit
import Derived.OpenShut
import Derived.ShutString
import Derived.ChangeOld
import Derived.Below
namespace Go.Awp
open Go.ChangeShapes Go.WideShapes Go.ChangeAt Go.RowKit Go.Deep
inductive LFits : List Cs → List AV → Prop
  | nil : LFits [] []
  | cons {c : Cs} {x : AV} {l : List Cs} {r : List AV} (h : Fits c x) (t : LFits l r) : LFits (c :: l) (x :: r)
theorem lfits_of : ∀ {l : List Cs} {ys : List AV}, ys.length = l.length → (∀ (i : Nat) c y, l[i]? = some c → ys[i]? = some y → Fits c y) → LFits l ys
  | [], [], _, _ => .nil
  | [], _ :: _, h, _ => by simp at h
  | _ :: _, [], h, _ => by simp at h
  | c :: l, y :: ys, h, hh => .cons (hh 0 c y rfl rfl) (lfits_of (by simpa using h) fun i c' y' h1 h2 => hh (i + 1) c' y' h1 h2)
def shape (P : Program) (t : TypeId) : Option (Bool × List Cs) :=
  match P.underlying t with
  | some (.struct _) | some (.array _ _) => (flat P 9 t).map (true, ·)
  | _ => (match flat P 9 t with
    | some [c] => some (false, [c])
    | _ => none)
inductive PFits : Bool × List Cs → AV → Prop
  | agg {l : List Cs} {ys : List AV} (h : LFits l ys) : PFits (true, l) (.agg ys)
  | one {c : Cs} {x : AV} (h : Fits c x) : PFits (false, [c]) x
inductive PFitsL : List (Bool × List Cs) → List AV → Prop
  | nil : PFitsL [] []
  | cons {q : Bool × List Cs} {x : AV} {l : List (Bool × List Cs)} {r : List AV} (h : PFits q x) (t : PFitsL l r) : PFitsL (q :: l) (x :: r)
section
variable {H : Type} {enc : TypeId × Value → H} {P : Program} {w : World}
theorem open_param {t : TypeId} {q : Bool × List Cs} (hs : shape P t = some q) {b0 : Nat} {v : Value} (hv : Value.okWide P w .any b0 t v) {d : DataW H} {ps : List MemPlace} (hd : DataW.Trod enc P w 0 (fun _ => true) true t v d ps) :
    ∃ x, PFits q x ∧ RV w (fun _ => none) [] w.heap.size x v := by
  have agg : (∃ cs, v = .agg cs) → ∀ l, flat P 9 t = some l → ∃ x, PFits (true, l) x ∧ RV w (fun _ => none) [] w.heap.size x v := by
    rintro ⟨cs, rfl⟩ l hl
    obtain ⟨xs, h1, h2, h3⟩ := open_agg hl hd
    exact ⟨_, .agg (lfits_of h1 h2), h3⟩
  have cell : v.cells.toList = [v] → ∀ c, flat P 9 t = some [c] → ∃ x, PFits (false, [c]) x ∧ RV w (fun _ => none) [] w.heap.size x v := by
    intro hv c hl
    obtain ⟨x, h1, h2⟩ := open_cell hl hv hd
    exact ⟨_, .one h1, h2⟩
  unfold shape at hs
  split at hs
  · rename_i fs hu
    obtain ⟨cs, h1, _⟩ := okWide_struct hu hv
    cases hl : flat P 9 t with
    | none => rw [hl] at hs; cases hs
    | some l => rw [hl] at hs; cases hs; exact agg ⟨cs, h1⟩ l hl
  · rename_i n e hu
    have : ∃ cs, v = .agg cs := by
      simp only [Value.okWide, hu] at hv
      obtain ⟨cs, h1, _⟩ := hv
      exact ⟨cs, h1⟩
    cases hl : flat P 9 t with
    | none => rw [hl] at hs; cases hs
    | some l => rw [hl] at hs; cases hs; exact agg this l hl
  · rename_i g1 g2
    split at hs
    · rename_i c hl
      cases hs
      refine cell ?_ c hl
      unfold flat at hl
      split at hl
      · rename_i hu; obtain ⟨n, rfl⟩ := okWide_int hu hv; rfl
      · rename_i hu; obtain ⟨n, rfl⟩ := okWide_bool hu hv; rfl
      · rename_i hu; obtain ⟨n, rfl⟩ := okWide_string hu hv; rfl
      · rename_i hu; obtain ⟨a, n, k, rfl⟩ := okWide_slice hu hv; rfl
      · rename_i fs hu; exact absurd hu (g1 fs)
      · rename_i n e hu; exact absurd hu (g2 n e)
      · cases hl
    · cases hs
theorem open_params : ∀ {ts : List TypeId} {qs : List (Bool × List Cs)} {vs : List Value} {ds : List (DataW H)} {ps : List MemPlace} {b0 : Nat}, ts.map (shape P) = qs.map some → (∀ (j : Nat) t v, ts[j]? = some t → vs[j]? = some v → Value.okWide P w .any b0 t v) → DataW.TrodAll enc P w 0 (fun _ => true) true ts vs ds ps →
    ∃ xs, PFitsL qs xs ∧ xs.length = vs.length ∧ ∀ (i : Nat) x v, xs[i]? = some x → vs[i]? = some v → RV w (fun _ => none) [] w.heap.size x v
  | [], qs, vs, ds, ps, b0, hq, hv, h => by
    obtain ⟨rfl, rfl, rfl⟩ := trodAll_nil h
    cases qs with
    | nil => exact ⟨[], .nil, rfl, fun i x v h => by simp at h⟩
    | cons q l => simp at hq
  | t :: ts, qs, vs, ds, ps, b0, hq, hv, h => by
    obtain ⟨v, vs, d, ds, p, q, rfl, rfl, rfl, h1, h2⟩ := trodAll_cons h
    cases qs with
    | nil => simp at hq
    | cons q0 l =>
      simp only [List.map_cons, List.cons.injEq] at hq
      obtain ⟨x, x1, x2⟩ := open_param hq.1 (hv 0 t v rfl rfl) h1
      obtain ⟨xs, y1, y2, y3⟩ := open_params hq.2 (fun j t' v' a b => hv (j + 1) t' v' a b) h2
      refine ⟨x :: xs, .cons x1 y1, by simp [y2], fun i x' v' a b => ?_⟩
      cases i with
      | zero => cases a; cases b; exact x2
      | succ i => exact y3 i x' v' a b
theorem trodAll_stays (hl : laidOutB P = true) {W' : World} (hb : Below w.heap.size w W') : ∀ {ts : List TypeId} {vs : List Value} {ds : List (DataW H)} {ps : List MemPlace}, (ts.all fun t => P.readableRec t && decide (t < P.types.size)) = true →
    DataW.TrodAll enc P w 0 (fun _ => true) true ts vs ds ps → DataW.TrodAll enc P W' 0 (fun b => decide (b < w.heap.size)) true ts vs ds ps
  | [], vs, ds, ps, _, h => by
    obtain ⟨rfl, rfl, rfl⟩ := trodAll_nil h
    exact trodAll_mk0
  | t :: ts, vs, ds, ps, hr, h => by
    obtain ⟨v, vs, d, ds, p, q, rfl, rfl, rfl, h1, h2⟩ := trodAll_cons h
    simp only [List.all_cons, Bool.and_eq_true, decide_eq_true_eq] at hr
    have lt0 : ∀ x ∈ p, x.block < w.heap.size := by
      obtain ⟨m, hm⟩ := h1; exact DataW.trod_lt m _ _ _ hm
    exact trodAll_cons_mk (Below.trod hl hr.1.1 hr.1.2 h1 hb lt0) (trodAll_stays hl hb hr.2 h2)
end
theorem lifted_of {H : Type} {enc : TypeId × Value → H} {a : Assume} {C : Checked} {os : Os} {f : FuncId} {fn : Func} {s : ChangeSpec} {conds : List PathCond} {ts : List TypeId} {qs : List (Bool × List Cs)} {tb : TypeId}
    (own : ownKnob C.prog.godebug = none) (started : os.Started) (noInit : C.prog.inits.idxOf? f = none) (hfn : C.prog.funcs[f]? = some fn)
    (witness : ∃ (w : World) (tape : Tape) (i : Input), w.os = os ∧ (w.forCall tape i).Shaped C.prog ∧ i.vars = [] ∧ Input.okWide C.prog (w.forCall tape i) .any w.heap.size f i ∧
      s.pre6 enc C.prog fn conds false (w.forCall tape i).memory i.args ∧ a.holds C.prog (lone (Frame.enter C.prog f i.args .normal) [] (w.forCall tape i)))
    (hts : fn.params.toList = ts) (hres : fn.resultTypes = #[tb]) (hb : C.prog.underlying tb = some .bool) (hvars : s.vars = [])
    (hsp : ∀ ds : List (DataW H), ds.length = ts.length → s.fn H ds = { results := [.lit (.bool true)], args := ds })
    (hq : ts.map (shape C.prog) = qs.map some) (laidOut : laidOutB C.prog = true) (hread : (ts.all fun t => C.prog.readableRec t && decide (t < C.prog.types.size)) = true)
    (law : ∀ xs, PFitsL qs xs → PCall C.prog f xs (.bool true)) :
    ReturnsInHanded a C os f .any (s.pre6 enc C.prog fn conds false) (s.post enc C.prog fn false true false false) := by
  refine returnsInHanded_of_change own started noInit hfn witness ?_
  intro W base args ds gs before hval hW _ _
  have hW' := hW
  obtain ⟨p, q, hA, hV, rfl, hfz, hnd⟩ := hW
  rw [hts] at hA
  rw [hvars] at hV
  obtain ⟨rfl, rfl⟩ := trodVars_none hV
  obtain ⟨xs, x1, x2, x3⟩ := open_params (b0 := base) hq (fun j t v h1 h2 => hval j t v (by rw [← Array.getElem?_toList, hts]; exact h1) (by rw [← Array.getElem?_toList]; exact h2)) hA
  refine ((law xs x1).2 W args ⟨by simpa using x2, fun i x v h1 h2 => x3 i x v h1 (by rw [Array.getElem?_toList]; exact h2)⟩).mono fun e W' ⟨v, he, bel, rv⟩ => ?_
  have rv' := rv (fun _ => none) [] 0 (Nat.zero_le _) (fun _ _ h => by cases h)
  cases rv'
  have hlen : ds.length = ts.length := by
    have : ∀ {ts : List TypeId} {vs : List Value} {ds : List (DataW H)} {ps : List MemPlace}, DataW.TrodAll enc C.prog W 0 (fun _ => true) true ts vs ds ps → ds.length = ts.length := by
      intro ts
      induction ts with
      | nil => intro vs ds ps h; obtain ⟨_, rfl, _⟩ := trodAll_nil h; rfl
      | cons t ts ih =>
        intro vs ds ps h
        obtain ⟨_, _, _, _, _, _, _, rfl, _, _, h2⟩ := trodAll_cons h
        simp [ih h2]
    exact this hA
  have hs := hsp ds hlen
  refine ⟨_, he, ds, [], _, [], p, [], hW', ?_, ?_, ?_, bel.frame _, fun h => by cases h⟩
  · rw [List.append_nil, hs, hres]
    exact trodAll_mk1 ⟨1, by simp [DataW.trod, Value.cells, hb]⟩
  · rw [List.append_nil, hs, hts]
    exact trodAll_stays laidOut bel hread hA
  · rw [List.append_nil, hs, hvars]
    rfl
end Go.Awp
