/- What the law of texts is handed, as plain data; the world that holds the tables and the errors. -/
import Derived.Test.YtomejgikdelgkaaGreatDoorRows
import Derived.Test.YtomejgikdelgkaaGreatDoorCards
import Derived.Test.YtomejgikdelgkaaGreatDoorTie
import Derived.Test.YtomejgikdelgkaaGreatDoorProg
import Derived.Test.YtomejgikdelgkaaGreatDoorQFx
import Derived.Test.YtomejgikdelgkaaGreatDoorA7
import Derived.ChangeMaps5
import Derived.WalkKit
import Derived.ProofKit
import Derived.OpenShut
import Derived.Deep.DeepHandedRow
import Derived.Lib.LaidTab
import Derived.Stop.LaidErr
import Derived.Shelf.Vars
set_option linter.unusedVariables false
set_option linter.unusedSimpArgs false
set_option linter.unusedSectionVars false
namespace Go.Proofs.YtomejgikdelgkaaGreatDoor
open Go.ChangeShapes Go.WideShapes Go.ChangeAt Go.RowKit Go.Awp
set_option linter.unusedSimpArgs false
set_option linter.unusedVariables false
set_option maxRecDepth 100000
theorem own : ownKnob Tryz.prog.godebug = none := by kernel_rfl
theorem laidOut : laidOutB Tryz.prog = true := by kernel_rfl
abbrev tStr : Bool × List Cs := (false, [.str])
abbrev tThree : Bool × List Cs := (true, [.int .i64, .int .i64, .int .i64])
abbrev tPack : Bool × List Cs := (true, [.sl 24 [.int .i64, .int .i64, .int .i64]])
theorem shapeStr : Awp.shape Tryz.prog 9 = some tStr := by kernel_rfl
theorem shapeStep : Awp.shape Tryz.prog 23 = some tThree := by kernel_rfl
theorem shapePack : Awp.shape Tryz.prog 26 = some tPack := by kernel_rfl
theorem fits_int {x : AV} (h : Fits (.int .i64) x) : ∃ n, x = I n := by
  cases h with
  | int _ n h => exact ⟨n, rfl⟩
theorem fits_rows {x : AV} (h : Fits (.sl 24 [.int .i64, .int .i64, .int .i64]) x) : ∃ ds : List Df, x = .ro false (rows ds) ∧ ds.length * 24 ≤ reachBytes := by
  cases h with
  | sl _ _ l hl0 hl h hh =>
    have : ∀ l : List (List AV), (∀ row, row ∈ l → row.length = 3) → (∀ row, row ∈ l → ∀ (i : Nat) c y, [Cs.int .i64, .int .i64, .int .i64][i]? = some c → row[i]? = some y → Fits c y) → ∃ ds : List Df, l = rows ds := by
      intro l
      induction l with
      | nil => intro _ _; exact ⟨[], rfl⟩
      | cons r l ih =>
        intro h hh
        obtain ⟨ds, e⟩ := ih (fun row hr => h row (by simp [hr])) (fun row hr => hh row (by simp [hr]))
        match r, h r (by simp) with
        | [a, b, c], _ =>
          obtain ⟨n, rfl⟩ := fits_int (hh [a, b, c] (by simp) 0 _ a rfl rfl)
          obtain ⟨m, rfl⟩ := fits_int (hh [I n, b, c] (by simp) 1 _ b rfl rfl)
          obtain ⟨k, rfl⟩ := fits_int (hh [I n, I m, c] (by simp) 2 _ c rfl rfl)
          exact ⟨(n, m, k) :: ds, by rw [e]; rfl⟩
    obtain ⟨ds, e⟩ := this l h hh
    refine ⟨ds, by rw [e], ?_⟩
    rw [e] at hl; simpa [rows] using hl
theorem get_pack {x : AV} (h : PFits tPack x) : ∃ ds : List Df, x = .agg [.ro false (rows ds)] := by
  cases h with
  | agg h =>
    cases h with
    | cons h1 h =>
      cases h
      obtain ⟨ds, rfl, hd⟩ := fits_rows h1
      exact ⟨ds, rfl⟩
theorem get_three {x : AV} (h : PFits tThree x) : ∃ k m c, x = .agg (dc (k, m, c)) := by
  cases h with
  | agg h =>
    cases h with
    | cons h1 h =>
      cases h with
      | cons h2 h =>
        cases h with
        | cons h3 h =>
          cases h
          obtain ⟨k, rfl⟩ := fits_int h1
          obtain ⟨m, rfl⟩ := fits_int h2
          obtain ⟨c, rfl⟩ := fits_int h3
          exact ⟨k, m, c, rfl⟩
theorem get_str {x : AV} (h : PFits tStr x) : ∃ s : ByteArray, x = .str s := by
  cases h with
  | one h => cases h with
    | str s _ => exact ⟨s, rfl⟩
theorem gTab : Tryz.prog.globalNamed "internal/strconv.uint64pow10" = some 0 := by kernel_rfl
theorem gTabType : (Tryz.prog.globals[0]?).map (·.type) = some 119 := by kernel_rfl
theorem gSyn : Tryz.prog.globalNamed "strconv.ErrSyntax" = some 4 := by kernel_rfl
theorem gSynType : (Tryz.prog.globals[4]?).map (·.type) = some 90 := by kernel_rfl
theorem gRng : Tryz.prog.globalNamed "strconv.ErrRange" = some 5 := by kernel_rfl
theorem gRngType : (Tryz.prog.globals[5]?).map (·.type) = some 90 := by kernel_rfl
theorem star : "*" ++ "errors.errorString" = "*errors.errorString" := by decide
theorem row148 (u : TypeId) (h : Tryz.prog.typeName? 3 u = some "*errors.errorString") : u = 148 :=
  typeName_ptr_named (nm := "errors.errorString") (by rw [star]; kernel_rfl) (by kernel_rfl) (by decide) u (by rw [star]; exact h)
def pows : List Int := (List.range 20).map fun i => ((10 ^ i : Nat) : Int)
abbrev laids : List (String × DataW Unit) := [("math/bits.deBruijn32tab", Rows.laid_math_bits_deBruijn32tab), ("math/bits.deBruijn64tab", Rows.laid_math_bits_deBruijn64tab), ("internal/strconv.uint64pow10", Rows.laid_internal_strconv_uint64pow10), ("unicode/utf8.acceptRanges", Rows.laid_unicode_utf8_acceptRanges), ("strconv.ErrRange", Rows.laid_strconv_ErrRange), ("strconv.ErrSyntax", Rows.laid_strconv_ErrSyntax), ("unicode/utf8.first", Rows.laid_unicode_utf8_first)]
theorem var_heap {W : World} {n : String} {g : Nat} {cs : Array Value} (hg : Tryz.prog.globalNamed n = some g) (h : W.var? Tryz.prog n = some cs) : g < W.heap.size ∧ ∃ t q, W.heap[g]? = some (.cells cs t q) := by
  unfold World.var? at h
  rw [hg] at h
  simp only [Option.bind_some] at h
  cases hW : W.heap[g]? with
  | none => rw [hW] at h; simp at h
  | some o =>
    rw [hW] at h
    refine ⟨(Array.getElem?_eq_some_iff.1 hW).1, ?_⟩
    cases o with
    | cells c t q =>
      simp only [Option.some.injEq] at h
      subst h
      exact ⟨t, q, rfl⟩
    | _ => simp at h
theorem cell_heap {W : World} {g : Nat} {v : Value} (h : W.cell? ⟨g, 0, none⟩ = some v) : g < W.heap.size ∧ ∃ cs t q, W.heap[g]? = some (.cells cs t q) ∧ cs[0]? = some v := by
  unfold World.cell? at h
  cases hW : W.heap[g]? with
  | none => rw [hW] at h; simp at h
  | some o =>
    rw [hW] at h
    refine ⟨(Array.getElem?_eq_some_iff.1 hW).1, ?_⟩
    cases o with
    | cells c t q => exact ⟨c, t, q, rfl, by simpa using h⟩
    | _ => simp at h
theorem fxok (W : World) (h : laidMetH Tryz.checked.prog laids W) (hs : W.ShapedOpen Tryz.checked.prog) : Fx.Ok W W.heap.size := by
  have h1 : laidMet Tryz.prog laids W := h
  have h2 := h1.tail.tail
  have h3 : Lib.TabIs Tryz.prog W "internal/strconv.uint64pow10" .u64 pows :=
    Lib.tabIs_of_head gTab gTabType (e := 104) (n := 20) (by kernel_rfl) (by kernel_rfl) (by kernel_rfl) (by kernel_rfl) h2
  have h5 := h2.tail.tail
  obtain ⟨ar, sr, hr, -⟩ := laid_sentinel (te := 150) (ts := 9) (tp := 148) (ti := 90) h5 gRng gRngType Tryz.underlying90 row148 Tryz.underlying148 Tryz.underlying150 rfl rfl Tryz.underlying9 (by kernel_rfl) (by kernel_rfl)
  obtain ⟨ay, ss, hy, -⟩ := laid_sentinel (te := 150) (ts := 9) (tp := 148) (ti := 90) h5.tail gSyn gSynType Tryz.underlying90 row148 Tryz.underlying148 Tryz.underlying150 rfl rfl Tryz.underlying9 (by kernel_rfl) (by kernel_rfl)
  obtain ⟨m, hm⟩ := cell_of_shapedOpen_int (P := Tryz.prog) (g := 1) (t := 3) (zero := #[.int .i64 0]) hs (of_decide_eq_true (by kernel_rfl)) (by kernel_rfl) rfl (by kernel_rfl) (by kernel_rfl) Tryz.underlying3
  intro g φ hg
  simp only [Fx.tabs, List.mem_cons, List.not_mem_nil, or_false] at hg
  rcases hg with hg | hg | hg | hg
  · cases hg
    obtain ⟨q1, t, q, q2⟩ := var_heap gTab h3
    exact ⟨q1, _, t, q, q2, by simp [pows, powTab, List.map_map]⟩
  · cases hg
    obtain ⟨q1, cs, t, q, q2, q3⟩ := cell_heap hm
    exact ⟨q1, cs, t, q, q2, m, q3⟩
  · cases hg
    obtain ⟨q1, t, q, q2⟩ := var_heap gSyn hy
    exact ⟨q1, _, t, q, q2, _, _, rfl⟩
  · cases hg
    obtain ⟨q1, t, q, q2⟩ := var_heap gRng hr
    exact ⟨q1, _, t, q, q2, _, _, rfl⟩
def put (cs : Array Value) : Obj → Obj
  | .cells _ t f => .cells cs t f
  | o => o
def oneN : DataW Unit → List Value
  | .lit (.int k z) => [Value.int k z]
  | _ => []
def flatN : DataW Unit → Array Value
  | .agg l => (l.flatMap fun x => match x with | .agg m => m.flatMap oneN | y => oneN y).toArray
  | _ => #[]
noncomputable def low : Nat := (World.holding Tryz.prog default ⟨#[], #[], []⟩).heap.size
def rngS : ByteArray := { data := #[118, 97, 108, 117, 101, 32, 111, 117, 116, 32, 111, 102, 32, 114, 97, 110, 103, 101] }
def synS : ByteArray := { data := #[105, 110, 118, 97, 108, 105, 100, 32, 115, 121, 110, 116, 97, 120] }
/-- A world for the witness: the settled one, the tables holding what their initialisers lay. -/
noncomputable def laidWorld (os : Os) : World :=
  let w0 := World.holding Tryz.prog os ⟨#[.cells #[.string rngS] 150, .cells #[.string synS] 150], #[], []⟩
  { w0 with heap := ((((((w0.heap.modify 0 (put (flatN Rows.laid_internal_strconv_uint64pow10))).modify 6 (put (flatN Rows.laid_math_bits_deBruijn32tab))).modify 7 (put (flatN Rows.laid_math_bits_deBruijn64tab))).modify 3 (put (flatN Rows.laid_unicode_utf8_acceptRanges))).modify 2 (put (flatN Rows.laid_unicode_utf8_first))).modify 5 (put #[.iface 148 (.pointer (some ⟨low, 0, none⟩))])).modify 4 (put #[.iface 148 (.pointer (some ⟨low + 1, 0, none⟩))]) }
theorem trodAll_get {H : Type} {enc : TypeId × Value → H} {P : Program} {W : World} : ∀ {ts : List TypeId} {vs : List Value} {ds : List (DataW H)} {ps : List MemPlace} {j : Nat} {t : TypeId}, DataW.TrodAll enc P W 0 (fun _ => true) true ts vs ds ps → ts[j]? = some t →
    ∃ v d p, vs[j]? = some v ∧ ds[j]? = some d ∧ DataW.Trod enc P W 0 (fun _ => true) true t v d p
  | [], vs, ds, ps, j, t, h, ht => by simp at ht
  | t0 :: ts, vs, ds, ps, j, t, h, ht => by
    obtain ⟨v, vs', d, ds', p, q, rfl, rfl, rfl, h1, h2⟩ := trodAll_cons h
    cases j with
    | zero => cases ht; exact ⟨v, d, p, rfl, rfl, h1⟩
    | succ j =>
      obtain ⟨v', d', p', e1, e2, e3⟩ := trodAll_get (j := j) h2 ht
      exact ⟨v', d', p', e1, e2, e3⟩
/-- As 'lifted_row', of a statement with a condition from which a string's size follows. -/
theorem lifted_upto {H : Type} {enc : TypeId × Value → H} {a : Assume} {C : Checked} {os : Os} {f : FuncId} {fn : Func} {s : ChangeSpec} {small : (H : Type) → List (DataW H) → Bool} {conds : List PathCond} {ts : List TypeId} {qs : List (Bool × List Cs)} {tb : TypeId} {F : Stop.Interp} {laid : List (String × DataW Unit)} {j0 : Nat} {t0 : TypeId} {N : Nat}
    (own : ownKnob C.prog.godebug = none) (started : os.Started) (noInit : C.prog.inits.idxOf? f = none) (hfn : C.prog.funcs[f]? = some fn)
    (witness : ∃ (w : World) (tape : Tape) (i : Input), w.os = os ∧ (w.forCall tape i).Shaped C.prog ∧ i.vars = [] ∧ Input.okWide C.prog (w.forCall tape i) .any w.heap.size f i ∧
      ({ OpenSpec.ofChange s with cond := some small }).preRow enc C.prog fn conds false laid (w.forCall tape i).memory i.args ∧ a.holds C.prog (lone (Frame.enter C.prog f i.args .normal) [] (w.forCall tape i)))
    (hts : fn.params.toList = ts) (hres : fn.resultTypes = #[tb]) (hb : C.prog.underlying tb = some .bool) (hvars : s.vars = [])
    (hsp : ∀ ds : List (DataW H), ds.length = ts.length → s.fn H ds = { results := [.lit (.bool true)], args := ds })
    (hq : ts.map (Awp.shape C.prog) = qs.map some) (laidOut : laidOutB C.prog = true) (hread : (ts.all fun t => C.prog.readableRec t && decide (t < C.prog.types.size)) = true)
    (hj0 : ts[j0]? = some t0) (ht0 : C.prog.underlying t0 = some .string) (hsm : ∀ (ds : List (DataW H)) (l : List UInt8), small H ds = true → DataW.lit (.string l) ∈ ds → l.length ≤ N)
    (law : ∀ xs, PFitsL qs xs → (∀ b : ByteArray, xs[j0]? = some (.str b) → b.size ≤ N) → PCall C.prog f xs (.bool true)) (hfx : ∀ W : World, laidMetH C.prog laid W → W.ShapedOpen C.prog → Fx.Ok W W.heap.size) :
    ReturnsInHanded a C os f .any (({ OpenSpec.ofChange s with cond := some small }).preRow enc C.prog fn conds false laid) ((({ OpenSpec.ofChange s with cond := some small }).at F).post enc C.prog fn false true false false) := by
  refine returnsInHanded_of_row (s := { OpenSpec.ofChange s with cond := some small }) own started noInit hfn witness ?_
  intro W base args ds gs before hval hW _ hcond hsz hL hSO _
  have hW' := hW
  obtain ⟨p, q, hA, hV, rfl, hfz, hnd⟩ := hW
  rw [hts] at hA
  have hV : _ := hV
  rw [show ({ OpenSpec.ofChange s with cond := some small } : OpenSpec).vars = s.vars from rfl, hvars] at hV
  obtain ⟨rfl, rfl⟩ := trodVars_none hV
  have hvt : ({ OpenSpec.ofChange s with cond := some small } : OpenSpec).bare.plain.varTypes C.prog = [] := by show s.plain.varTypes C.prog = []; simp [ChangeSpec.plain, DataSpec.varTypes, hvars]
  rw [hvt, List.append_nil, List.append_nil, hts] at hsz
  have hsz' : ∀ x, x ∈ DataW.weightsEach C.prog ts ds → x ≤ reachBytes := fun x hx => of_decide_eq_true (List.all_eq_true.1 hsz x hx)
  obtain ⟨xs, x1, x2, x3⟩ := open_params (b0 := base) hq (fun j t v h1 h2 => hval j t v (by rw [← Array.getElem?_toList, hts]; exact h1) (by rw [← Array.getElem?_toList]; exact h2)) hsz' hA
  have hbd : ∀ b : ByteArray, xs[j0]? = some (.str b) → b.size ≤ N := fun b hb0 => by
    obtain ⟨v, d, pp, e1, e2, e3⟩ := trodAll_get hA hj0
    obtain ⟨sv, rfl, rfl, -, -⟩ := ChangeMaps.open_string ht0 (hval j0 t0 v (by rw [← Array.getElem?_toList, hts]; exact hj0) (by rw [← Array.getElem?_toList]; exact e1)) e3
    have hr := x3 j0 _ _ hb0 e1
    cases hr
    have hk := hcond small rfl
    rw [List.append_nil] at hk
    have := hsm ds _ hk (List.mem_of_getElem? e2)
    rwa [Array.length_toList] at this
  refine ((law xs x1 hbd).2 W args (hfx W hL hSO) ⟨by simpa using x2, fun i x v h1 h2 => x3 i x v h1 (by rw [Array.getElem?_toList]; exact h2)⟩).mono fun e W' ⟨v, he, bel, rv⟩ => ?_
  have rv' := rv (fun _ => none) [] 0 (Nat.zero_le _) (fun _ _ h => by cases h)
  cases rv'
  have hlen : ds.length = ts.length := by
    have : ∀ {ts : List TypeId} {vs : List Value} {ds : List (DataW H)} {ps : List MemPlace}, DataW.TrodAll enc C.prog W 0 (fun _ => true) true ts vs ds ps → ds.length = ts.length := by
      intro ts
      induction ts with
      | nil => intro vs ds ps h; obtain ⟨_, rfl, _⟩ := trodAll_nil h; rfl
      | cons t ts ih =>
        intro vs ds ps h
        obtain ⟨_, _, _, _, _, _, _, rfl, _, _, h2⟩ := trodAll_cons h
        simp [ih h2]
    exact this hA
  have hs : ((({ OpenSpec.ofChange s with cond := some small } : OpenSpec)).at F).fn H ds = { results := [.lit (.bool true)], args := ds } := hsp ds hlen
  have hvars' : ((({ OpenSpec.ofChange s with cond := some small } : OpenSpec)).at F).vars = [] := hvars
  refine ⟨_, he, ds, [], _, [], p, [], hW', ?_, ?_, ?_, bel.frame _, fun h => by cases h⟩
  · rw [List.append_nil, hs, hres]
    exact trodAll_mk1 ⟨1, by simp [DataW.trod, Value.cells, hb]⟩
  · rw [List.append_nil, hs, hts]
    exact trodAll_stays laidOut bel hread hA
  · rw [List.append_nil, hs, hvars']
    rfl
end Go.Proofs.YtomejgikdelgkaaGreatDoor
