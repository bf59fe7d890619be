/- The walk's rules, in the form in which they rewrite: what is still to come stands in names, so that nobody looks into it before its turn. Generic in the program. -/
import Derived.Test.YtepnijjgdhldeaaA4
namespace Go.Awp
set_option linter.unusedSectionVars false
variable [Fx]
def withRes (r : Option (Option AV × AHeap)) (K : AV → AHeap → Prop) : Prop :=
  match r with
  | some (some x, H') => K x H'
  | some (none, H') => K (.tuple []) H'
  | none => False
theorem withRes_val {x : AV} {H : AHeap} {K : AV → AHeap → Prop} : withRes (some (some x, H)) K = K x H := rfl
theorem withRes_skip {H : AHeap} {K : AV → AHeap → Prop} : withRes (some (none, H)) K = K (.tuple []) H := rfl
def withGuard (v : Option AV) (want : Bool) (on off : Bool → Prop) (gone : Unit → Prop) : Prop :=
  match v with
  | some (.bool c) => (c = want → on want) ∧ (c = !want → off (!want))
  | some (.tuple []) => gone ()
  | _ => False
theorem withGuard_tt {on off : Bool → Prop} {gone : Unit → Prop} : withGuard (some (.bool true)) true on off gone = on true := by simp [withGuard]
theorem withGuard_ff {on off : Bool → Prop} {gone : Unit → Prop} : withGuard (some (.bool false)) false on off gone = on false := by simp [withGuard]
theorem withGuard_tf {on off : Bool → Prop} {gone : Unit → Prop} : withGuard (some (.bool true)) false on off gone = off true := by simp [withGuard]
theorem withGuard_ft {on off : Bool → Prop} {gone : Unit → Prop} : withGuard (some (.bool false)) true on off gone = off false := by simp [withGuard]
theorem withGuard_gone {want : Bool} {on off : Bool → Prop} {gone : Unit → Prop} : withGuard (some (.tuple [])) want on off gone = gone () := rfl
/-- A guard that is not decided: both ways. -/
theorem withGuard_intro {c want : Bool} {on off : Bool → Prop} {gone : Unit → Prop} (h1 : c = want → on want) (h2 : c = !want → off (!want)) : withGuard (some (.bool c)) want on off gone := ⟨h1, h2⟩
section
variable {P : Program} {K : AEnv → AHeap → Prop} {Ka : AV → AHeap → Prop} {env : AEnv} {H : AHeap} {rest : List IStmt} {d : Option Nat} {io : IOp} {u : List Nat} {lt : Bool} {Q : AX → AEnv → AHeap → Prop} {a b : IR}
def opsK (P : Program) (d : Option Nat) (rest : List IStmt) (K : AEnv → AHeap → Prop) (env : AEnv) : AV → AHeap → Prop := fun x H' => awpOps P rest K (envput d x env) H'
def gOn (P : Program) (io : IOp) (d : Option Nat) (rest : List IStmt) (K : AEnv → AHeap → Prop) (g : Nat) (env : AEnv) (H : AHeap) : Bool → Prop := fun c => acall P io ((g, .bool c) :: env) H (opsK P d rest K ((g, .bool c) :: env))
def gOff (P : Program) (d : Option Nat) (rest : List IStmt) (K : AEnv → AHeap → Prop) (g : Nat) (env : AEnv) (H : AHeap) : Bool → Prop := fun c => awpOps P rest K (envput d (.tuple []) ((g, .bool c) :: env)) H
def gGone (P : Program) (d : Option Nat) (rest : List IStmt) (K : AEnv → AHeap → Prop) (env : AEnv) (H : AHeap) : Unit → Prop := fun _ => awpOps P rest K (envput d (.tuple []) env) H
theorem opsK_app {x : AV} {H' : AHeap} : opsK P d rest K env x H' = awpOps P rest K (envput d x env) H' := rfl
theorem gOn_app {g : Nat} {c : Bool} : gOn P io d rest K g env H c = acall P io ((g, .bool c) :: env) H (opsK P d rest K ((g, .bool c) :: env)) := rfl
theorem gOff_app {g : Nat} {c : Bool} : gOff P d rest K g env H c = awpOps P rest K (envput d (.tuple []) ((g, .bool c) :: env)) H := rfl
theorem gGone_app : gGone P d rest K env H () = awpOps P rest K (envput d (.tuple []) env) H := rfl
theorem ops_nil : awpOps P [] K env H = K env H := rfl
theorem ops_none : awpOps P (⟨d, io, none, u, lt⟩ :: rest) K env H = acall P io env H (opsK P d rest K env) := rfl
theorem ops_some {g : Nat} {want : Bool} : awpOps P (⟨d, io, some (g, want), u, lt⟩ :: rest) K env H = withGuard (AEnv.get env g) want (gOn P io d rest K g env H) (gOff P d rest K g env H) (gGone P d rest K env H) := rfl
def isCall : IOp → Bool
  | .call .. | .callv .. | .invoke .. | .isnil .. | .mknil => true
  | _ => false
theorem acall_step (h : isCall io = false) : acall P io env H Ka = withRes (sstep io env H) Ka := by
  cases io <;> first | rfl | cases h
def withArgs (r : Option (List AV)) (K : List AV → Prop) : Prop :=
  match r with
  | some vs => K vs
  | none => False
theorem withArgs_some {vs : List AV} {K : List AV → Prop} : withArgs (some vs) K = K vs := rfl
def callK (P : Program) (f : FuncId) (H : AHeap) (Ka : AV → AHeap → Prop) : List AV → Prop := fun vs => ACall P f vs H Ka
theorem callK_app {f : FuncId} {vs : List AV} : callK P f H Ka vs = ACall P f vs H Ka := rfl
def callvK (P : Program) (f : FuncId) (first caps : List AV) (H : AHeap) (Ka : AV → AHeap → Prop) : List AV → Prop := fun vs => ACall P f (first ++ vs ++ caps) H Ka
theorem callvK_app {f : FuncId} {first caps vs : List AV} : callvK P f first caps H Ka vs = ACall P f (first ++ vs ++ caps) H Ka := rfl
theorem acall_call {f : FuncId} {args : List Operand} : acall P (.call f args) env H Ka = withArgs (evs env args) (callK P f H Ka) := rfl
def withFun (v : Option AV) (K : FuncId → List AV → List AV → Prop) : Prop :=
  match v with
  | some (.func (.func f) first caps) => K f first caps
  | _ => False
theorem withFun_app {f : FuncId} {first caps : List AV} {K : FuncId → List AV → List AV → Prop} : withFun (some (.func (.func f) first caps)) K = K f first caps := rfl
def funK (P : Program) (args : List Operand) (env : AEnv) (H : AHeap) (Ka : AV → AHeap → Prop) : FuncId → List AV → List AV → Prop := fun f first caps => withArgs (evs env args) (callvK P f first caps H Ka)
theorem funK_app {args : List Operand} {f : FuncId} {first caps : List AV} : funK P args env H Ka f first caps = withArgs (evs env args) (callvK P f first caps H Ka) := rfl
theorem acall_callv {x : Operand} {args : List Operand} (h : withFun (ev env x) (funK P args env H Ka)) : acall P (.callv x args) env H Ka := by
  simp only [acall]
  unfold withFun at h
  split at h
  · rename_i hx
    simp only [hx]
    unfold funK withArgs callvK at h
    split at h
    · rename_i hvs; simp only [hvs]; exact h
    · exact h.elim
  · exact h.elim
theorem acall_invoke {x : Operand} {name : String} {args : List Operand} {t : TypeId} {v : AV} {vs : List AV} {f : FuncId} (hx : ev env x = some (.iface t v)) (hvs : evs env args = some vs) (hm : amethod P t name = some f) (h : ACall P f (v :: vs) H Ka) : acall P (.invoke x name args) env H Ka := by
  simp only [acall, hx, hvs, hm]; exact h
theorem a_mknil : acall P .mknil env H Ka = Ka .nilSlice H := rfl
theorem acall_isnil {neg : Bool} {x : Operand} {v : AV} {k : IntKind} {n : Int} (hv : ev env x = some v) (hn : alen H v = some (.int k n)) (h1 : 0 < n → Ka (.bool neg) H) (h2 : ¬ 0 < n → ∀ b, Ka (.bool b) H) : acall P (.isnil neg x) env H Ka := by
  simp only [acall, hv, hn]
  split
  · exact h1 ‹_›
  · exact h2 ‹_›
theorem awp_skip : awp P .skip Q env H = Q .normal env H := rfl
theorem awp_ops {l : List IStmt} : awp P (.ops l) Q env H = awpOps P l (Q .normal) env H := rfl
theorem awp_trim {k : List Nat} : awp P (.trim k) Q env H = Q .normal (AEnv.trim env k) H := rfl
def tlK (P : Program) (tl : List IStmt) (Q : AX → AEnv → AHeap → Prop) : AEnv → AHeap → Prop := fun env H => awpOps P tl (Q .normal) env H
theorem tlK_app {tl : List IStmt} : tlK P tl Q env H = awpOps P tl (Q .normal) env H := rfl
def postK (P : Program) (post tl : List IStmt) (Q : AX → AEnv → AHeap → Prop) : List (IOp × AEnv × AV) → AEnv → AHeap → Prop := fun L env H => awpD2 post L [] (tlK P tl Q) env H
theorem postK_app {post tl : List IStmt} {L : List (IOp × AEnv × AV)} : postK P post tl Q L env H = awpD2 post L [] (tlK P tl Q) env H := rfl
theorem awp_opsD {pre post tl : List IStmt} : awp P (.opsD pre post tl) Q env H = awpD1 P pre [] (postK P post tl Q) env H := rfl
theorem awp_opsA {t : AT} {tl : List IStmt} : awp P (.opsA t tl) Q env H = awpT P (tlK P tl Q) t [] env H := rfl
def thenQ (P : Program) (b : IR) (Q : AX → AEnv → AHeap → Prop) : AX → AEnv → AHeap → Prop := fun x e h => match x with | .normal => awp P b Q e h | x => Q x e h
def blockQ (id : Nat) (Q : AX → AEnv → AHeap → Prop) : AX → AEnv → AHeap → Prop := fun x e h => match x with | .exit i => if i = id then Q .normal e h else Q (.exit i) e h | x => Q x e h
def loopQ (J : AEnv → AHeap → Prop) (Q : AX → AEnv → AHeap → Prop) : AX → AEnv → AHeap → Prop := fun x e' h' => match x with | .normal => J e' h' | x => Q x e' h'
def scopeQ (l : Nat) (J : AEnv → AHeap → Prop) (Q : AX → AEnv → AHeap → Prop) : AX → AEnv → AHeap → Prop := fun x e' h' => match x with | .goto l' => if l' = l then J e' h' else Q (.goto l') e' h' | x => Q x e' h'
theorem awp_seq : awp P (.seq a b) Q env H = awp P a (thenQ P b Q) env H := rfl
theorem awp_block {id : Nat} : awp P (.block id a) Q env H = awp P a (blockQ id Q) env H := rfl
theorem awp_exit {id : Nat} : awp P (.exit id) Q env H = Q (.exit id) env H := rfl
theorem awp_ret : awp P .ret Q env H = Q .ret env H := rfl
theorem awp_label {l : Nat} : awp P (.label l) Q env H = Q .normal env H := rfl
theorem awp_goto {l : Nat} : awp P (.goto l) Q env H = Q (.goto l) env H := rfl
theorem then_normal : thenQ P b Q .normal env H = awp P b Q env H := rfl
theorem then_exit {i : Nat} : thenQ P b Q (.exit i) env H = Q (.exit i) env H := rfl
theorem then_goto {i : Nat} : thenQ P b Q (.goto i) env H = Q (.goto i) env H := rfl
theorem then_ret : thenQ P b Q .ret env H = Q .ret env H := rfl
theorem block_normal {i : Nat} : blockQ i Q .normal env H = Q .normal env H := rfl
theorem block_ret {i : Nat} : blockQ i Q .ret env H = Q .ret env H := rfl
theorem block_goto {i l : Nat} : blockQ i Q (.goto l) env H = Q (.goto l) env H := rfl
theorem block_exit {i : Nat} : blockQ i Q (.exit i) env H = Q .normal env H := by simp [blockQ]
theorem block_exit_ne {i j : Nat} (h : (i == j) = false) : blockQ j Q (.exit i) env H = Q (.exit i) env H := by
  have : i ≠ j := by simpa using h
  simp [blockQ, this]
theorem loop_normal {J : AEnv → AHeap → Prop} : loopQ J Q .normal env H = J env H := rfl
theorem loop_exit {i : Nat} {J : AEnv → AHeap → Prop} : loopQ J Q (.exit i) env H = Q (.exit i) env H := rfl
theorem loop_goto {i : Nat} {J : AEnv → AHeap → Prop} : loopQ J Q (.goto i) env H = Q (.goto i) env H := rfl
theorem loop_ret {J : AEnv → AHeap → Prop} : loopQ J Q .ret env H = Q .ret env H := rfl
theorem scope_normal {l : Nat} {J : AEnv → AHeap → Prop} : scopeQ l J Q .normal env H = Q .normal env H := rfl
theorem scope_exit {l i : Nat} {J : AEnv → AHeap → Prop} : scopeQ l J Q (.exit i) env H = Q (.exit i) env H := rfl
theorem scope_ret {l : Nat} {J : AEnv → AHeap → Prop} : scopeQ l J Q .ret env H = Q .ret env H := rfl
theorem scope_goto {l : Nat} {J : AEnv → AHeap → Prop} : scopeQ l J Q (.goto l) env H = J env H := by simp [scopeQ]
def withBool (v : Option AV) (t f : Unit → Prop) : Prop :=
  match v with
  | some (.bool c) => (c = true → t ()) ∧ (c = false → f ())
  | _ => False
theorem withBool_t {t f : Unit → Prop} : withBool (some (.bool true)) t f = t () := by simp [withBool]
theorem withBool_f {t f : Unit → Prop} : withBool (some (.bool false)) t f = f () := by simp [withBool]
theorem withBool_intro {c : Bool} {t f : Unit → Prop} (h1 : c = true → t ()) (h2 : c = false → f ()) : withBool (some (.bool c)) t f := ⟨h1, h2⟩
def condK (P : Program) (a : IR) (Q : AX → AEnv → AHeap → Prop) (env : AEnv) (H : AHeap) : Unit → Prop := fun _ => awp P a Q env H
theorem condK_app : condK P a Q env H () = awp P a Q env H := rfl
theorem awp_cond {c : Operand} : awp P (.cond c a b) Q env H = withBool (ev env c) (condK P a Q env H) (condK P b Q env H) := by
  simp only [awp, withBool, condK]
  cases ev env c with
  | none => rfl
  | some v => cases v <;> rfl
/-- A loop: an invariant over a state of one's own, and a measure. -/
def Again {σ : Type} (st : σ → AEnv) (hp : σ → AHeap → Prop) (I : σ → Prop) (μ : σ → Nat) (k : Nat) : AEnv → AHeap → Prop := fun e h => ∃ s', I s' ∧ μ s' < k ∧ e = st s' ∧ hp s' h
theorem awp_loop {σ : Type} (st : σ → AEnv) (hp : σ → AHeap → Prop) (I : σ → Prop) (μ : σ → Nat) (s0 : σ) (h0 : I s0) (he : env = st s0) (hH : hp s0 H)
    (round : ∀ s H, I s → hp s H → awp P a (loopQ (Again st hp I μ (μ s)) Q) (st s) H) : awp P (.loop a) Q env H := by
  refine ⟨fun k e h => ∃ s', I s' ∧ μ s' = k ∧ e = st s' ∧ hp s' h, μ s0, ⟨s0, h0, rfl, he, hH⟩, ?_⟩
  rintro k e h ⟨s, hs, rfl, rfl, hh⟩
  have := round s h hs hh
  refine awp_mono (fun x e' h' hx => ?_) this
  cases x with
  | normal => obtain ⟨s', q1, q2, q3, q4⟩ := hx; exact ⟨μ s', q2, s', q1, rfl, q3, q4⟩
  | exit i => exact hx
  | goto l => exact hx
  | ret => exact hx
/-- The round's end. -/
theorem loop_end {σ : Type} {st : σ → AEnv} {hp : σ → AHeap → Prop} {I : σ → Prop} {μ : σ → Nat} {k : Nat} (s' : σ) (hI : I s') (hk : μ s' < k) (he : env = st s') (hH : hp s' H) : Again st hp I μ k env H :=
  ⟨s', hI, hk, he, hH⟩
/-- A scope with one label: what holds at the label, and a measure. -/
theorem awp_scope {σ : Type} {l : Nat} {r : IR} (st : σ → AEnv) (hp : σ → AHeap → Prop) (I : σ → Prop) (μ : σ → Nat) (h0 : awp P a (scopeQ l (fun e h => ∃ s, I s ∧ e = st s ∧ hp s h) Q) env H)
    (round : ∀ s H, I s → hp s H → awp P r (scopeQ l (Again st hp I μ (μ s)) Q) (st s) H) : awp P (.scope a l r) Q env H := by
  refine ⟨fun k e h => ∃ s', I s' ∧ μ s' = k ∧ e = st s' ∧ hp s' h, ?_, ?_⟩
  · refine awp_mono (fun x e' h' hx => ?_) h0
    cases x with
    | goto l' =>
      simp only [scopeQ] at hx ⊢
      split at hx
      · rename_i hl
        rw [if_pos hl]
        obtain ⟨s, q1, q2, q3⟩ := hx; exact ⟨μ s, s, q1, rfl, q2, q3⟩
      · rename_i hl; rw [if_neg hl]; exact hx
    | normal => exact hx
    | exit i => exact hx
    | ret => exact hx
  · rintro k e h ⟨s, hs, rfl, rfl, hh⟩
    refine awp_mono (fun x e' h' hx => ?_) (round s h hs hh)
    cases x with
    | goto l' =>
      simp only [scopeQ] at hx ⊢
      split at hx
      · rename_i hl
        rw [if_pos hl]
        obtain ⟨s', q1, q2, q3, q4⟩ := hx; exact ⟨μ s', q2, s', q1, rfl, q3, q4⟩
      · rename_i hl; rw [if_neg hl]; exact hx
    | normal => exact hx
    | exit i => exact hx
    | ret => exact hx
theorem call_pure {f : FuncId} {xs ys : List AV} {r : AV} (h : PCall P f ys r) (hf : FrzL H xs ys) (hk : Ka r H) : ACall P f xs H Ka :=
  (PCall.lift h hf).mono fun _ _ ⟨h1, h2⟩ => by rw [h1, h2]; exact hk
theorem call_new {f : FuncId} {xs ys : List AV} {e sz : Nat} {els : List (List AV)} (h : NCall P f ys e sz els) (hf : FrzL H xs ys) (hk : Ka (.own H.length els.length 0 els.length) (H ++ [some ⟨e, sz, els⟩])) : ACall P f xs H Ka :=
  (NCall.lift h hf).mono fun _ _ ⟨h1, h2⟩ => by rw [h1, h2]; exact hk
-- regions that draw
def withW (r : Option (Option AV × AHeap)) (K : AV → AHeap → Prop) : Prop :=
  match r with
  | some (x, H') => K (x.getD (.tuple [])) H'
  | none => False
theorem withW_val {x : AV} {H : AHeap} {K : AV → AHeap → Prop} : withW (some (some x, H)) K = K x H := rfl
theorem withW_skip {H : AHeap} {K : AV → AHeap → Prop} : withW (some (none, H)) K = K (.tuple []) H := rfl
def Same : List (IOp × AEnv × AV) → AHeap → Prop
  | [], _ => True
  | t :: l, H => qstep t.1 t.2.1 H = some (.val t.2.2) ∧ Same l H
theorem same_all : ∀ {L : List (IOp × AEnv × AV)} {H : AHeap}, Same L H → ∀ t, t ∈ L → qstep t.1 t.2.1 H = some (.val t.2.2)
  | [], _, _, t, h => by cases h
  | x :: l, H, hs, t, h => by
    rcases List.mem_cons.1 h with rfl | h
    · exact hs.1
    · exact same_all hs.2 t h
theorem same_nil {H : AHeap} : Same [] H = True := rfl
theorem same_cons {t : IOp × AEnv × AV} {l : List (IOp × AEnv × AV)} {H : AHeap} : Same (t :: l) H = (qstep t.1 t.2.1 H = some (.val t.2.2) ∧ Same l H) := rfl
def withQ (r : Option QR) (val : AV → Prop) (box : Nat → Nat → List AV → Prop) (arr : Nat → Nat → List (List AV) → Prop) : Prop :=
  match r with
  | some (.val v) => val v
  | some (.box e s c) => box e s c
  | some (.arr e s c) => arr e s c
  | none => False
theorem withQ_val {v : AV} {val : AV → Prop} {box : Nat → Nat → List AV → Prop} {arr : Nat → Nat → List (List AV) → Prop} : withQ (some (.val v)) val box arr = val v := rfl
theorem withQ_box {e s : Nat} {c : List AV} {val : AV → Prop} {box : Nat → Nat → List AV → Prop} {arr : Nat → Nat → List (List AV) → Prop} : withQ (some (.box e s c)) val box arr = box e s c := rfl
theorem withQ_arr {e s : Nat} {c : List (List AV)} {val : AV → Prop} {box : Nat → Nat → List AV → Prop} {arr : Nat → Nat → List (List AV) → Prop} : withQ (some (.arr e s c)) val box arr = arr e s c := rfl
def withT (r : Option (FuncId × List AV)) (K : FuncId → List AV → Prop) : Prop :=
  match r with
  | some (f, vs) => K f vs
  | none => False
theorem withT_some {f : FuncId} {vs : List AV} {K : FuncId → List AV → Prop} : withT (some (f, vs)) K = K f vs := rfl
/-- A call within a region that draws. -/
def DCall (P : Program) (f : FuncId) (vs : List AV) (H : AHeap) (K : AV → AHeap → Prop) : Prop := (∃ ys r, (∀ X : AHeap, FrzL (H ++ X) vs ys) ∧ PCall P f ys r ∧ K r H) ∨
  (∃ ys e sz els, (∀ X : AHeap, FrzL (H ++ X) vs ys) ∧ NCall P f ys e sz els ∧ K (.own H.length els.length 0 els.length) (H ++ [some ⟨e, sz, els⟩]))
theorem dcall_pure {f : FuncId} {vs ys : List AV} {r : AV} {K : AV → AHeap → Prop} (h : PCall P f ys r) (hf : ∀ X : AHeap, FrzL (H ++ X) vs ys) (hk : K r H) : DCall P f vs H K := .inl ⟨ys, r, hf, h, hk⟩
theorem dcall_new {f : FuncId} {vs ys : List AV} {e sz : Nat} {els : List (List AV)} {K : AV → AHeap → Prop} (h : NCall P f ys e sz els) (hf : ∀ X : AHeap, FrzL (H ++ X) vs ys) (hk : K (.own H.length els.length 0 els.length) (H ++ [some ⟨e, sz, els⟩])) : DCall P f vs H K := .inr ⟨ys, e, sz, els, hf, h, hk⟩
def d1K (P : Program) (d : Option Nat) (rest : List IStmt) (L : List (IOp × AEnv × AV)) (K1 : List (IOp × AEnv × AV) → AEnv → AHeap → Prop) (env : AEnv) : AV → AHeap → Prop := fun r H' => awpD1 P rest L K1 (envput d r env) H'
def d1V (P : Program) (io : IOp) (d : Option Nat) (u : List Nat) (lt : Bool) (rest : List IStmt) (L : List (IOp × AEnv × AV)) (K1 : List (IOp × AEnv × AV) → AEnv → AHeap → Prop) (env : AEnv) (H : AHeap) : AV → Prop := fun v => awpD1 P rest (if lt then (io, AEnv.trim env u, v) :: L else L) K1 (envput d v env) H
def d1B (P : Program) (d : Option Nat) (rest : List IStmt) (L : List (IOp × AEnv × AV)) (K1 : List (IOp × AEnv × AV) → AEnv → AHeap → Prop) (env : AEnv) (H : AHeap) : Nat → Nat → List AV → Prop := fun e sz cells => awpD1 P rest L K1 (envput d (.ptr H.length 1 0 0) env) (H ++ [some ⟨e, sz, [cells]⟩])
def d1A (P : Program) (d : Option Nat) (rest : List IStmt) (L : List (IOp × AEnv × AV)) (K1 : List (IOp × AEnv × AV) → AEnv → AHeap → Prop) (env : AEnv) (H : AHeap) : Nat → Nat → List (List AV) → Prop := fun e sz els => awpD1 P rest L K1 (envput d (.own H.length els.length 0 els.length) env) (H ++ [some ⟨e, sz, els⟩])
def d1T (P : Program) (d : Option Nat) (rest : List IStmt) (L : List (IOp × AEnv × AV)) (K1 : List (IOp × AEnv × AV) → AEnv → AHeap → Prop) (env : AEnv) (H : AHeap) : FuncId → List AV → Prop := fun f vs => DCall P f vs H (d1K P d rest L K1 env)
def noA : Nat → Nat → List (List AV) → Prop := fun _ _ _ => False
def noB : Nat → Nat → List AV → Prop := fun _ _ _ => False
def noV : AV → Prop := fun _ => False
section
variable {L : List (IOp × AEnv × AV)} {K1 : List (IOp × AEnv × AV) → AEnv → AHeap → Prop}
theorem d1K_app {r : AV} {H' : AHeap} : d1K P d rest L K1 env r H' = awpD1 P rest L K1 (envput d r env) H' := rfl
theorem d1V_late {v : AV} : d1V P io d u true rest L K1 env H v = awpD1 P rest ((io, AEnv.trim env u, v) :: L) K1 (envput d v env) H := rfl
theorem d1V_early {v : AV} : d1V P io d u false rest L K1 env H v = awpD1 P rest L K1 (envput d v env) H := rfl
theorem d1B_app {e sz : Nat} {cells : List AV} : d1B P d rest L K1 env H e sz cells = awpD1 P rest L K1 (envput d (.ptr H.length 1 0 0) env) (H ++ [some ⟨e, sz, [cells]⟩]) := rfl
theorem d1A_app {e sz : Nat} {els : List (List AV)} : d1A P d rest L K1 env H e sz els = awpD1 P rest L K1 (envput d (.own H.length els.length 0 els.length) env) (H ++ [some ⟨e, sz, els⟩]) := rfl
theorem d1T_app {f : FuncId} {vs : List AV} : d1T P d rest L K1 env H f vs = DCall P f vs H (d1K P d rest L K1 env) := rfl
def stepD1 (P : Program) (io : IOp) (d : Option Nat) (u : List Nat) (lt : Bool) (rest : List IStmt) (L : List (IOp × AEnv × AV)) (K1 : List (IOp × AEnv × AV) → AEnv → AHeap → Prop) (env : AEnv) (H : AHeap) : Prop :=
  match cls io with
  | .pure => withQ (qstep io (AEnv.trim env u) H) (d1V P io d u false rest L K1 env H) noB noA
  | .load => withQ (qstep io (AEnv.trim env u) H) (d1V P io d u lt rest L K1 env H) noB noA
  | .alloc => withQ (qstep io (AEnv.trim env u) H) noV (d1B P d rest L K1 env H) (d1A P d rest L K1 env H)
  | .call => withT (target P io (AEnv.trim env u)) (d1T P d rest L K1 env H)
  | .write => False
theorem D1_pure (h : cls io = .pure) : stepD1 P io d u lt rest L K1 env H = withQ (qstep io (AEnv.trim env u) H) (d1V P io d u false rest L K1 env H) noB noA := by unfold stepD1; rw [h]
theorem D1_load (h : cls io = .load) : stepD1 P io d u lt rest L K1 env H = withQ (qstep io (AEnv.trim env u) H) (d1V P io d u lt rest L K1 env H) noB noA := by unfold stepD1; rw [h]
theorem D1_alloc (h : cls io = .alloc) : stepD1 P io d u lt rest L K1 env H = withQ (qstep io (AEnv.trim env u) H) noV (d1B P d rest L K1 env H) (d1A P d rest L K1 env H) := by unfold stepD1; rw [h]
theorem D1_call (h : cls io = .call) : stepD1 P io d u lt rest L K1 env H = withT (target P io (AEnv.trim env u)) (d1T P d rest L K1 env H) := by unfold stepD1; rw [h]
def d1On (P : Program) (io : IOp) (d : Option Nat) (u : List Nat) (lt : Bool) (rest : List IStmt) (L : List (IOp × AEnv × AV)) (K1 : List (IOp × AEnv × AV) → AEnv → AHeap → Prop) (g : Nat) (env : AEnv) (H : AHeap) : Bool → Prop := fun c => stepD1 P io d u lt rest L K1 ((g, .bool c) :: env) H
def d1Off (P : Program) (d : Option Nat) (rest : List IStmt) (L : List (IOp × AEnv × AV)) (K1 : List (IOp × AEnv × AV) → AEnv → AHeap → Prop) (g : Nat) (env : AEnv) (H : AHeap) : Bool → Prop := fun c => awpD1 P rest L K1 (envput d (.tuple []) ((g, .bool c) :: env)) H
def d1Gone (P : Program) (d : Option Nat) (rest : List IStmt) (L : List (IOp × AEnv × AV)) (K1 : List (IOp × AEnv × AV) → AEnv → AHeap → Prop) (env : AEnv) (H : AHeap) : Unit → Prop := fun _ => awpD1 P rest L K1 (envput d (.tuple []) env) H
theorem d1On_app {g : Nat} {c : Bool} : d1On P io d u lt rest L K1 g env H c = stepD1 P io d u lt rest L K1 ((g, .bool c) :: env) H := rfl
theorem d1Off_app {g : Nat} {c : Bool} : d1Off P d rest L K1 g env H c = awpD1 P rest L K1 (envput d (.tuple []) ((g, .bool c) :: env)) H := rfl
theorem d1Gone_app : d1Gone P d rest L K1 env H () = awpD1 P rest L K1 (envput d (.tuple []) env) H := rfl
theorem D1_nil : awpD1 P [] L K1 env H = K1 L env H := rfl
theorem D1_body : (match cls io with
        | .pure => (match qstep io (AEnv.trim env u) H with
          | some (.val v) => awpD1 P rest L K1 (envput d v env) H
          | _ => False)
        | .load => (match qstep io (AEnv.trim env u) H with
          | some (.val v) => awpD1 P rest (if lt then (io, AEnv.trim env u, v) :: L else L) K1 (envput d v env) H
          | _ => False)
        | .alloc => (match qstep io (AEnv.trim env u) H with
          | some (.box e sz cells) => awpD1 P rest L K1 (envput d (.ptr H.length 1 0 0) env) (H ++ [some ⟨e, sz, [cells]⟩])
          | some (.arr e sz els) => awpD1 P rest L K1 (envput d (.own H.length els.length 0 els.length) env) (H ++ [some ⟨e, sz, els⟩])
          | _ => False)
        | .call => (match target P io (AEnv.trim env u) with
          | some (f, vs) => (∃ ys r, (∀ X : AHeap, FrzL (H ++ X) vs ys) ∧ PCall P f ys r ∧ awpD1 P rest L K1 (envput d r env) H) ∨
              (∃ ys e sz els, (∀ X : AHeap, FrzL (H ++ X) vs ys) ∧ NCall P f ys e sz els ∧ awpD1 P rest L K1 (envput d (.own H.length els.length 0 els.length) env) (H ++ [some ⟨e, sz, els⟩]))
          | none => False)
        | .write => False) = stepD1 P io d u lt rest L K1 env H := by
  unfold stepD1
  cases cls io with
  | pure => simp only; cases qstep io (AEnv.trim env u) H with | none => rfl | some q => cases q <;> rfl
  | load => simp only; cases qstep io (AEnv.trim env u) H with | none => rfl | some q => cases q <;> rfl
  | alloc => simp only; cases qstep io (AEnv.trim env u) H with | none => rfl | some q => cases q <;> rfl
  | call => simp only; cases target P io (AEnv.trim env u) with | none => rfl | some q => rfl
  | write => rfl
theorem D1_none : awpD1 P (⟨d, io, none, u, lt⟩ :: rest) L K1 env H = stepD1 P io d u lt rest L K1 env H := by
  simp only [awpD1, guardD]
  exact D1_body
theorem D1_some {g : Nat} {want : Bool} : awpD1 P (⟨d, io, some (g, want), u, lt⟩ :: rest) L K1 env H = withGuard (AEnv.get env g) want (d1On P io d u lt rest L K1 g env H) (d1Off P d rest L K1 g env H) (d1Gone P d rest L K1 env H) := by
  have e : awpD1 P (⟨d, io, some (g, want), u, lt⟩ :: rest) L K1 env H = guardD (some (g, want)) env (fun env => stepD1 P io d u lt rest L K1 env H) (fun env => awpD1 P rest L K1 (envput d (.tuple []) env) H) := by
    rw [awpD1]
    exact congrArg (fun f => guardD (some (g, want)) env f _) (funext fun e => D1_body)
  rw [e]
  simp only [guardD]
  cases AEnv.get env g with
  | none => rfl
  | some v => cases v <;> first | rfl | (rename_i l; cases l <;> rfl)
end
/-- What a value reads as in the heaps gone by. -/
def Past (io : IOp) (env : AEnv) (v : AV) : List AHeap → Prop
  | [] => True
  | G :: r => qstep io env G = some (.val v) ∧ Past io env v r
theorem past_all {io : IOp} {env : AEnv} {v : AV} : ∀ {Ps : List AHeap}, Past io env v Ps → ∀ G, G ∈ Ps → qstep io env G = some (.val v)
  | [], _, G, h => by cases h
  | Q :: r, hp, G, h => by
    rcases List.mem_cons.1 h with rfl | h
    · exact hp.1
    · exact past_all hp.2 G h
theorem past_nil {io : IOp} {env : AEnv} {v : AV} : Past io env v [] = True := rfl
theorem past_cons {io : IOp} {env : AEnv} {v : AV} {G : AHeap} {r : List AHeap} : Past io env v (G :: r) = (qstep io env G = some (.val v) ∧ Past io env v r) := rfl
section
variable {L : List (IOp × AEnv × AV)} {Ps : List AHeap}
theorem D2_nil : awpD2 [] L Ps K env H = K env H := rfl
def d2V (d : Option Nat) (rest : List IStmt) (L : List (IOp × AEnv × AV)) (Ps : List AHeap) (K : AEnv → AHeap → Prop) (env : AEnv) (H : AHeap) : AV → Prop := fun v => awpD2 rest L Ps K (envput d v env) H
theorem d2V_app {v : AV} : d2V d rest L Ps K env H v = awpD2 rest L Ps K (envput d v env) H := rfl
def d2L (io : IOp) (d : Option Nat) (u : List Nat) (rest : List IStmt) (L : List (IOp × AEnv × AV)) (Ps : List AHeap) (K : AEnv → AHeap → Prop) (env : AEnv) (H : AHeap) : AV → Prop := fun v => Past io (AEnv.trim env u) v Ps ∧ awpD2 rest ((io, AEnv.trim env u, v) :: L) Ps K (envput d v env) H
theorem d2L_app {v : AV} : d2L io d u rest L Ps K env H v = (Past io (AEnv.trim env u) v Ps ∧ awpD2 rest ((io, AEnv.trim env u, v) :: L) Ps K (envput d v env) H) := rfl
def d2W (d : Option Nat) (rest : List IStmt) (L : List (IOp × AEnv × AV)) (Ps : List AHeap) (K : AEnv → AHeap → Prop) (env : AEnv) (H : AHeap) : AV → AHeap → Prop := fun x H' => Same L H' ∧ awpD2 rest L (H :: Ps) K (envput d x env) H'
theorem d2W_app {x : AV} {H' : AHeap} : d2W d rest L Ps K env H x H' = (Same L H' ∧ awpD2 rest L (H :: Ps) K (envput d x env) H') := rfl
theorem D2_pure (h : cls io = .pure) : awpD2 (⟨d, io, none, u, lt⟩ :: rest) L Ps K env H = withQ (qstep io (AEnv.trim env u) H) (d2V d rest L Ps K env H) noB noA := by
  simp only [awpD2, h]
  cases qstep io (AEnv.trim env u) H with | none => rfl | some q => cases q <;> rfl
theorem forall_mem_past {v : AV} : (∀ G, G ∈ Ps → qstep io env G = some (.val v)) = Past io env v Ps := by
  refine propext ⟨fun h => ?_, past_all⟩
  induction Ps with
  | nil => trivial
  | cons G r ih => exact ⟨h G (by simp), ih fun Q hQ => h Q (by simp [hQ])⟩
theorem forall_mem_same : (∀ t, t ∈ L → qstep t.1 t.2.1 H = some (.val t.2.2)) = Same L H := by
  refine propext ⟨fun h => ?_, same_all⟩
  induction L with
  | nil => trivial
  | cons G r ih => exact ⟨h G (by simp), ih fun Q hQ => h Q (by simp [hQ])⟩
theorem D2_load (h : cls io = .load) : awpD2 (⟨d, io, none, u, lt⟩ :: rest) L Ps K env H = withQ (qstep io (AEnv.trim env u) H) (d2L io d u rest L Ps K env H) noB noA := by
  simp only [awpD2, h]
  cases qstep io (AEnv.trim env u) H with
  | none => rfl
  | some q =>
    cases q with
    | val v => simp only [withQ, d2L, forall_mem_past]
    | box => rfl
    | arr => rfl
theorem D2_write (h : cls io = .write) : awpD2 (⟨d, io, none, u, lt⟩ :: rest) L Ps K env H = withW (sstep io (AEnv.trim env u) H) (d2W d rest L Ps K env H) := by
  simp only [awpD2, h]
  cases sstep io (AEnv.trim env u) H with
  | none => rfl
  | some q =>
    obtain ⟨x, H'⟩ := q
    simp only [withW, d2W, forall_mem_same]
end
theorem post_ret {rs : List RV1} {R : AV → AHeap → Prop} : fnPost rs R .ret env H = withArgs (rgets env H rs) fun l => R (retv l) H := by
  show (match rgets env H rs with | some l => R (retv l) H | none => False) = _
  cases rgets env H rs <;> rfl
theorem post_normal {rs : List RV1} {R : AV → AHeap → Prop} : fnPost rs R .normal env H = withArgs (rgets env H rs) fun l => R (retv l) H := by
  show (match rgets env H rs with | some l => R (retv l) H | none => False) = _
  cases rgets env H rs <;> rfl
end
/-- What a quiet operation comes to, and what is still to come. -/
def withQR (r : Option QR) (H : AHeap) (K : AV → AHeap → Prop) : Prop :=
  match r with
  | some (.val v) => K v H
  | some (.box e s cells) => K (.ptr H.length 1 0 0) (H ++ [some ⟨e, s, [cells]⟩])
  | some (.arr e s els) => K (.own H.length els.length 0 els.length) (H ++ [some ⟨e, s, els⟩])
  | none => False
theorem withQR_val {v : AV} {H : AHeap} {K : AV → AHeap → Prop} : withQR (some (.val v)) H K = K v H := rfl
theorem withQR_box {e s : Nat} {cells : List AV} {H : AHeap} {K : AV → AHeap → Prop} : withQR (some (.box e s cells)) H K = K (.ptr H.length 1 0 0) (H ++ [some ⟨e, s, [cells]⟩]) := rfl
theorem withQR_arr {e s : Nat} {els : List (List AV)} {H : AHeap} {K : AV → AHeap → Prop} : withQR (some (.arr e s els)) H K = K (.own H.length els.length 0 els.length) (H ++ [some ⟨e, s, els⟩]) := rfl
theorem quiet_res {r : Option QR} {H : AHeap} {K : AV → AHeap → Prop} : withRes (match r with | some r => some (sres r H) | none => none) K = withQR r H K := by
  cases r with
  | none => rfl
  | some r => cases r <;> rfl
section
variable {P : Program} {K : AEnv → AHeap → Prop} {Ka : AV → AHeap → Prop} {env : AEnv} {H : AHeap} {rest : List IStmt} {d : Option Nat} {u : List Nat} {lt : Bool} {L : List (IOp × AEnv × AV)} {K1 : List (IOp × AEnv × AV) → AEnv → AHeap → Prop} {Ps : List AHeap}
theorem a_mv {x' : Operand} : acall P (.mv x') env H Ka = withQR (qstep (.mv x') env H) H Ka := quiet_res
theorem d_mv {x' : Operand} : stepD1 P (.mv x') d u lt rest L K1 env H = withQ (qstep (.mv x') (AEnv.trim env u) H) (d1V P (.mv x') d u false rest L K1 env H) noB noA := D1_pure rfl
theorem e_mv {x' : Operand} : awpD2 (⟨d, (.mv x'), none, u, lt⟩ :: rest) L Ps K env H = withQ (qstep (.mv x') (AEnv.trim env u) H) (d2V d rest L Ps K env H) noB noA := D2_pure rfl
theorem a_pick {c' : Operand} {a' : Operand} {b' : Operand} : acall P (.pick c' a' b') env H Ka = withQR (qstep (.pick c' a' b') env H) H Ka := quiet_res
theorem d_pick {c' : Operand} {a' : Operand} {b' : Operand} : stepD1 P (.pick c' a' b') d u lt rest L K1 env H = withQ (qstep (.pick c' a' b') (AEnv.trim env u) H) (d1V P (.pick c' a' b') d u false rest L K1 env H) noB noA := D1_pure rfl
theorem e_pick {c' : Operand} {a' : Operand} {b' : Operand} : awpD2 (⟨d, (.pick c' a' b'), none, u, lt⟩ :: rest) L Ps K env H = withQ (qstep (.pick c' a' b') (AEnv.trim env u) H) (d2V d rest L Ps K env H) noB noA := D2_pure rfl
theorem a_load {s' : Nat} {g' : Bool} {x' : Operand} : acall P (.load s' g' x') env H Ka = withQR (qstep (.load s' g' x') env H) H Ka := quiet_res
theorem d_load {s' : Nat} {g' : Bool} {x' : Operand} : stepD1 P (.load s' g' x') d u lt rest L K1 env H = withQ (qstep (.load s' g' x') (AEnv.trim env u) H) (d1V P (.load s' g' x') d u lt rest L K1 env H) noB noA := D1_load rfl
theorem e_load {s' : Nat} {g' : Bool} {x' : Operand} : awpD2 (⟨d, (.load s' g' x'), none, u, lt⟩ :: rest) L Ps K env H = withQ (qstep (.load s' g' x') (AEnv.trim env u) H) (d2L (.load s' g' x') d u rest L Ps K env H) noB noA := D2_load rfl
theorem a_box {e' : Nat} {s' : Nat} {x' : Operand} : acall P (.box e' s' x') env H Ka = withQR (qstep (.box e' s' x') env H) H Ka := quiet_res
theorem d_box {e' : Nat} {s' : Nat} {x' : Operand} : stepD1 P (.box e' s' x') d u lt rest L K1 env H = withQ (qstep (.box e' s' x') (AEnv.trim env u) H) noV (d1B P d rest L K1 env H) (d1A P d rest L K1 env H) := D1_alloc rfl
theorem a_zero {e' : Nat} {s' : Nat} {z' : List AV} : acall P (.zero e' s' z') env H Ka = withQR (qstep (.zero e' s' z') env H) H Ka := quiet_res
theorem d_zero {e' : Nat} {s' : Nat} {z' : List AV} : stepD1 P (.zero e' s' z') d u lt rest L K1 env H = withQ (qstep (.zero e' s' z') (AEnv.trim env u) H) noV (d1B P d rest L K1 env H) (d1A P d rest L K1 env H) := D1_alloc rfl
theorem a_build {z' : List AV} {parts' : List (Nat × Nat × Operand)} : acall P (.build z' parts') env H Ka = withQR (qstep (.build z' parts') env H) H Ka := quiet_res
theorem d_build {z' : List AV} {parts' : List (Nat × Nat × Operand)} : stepD1 P (.build z' parts') d u lt rest L K1 env H = withQ (qstep (.build z' parts') (AEnv.trim env u) H) (d1V P (.build z' parts') d u false rest L K1 env H) noB noA := D1_pure rfl
theorem e_build {z' : List AV} {parts' : List (Nat × Nat × Operand)} : awpD2 (⟨d, (.build z' parts'), none, u, lt⟩ :: rest) L Ps K env H = withQ (qstep (.build z' parts') (AEnv.trim env u) H) (d2V d rest L Ps K env H) noB noA := D2_pure rfl
theorem a_mklit {e' : Nat} {s' : Nat} {n' : Nat} {z' : List AV} {parts' : List (Nat × Operand)} : acall P (.mklit e' s' n' z' parts') env H Ka = withQR (qstep (.mklit e' s' n' z' parts') env H) H Ka := quiet_res
theorem d_mklit {e' : Nat} {s' : Nat} {n' : Nat} {z' : List AV} {parts' : List (Nat × Operand)} : stepD1 P (.mklit e' s' n' z' parts') d u lt rest L K1 env H = withQ (qstep (.mklit e' s' n' z' parts') (AEnv.trim env u) H) noV (d1B P d rest L K1 env H) (d1A P d rest L K1 env H) := D1_alloc rfl
theorem a_mkslice {e' : Nat} {s' : Nat} {bytes' : Nat} {z' : List AV} {l' : Operand} {c' : Operand} : acall P (.mkslice e' s' bytes' z' l' c') env H Ka = withQR (qstep (.mkslice e' s' bytes' z' l' c') env H) H Ka := quiet_res
theorem d_mkslice {e' : Nat} {s' : Nat} {bytes' : Nat} {z' : List AV} {l' : Operand} {c' : Operand} : stepD1 P (.mkslice e' s' bytes' z' l' c') d u lt rest L K1 env H = withQ (qstep (.mkslice e' s' bytes' z' l' c') (AEnv.trim env u) H) noV (d1B P d rest L K1 env H) (d1A P d rest L K1 env H) := D1_alloc rfl
theorem a_faddr {off' : Nat} {x' : Operand} : acall P (.faddr off' x') env H Ka = withQR (qstep (.faddr off' x') env H) H Ka := quiet_res
theorem d_faddr {off' : Nat} {x' : Operand} : stepD1 P (.faddr off' x') d u lt rest L K1 env H = withQ (qstep (.faddr off' x') (AEnv.trim env u) H) (d1V P (.faddr off' x') d u false rest L K1 env H) noB noA := D1_pure rfl
theorem e_faddr {off' : Nat} {x' : Operand} : awpD2 (⟨d, (.faddr off' x'), none, u, lt⟩ :: rest) L Ps K env H = withQ (qstep (.faddr off' x') (AEnv.trim env u) H) (d2V d rest L Ps K env H) noB noA := D2_pure rfl
theorem a_field {off' : Nat} {s' : Nat} {g' : Bool} {x' : Operand} : acall P (.field off' s' g' x') env H Ka = withQR (qstep (.field off' s' g' x') env H) H Ka := quiet_res
theorem d_field {off' : Nat} {s' : Nat} {g' : Bool} {x' : Operand} : stepD1 P (.field off' s' g' x') d u lt rest L K1 env H = withQ (qstep (.field off' s' g' x') (AEnv.trim env u) H) (d1V P (.field off' s' g' x') d u false rest L K1 env H) noB noA := D1_pure rfl
theorem e_field {off' : Nat} {s' : Nat} {g' : Bool} {x' : Operand} : awpD2 (⟨d, (.field off' s' g' x'), none, u, lt⟩ :: rest) L Ps K env H = withQ (qstep (.field off' s' g' x') (AEnv.trim env u) H) (d2V d rest L Ps K env H) noB noA := D2_pure rfl
theorem a_iaddr {s' : Nat} {x' : Operand} {i' : Operand} : acall P (.iaddr s' x' i') env H Ka = withQR (qstep (.iaddr s' x' i') env H) H Ka := quiet_res
theorem d_iaddr {s' : Nat} {x' : Operand} {i' : Operand} : stepD1 P (.iaddr s' x' i') d u lt rest L K1 env H = withQ (qstep (.iaddr s' x' i') (AEnv.trim env u) H) (d1V P (.iaddr s' x' i') d u lt rest L K1 env H) noB noA := D1_load rfl
theorem e_iaddr {s' : Nat} {x' : Operand} {i' : Operand} : awpD2 (⟨d, (.iaddr s' x' i'), none, u, lt⟩ :: rest) L Ps K env H = withQ (qstep (.iaddr s' x' i') (AEnv.trim env u) H) (d2L (.iaddr s' x' i') d u rest L Ps K env H) noB noA := D2_load rfl
theorem a_iaddrA {len' : Nat} {s' : Nat} {x' : Operand} {i' : Operand} : acall P (.iaddrA len' s' x' i') env H Ka = withQR (qstep (.iaddrA len' s' x' i') env H) H Ka := quiet_res
theorem d_iaddrA {len' : Nat} {s' : Nat} {x' : Operand} {i' : Operand} : stepD1 P (.iaddrA len' s' x' i') d u lt rest L K1 env H = withQ (qstep (.iaddrA len' s' x' i') (AEnv.trim env u) H) (d1V P (.iaddrA len' s' x' i') d u false rest L K1 env H) noB noA := D1_pure rfl
theorem e_iaddrA {len' : Nat} {s' : Nat} {x' : Operand} {i' : Operand} : awpD2 (⟨d, (.iaddrA len' s' x' i'), none, u, lt⟩ :: rest) L Ps K env H = withQ (qstep (.iaddrA len' s' x' i') (AEnv.trim env u) H) (d2V d rest L Ps K env H) noB noA := D2_pure rfl
theorem a_indexA {len' : Nat} {s' : Nat} {g' : Bool} {x' : Operand} {i' : Operand} : acall P (.indexA len' s' g' x' i') env H Ka = withQR (qstep (.indexA len' s' g' x' i') env H) H Ka := quiet_res
theorem d_indexA {len' : Nat} {s' : Nat} {g' : Bool} {x' : Operand} {i' : Operand} : stepD1 P (.indexA len' s' g' x' i') d u lt rest L K1 env H = withQ (qstep (.indexA len' s' g' x' i') (AEnv.trim env u) H) (d1V P (.indexA len' s' g' x' i') d u false rest L K1 env H) noB noA := D1_pure rfl
theorem e_indexA {len' : Nat} {s' : Nat} {g' : Bool} {x' : Operand} {i' : Operand} : awpD2 (⟨d, (.indexA len' s' g' x' i'), none, u, lt⟩ :: rest) L Ps K env H = withQ (qstep (.indexA len' s' g' x' i') (AEnv.trim env u) H) (d2V d rest L Ps K env H) noB noA := D2_pure rfl
theorem a_indexS {x' : Operand} {i' : Operand} : acall P (.indexS x' i') env H Ka = withQR (qstep (.indexS x' i') env H) H Ka := quiet_res
theorem d_indexS {x' : Operand} {i' : Operand} : stepD1 P (.indexS x' i') d u lt rest L K1 env H = withQ (qstep (.indexS x' i') (AEnv.trim env u) H) (d1V P (.indexS x' i') d u false rest L K1 env H) noB noA := D1_pure rfl
theorem e_indexS {x' : Operand} {i' : Operand} : awpD2 (⟨d, (.indexS x' i'), none, u, lt⟩ :: rest) L Ps K env H = withQ (qstep (.indexS x' i') (AEnv.trim env u) H) (d2V d rest L Ps K env H) noB noA := D2_pure rfl
theorem a_slice {s' : Nat} {x' : Operand} {lo' : Option Operand} {hi' : Option Operand} : acall P (.slice s' x' lo' hi') env H Ka = withQR (qstep (.slice s' x' lo' hi') env H) H Ka := quiet_res
theorem d_slice {s' : Nat} {x' : Operand} {lo' : Option Operand} {hi' : Option Operand} : stepD1 P (.slice s' x' lo' hi') d u lt rest L K1 env H = withQ (qstep (.slice s' x' lo' hi') (AEnv.trim env u) H) (d1V P (.slice s' x' lo' hi') d u lt rest L K1 env H) noB noA := D1_load rfl
theorem e_slice {s' : Nat} {x' : Operand} {lo' : Option Operand} {hi' : Option Operand} : awpD2 (⟨d, (.slice s' x' lo' hi'), none, u, lt⟩ :: rest) L Ps K env H = withQ (qstep (.slice s' x' lo' hi') (AEnv.trim env u) H) (d2L (.slice s' x' lo' hi') d u rest L Ps K env H) noB noA := D2_load rfl
theorem a_sliceS {x' : Operand} {lo' : Option Operand} {hi' : Option Operand} : acall P (.sliceS x' lo' hi') env H Ka = withQR (qstep (.sliceS x' lo' hi') env H) H Ka := quiet_res
theorem d_sliceS {x' : Operand} {lo' : Option Operand} {hi' : Option Operand} : stepD1 P (.sliceS x' lo' hi') d u lt rest L K1 env H = withQ (qstep (.sliceS x' lo' hi') (AEnv.trim env u) H) (d1V P (.sliceS x' lo' hi') d u false rest L K1 env H) noB noA := D1_pure rfl
theorem e_sliceS {x' : Operand} {lo' : Option Operand} {hi' : Option Operand} : awpD2 (⟨d, (.sliceS x' lo' hi'), none, u, lt⟩ :: rest) L Ps K env H = withQ (qstep (.sliceS x' lo' hi') (AEnv.trim env u) H) (d2V d rest L Ps K env H) noB noA := D2_pure rfl
theorem a_slice0 {x' : Operand} : acall P (.slice0 x') env H Ka = withQR (qstep (.slice0 x') env H) H Ka := quiet_res
theorem d_slice0 {x' : Operand} : stepD1 P (.slice0 x') d u lt rest L K1 env H = withQ (qstep (.slice0 x') (AEnv.trim env u) H) (d1V P (.slice0 x') d u false rest L K1 env H) noB noA := D1_pure rfl
theorem e_slice0 {x' : Operand} : awpD2 (⟨d, (.slice0 x'), none, u, lt⟩ :: rest) L Ps K env H = withQ (qstep (.slice0 x') (AEnv.trim env u) H) (d2V d rest L Ps K env H) noB noA := D2_pure rfl
theorem a_extract {i' : Nat} {x' : Operand} : acall P (.extract i' x') env H Ka = withQR (qstep (.extract i' x') env H) H Ka := quiet_res
theorem d_extract {i' : Nat} {x' : Operand} : stepD1 P (.extract i' x') d u lt rest L K1 env H = withQ (qstep (.extract i' x') (AEnv.trim env u) H) (d1V P (.extract i' x') d u false rest L K1 env H) noB noA := D1_pure rfl
theorem e_extract {i' : Nat} {x' : Operand} : awpD2 (⟨d, (.extract i' x'), none, u, lt⟩ :: rest) L Ps K env H = withQ (qstep (.extract i' x') (AEnv.trim env u) H) (d2V d rest L Ps K env H) noB noA := D2_pure rfl
theorem a_len {x' : Operand} : acall P (.len x') env H Ka = withQR (qstep (.len x') env H) H Ka := quiet_res
theorem d_len {x' : Operand} : stepD1 P (.len x') d u lt rest L K1 env H = withQ (qstep (.len x') (AEnv.trim env u) H) (d1V P (.len x') d u lt rest L K1 env H) noB noA := D1_load rfl
theorem e_len {x' : Operand} : awpD2 (⟨d, (.len x'), none, u, lt⟩ :: rest) L Ps K env H = withQ (qstep (.len x') (AEnv.trim env u) H) (d2L (.len x') d u rest L Ps K env H) noB noA := D2_load rfl
theorem a_lenS {x' : Operand} : acall P (.lenS x') env H Ka = withQR (qstep (.lenS x') env H) H Ka := quiet_res
theorem d_lenS {x' : Operand} : stepD1 P (.lenS x') d u lt rest L K1 env H = withQ (qstep (.lenS x') (AEnv.trim env u) H) (d1V P (.lenS x') d u false rest L K1 env H) noB noA := D1_pure rfl
theorem e_lenS {x' : Operand} : awpD2 (⟨d, (.lenS x'), none, u, lt⟩ :: rest) L Ps K env H = withQ (qstep (.lenS x') (AEnv.trim env u) H) (d2V d rest L Ps K env H) noB noA := D2_pure rfl
theorem a_mm {mx' : Bool} {args' : List Operand} : acall P (.mm mx' args') env H Ka = withQR (qstep (.mm mx' args') env H) H Ka := quiet_res
theorem d_mm {mx' : Bool} {args' : List Operand} : stepD1 P (.mm mx' args') d u lt rest L K1 env H = withQ (qstep (.mm mx' args') (AEnv.trim env u) H) (d1V P (.mm mx' args') d u false rest L K1 env H) noB noA := D1_pure rfl
theorem e_mm {mx' : Bool} {args' : List Operand} : awpD2 (⟨d, (.mm mx' args'), none, u, lt⟩ :: rest) L Ps K env H = withQ (qstep (.mm mx' args') (AEnv.trim env u) H) (d2V d rest L Ps K env H) noB noA := D2_pure rfl
theorem a_un {op' : UnOp} {x' : Operand} : acall P (.un op' x') env H Ka = withQR (qstep (.un op' x') env H) H Ka := quiet_res
theorem d_un {op' : UnOp} {x' : Operand} : stepD1 P (.un op' x') d u lt rest L K1 env H = withQ (qstep (.un op' x') (AEnv.trim env u) H) (d1V P (.un op' x') d u false rest L K1 env H) noB noA := D1_pure rfl
theorem e_un {op' : UnOp} {x' : Operand} : awpD2 (⟨d, (.un op' x'), none, u, lt⟩ :: rest) L Ps K env H = withQ (qstep (.un op' x') (AEnv.trim env u) H) (d2V d rest L Ps K env H) noB noA := D2_pure rfl
theorem a_bin {op' : BinOp} {x' : Operand} {y' : Operand} : acall P (.bin op' x' y') env H Ka = withQR (qstep (.bin op' x' y') env H) H Ka := quiet_res
theorem d_bin {op' : BinOp} {x' : Operand} {y' : Operand} : stepD1 P (.bin op' x' y') d u lt rest L K1 env H = withQ (qstep (.bin op' x' y') (AEnv.trim env u) H) (d1V P (.bin op' x' y') d u false rest L K1 env H) noB noA := D1_pure rfl
theorem e_bin {op' : BinOp} {x' : Operand} {y' : Operand} : awpD2 (⟨d, (.bin op' x' y'), none, u, lt⟩ :: rest) L Ps K env H = withQ (qstep (.bin op' x' y') (AEnv.trim env u) H) (d2V d rest L Ps K env H) noB noA := D2_pure rfl
theorem a_binB {neg' : Bool} {x' : Operand} {y' : Operand} : acall P (.binB neg' x' y') env H Ka = withQR (qstep (.binB neg' x' y') env H) H Ka := quiet_res
theorem d_binB {neg' : Bool} {x' : Operand} {y' : Operand} : stepD1 P (.binB neg' x' y') d u lt rest L K1 env H = withQ (qstep (.binB neg' x' y') (AEnv.trim env u) H) (d1V P (.binB neg' x' y') d u false rest L K1 env H) noB noA := D1_pure rfl
theorem e_binB {neg' : Bool} {x' : Operand} {y' : Operand} : awpD2 (⟨d, (.binB neg' x' y'), none, u, lt⟩ :: rest) L Ps K env H = withQ (qstep (.binB neg' x' y') (AEnv.trim env u) H) (d2V d rest L Ps K env H) noB noA := D2_pure rfl
theorem a_eqA {neg' : Bool} {offs' : List (Nat × Nat)} {x' : Operand} {y' : Operand} : acall P (.eqA neg' offs' x' y') env H Ka = withQR (qstep (.eqA neg' offs' x' y') env H) H Ka := quiet_res
theorem d_eqA {neg' : Bool} {offs' : List (Nat × Nat)} {x' : Operand} {y' : Operand} : stepD1 P (.eqA neg' offs' x' y') d u lt rest L K1 env H = withQ (qstep (.eqA neg' offs' x' y') (AEnv.trim env u) H) (d1V P (.eqA neg' offs' x' y') d u false rest L K1 env H) noB noA := D1_pure rfl
theorem e_eqA {neg' : Bool} {offs' : List (Nat × Nat)} {x' : Operand} {y' : Operand} : awpD2 (⟨d, (.eqA neg' offs' x' y'), none, u, lt⟩ :: rest) L Ps K env H = withQ (qstep (.eqA neg' offs' x' y') (AEnv.trim env u) H) (d2V d rest L Ps K env H) noB noA := D2_pure rfl
theorem a_conv {k' : IntKind} {x' : Operand} : acall P (.conv k' x') env H Ka = withQR (qstep (.conv k' x') env H) H Ka := quiet_res
theorem d_conv {k' : IntKind} {x' : Operand} : stepD1 P (.conv k' x') d u lt rest L K1 env H = withQ (qstep (.conv k' x') (AEnv.trim env u) H) (d1V P (.conv k' x') d u false rest L K1 env H) noB noA := D1_pure rfl
theorem e_conv {k' : IntKind} {x' : Operand} : awpD2 (⟨d, (.conv k' x'), none, u, lt⟩ :: rest) L Ps K env H = withQ (qstep (.conv k' x') (AEnv.trim env u) H) (d2V d rest L Ps K env H) noB noA := D2_pure rfl
theorem a_iface {t' : Nat} {x' : Operand} : acall P (.iface t' x') env H Ka = withQR (qstep (.iface t' x') env H) H Ka := quiet_res
theorem d_iface {t' : Nat} {x' : Operand} : stepD1 P (.iface t' x') d u lt rest L K1 env H = withQ (qstep (.iface t' x') (AEnv.trim env u) H) (d1V P (.iface t' x') d u false rest L K1 env H) noB noA := D1_pure rfl
theorem e_iface {t' : Nat} {x' : Operand} : awpD2 (⟨d, (.iface t' x'), none, u, lt⟩ :: rest) L Ps K env H = withQ (qstep (.iface t' x') (AEnv.trim env u) H) (d2V d rest L Ps K env H) noB noA := D2_pure rfl
theorem a_mkfun {fn' : Fn} {first' : List Operand} {caps' : List Operand} : acall P (.mkfun fn' first' caps') env H Ka = withQR (qstep (.mkfun fn' first' caps') env H) H Ka := quiet_res
theorem d_mkfun {fn' : Fn} {first' : List Operand} {caps' : List Operand} : stepD1 P (.mkfun fn' first' caps') d u lt rest L K1 env H = withQ (qstep (.mkfun fn' first' caps') (AEnv.trim env u) H) (d1V P (.mkfun fn' first' caps') d u false rest L K1 env H) noB noA := D1_pure rfl
theorem e_mkfun {fn' : Fn} {first' : List Operand} {caps' : List Operand} : awpD2 (⟨d, (.mkfun fn' first' caps'), none, u, lt⟩ :: rest) L Ps K env H = withQ (qstep (.mkfun fn' first' caps') (AEnv.trim env u) H) (d2V d rest L Ps K env H) noB noA := D2_pure rfl
theorem a_nilchk {x' : Operand} : acall P (.nilchk x') env H Ka = withQR (qstep (.nilchk x') env H) H Ka := quiet_res
theorem d_nilchk {x' : Operand} : stepD1 P (.nilchk x') d u lt rest L K1 env H = withQ (qstep (.nilchk x') (AEnv.trim env u) H) (d1V P (.nilchk x') d u false rest L K1 env H) noB noA := D1_pure rfl
theorem e_nilchk {x' : Operand} : awpD2 (⟨d, (.nilchk x'), none, u, lt⟩ :: rest) L Ps K env H = withQ (qstep (.nilchk x') (AEnv.trim env u) H) (d2V d rest L Ps K env H) noB noA := D2_pure rfl
theorem a_store {s' : Nat} {g' : Bool} {x' v' : Operand} : acall P (.store s' g' x' v') env H Ka = withRes (sstep (.store s' g' x' v') env H) Ka := rfl
theorem e_store {s' : Nat} {g' : Bool} {x' v' : Operand} : awpD2 (⟨d, .store s' g' x' v', none, u, lt⟩ :: rest) L Ps K env H = withW (sstep (.store s' g' x' v') (AEnv.trim env u) H) (d2W d rest L Ps K env H) := D2_write rfl
theorem a_append {e' s' bytes' : Nat} {x' y' : Operand} : acall P (.append e' s' bytes' x' y') env H Ka = withRes (sstep (.append e' s' bytes' x' y') env H) Ka := rfl
theorem e_append {e' s' bytes' : Nat} {x' y' : Operand} : awpD2 (⟨d, .append e' s' bytes' x' y', none, u, lt⟩ :: rest) L Ps K env H = withW (sstep (.append e' s' bytes' x' y') (AEnv.trim env u) H) (d2W d rest L Ps K env H) := D2_write rfl
theorem a_slice3 {s' : Nat} {x' : Operand} {lo' hi' mx' : Option Operand} : acall P (.slice3 s' x' lo' hi' mx') env H Ka = withQR (qstep (.slice3 s' x' lo' hi' mx') env H) H Ka := quiet_res
theorem d_slice3 {s' : Nat} {x' : Operand} {lo' hi' mx' : Option Operand} : stepD1 P (.slice3 s' x' lo' hi' mx') d u lt rest L K1 env H = withQ (qstep (.slice3 s' x' lo' hi' mx') (AEnv.trim env u) H) (d1V P (.slice3 s' x' lo' hi' mx') d u lt rest L K1 env H) noB noA := D1_load rfl
theorem e_slice3 {s' : Nat} {x' : Operand} {lo' hi' mx' : Option Operand} : awpD2 (⟨d, (.slice3 s' x' lo' hi' mx'), none, u, lt⟩ :: rest) L Ps K env H = withQ (qstep (.slice3 s' x' lo' hi' mx') (AEnv.trim env u) H) (d2L (.slice3 s' x' lo' hi' mx') d u rest L Ps K env H) noB noA := D2_load rfl
theorem a_clear {s' : Nat} {z' : List AV} {x' : Operand} : acall P (.clear s' z' x') env H Ka = withRes (sstep (.clear s' z' x') env H) Ka := rfl
theorem e_clear {s' : Nat} {z' : List AV} {x' : Operand} : awpD2 (⟨d, .clear s' z' x', none, u, lt⟩ :: rest) L Ps K env H = withW (sstep (.clear s' z' x') (AEnv.trim env u) H) (d2W d rest L Ps K env H) := D2_write rfl
theorem a_copy {s' : Nat} {x' y' : Operand} : acall P (.copy s' x' y') env H Ka = withRes (sstep (.copy s' x' y') env H) Ka := rfl
theorem e_copy {s' : Nat} {x' y' : Operand} : awpD2 (⟨d, .copy s' x' y', none, u, lt⟩ :: rest) L Ps K env H = withW (sstep (.copy s' x' y') (AEnv.trim env u) H) (d2W d rest L Ps K env H) := D2_write rfl
theorem d_call {f' : FuncId} {args' : List Operand} : stepD1 P (.call f' args') d u lt rest L K1 env H = withT (target P (.call f' args') (AEnv.trim env u)) (d1T P d rest L K1 env H) := D1_call rfl
theorem d_callv {f' : Operand} {args' : List Operand} : stepD1 P (.callv f' args') d u lt rest L K1 env H = withT (target P (.callv f' args') (AEnv.trim env u)) (d1T P d rest L K1 env H) := D1_call rfl
theorem d_invoke {x' : Operand} {n' : String} {args' : List Operand} : stepD1 P (.invoke x' n' args') d u lt rest L K1 env H = withT (target P (.invoke x' n' args') (AEnv.trim env u)) (d1T P d rest L K1 env H) := D1_call rfl
end
section
variable {P : Program} {K : AEnv → AHeap → Prop} {env : AEnv} {H : AHeap} {d : Option Nat} {io : IOp} {u : List Nat} {lt : Bool} {L : LL} {k r : AT} {rc : List Nat}
def tP (P : Program) (K : AEnv → AHeap → Prop) (k : AT) (d : Option Nat) (L : LL) (env : AEnv) (H : AHeap) : AV → Prop := fun v => awpT P K k L (envput d v env) H
def tL (P : Program) (K : AEnv → AHeap → Prop) (k : AT) (i : Nat) (io : IOp) (u : List Nat) (d : Option Nat) (L : LL) (env : AEnv) (H : AHeap) : AV → Prop := fun v => awpT P K k ((i, io, AEnv.trim env u, v) :: L) (envput d v env) H
def tA (P : Program) (K : AEnv → AHeap → Prop) (k : AT) (rc : List Nat) (d : Option Nat) (L : LL) (env : AEnv) : AV → AHeap → Prop := fun x H' => Reads rc L H' ∧ awpT P K k L (envput d x env) H'
theorem tP_app {v : AV} : tP P K k d L env H v = awpT P K k L (envput d v env) H := rfl
theorem tL_app {i : Nat} {v : AV} : tL P K k i io u d L env H v = awpT P K k ((i, io, AEnv.trim env u, v) :: L) (envput d v env) H := rfl
theorem tA_app {x : AV} {H' : AHeap} : tA P K k rc d L env x H' = (Reads rc L H' ∧ awpT P K k L (envput d x env) H') := rfl
theorem T_fin : awpT P K .fin L env H = K env H := rfl
theorem T_stop : awpT P K .stop L env H = True := rfl
theorem T_pure : awpT P K (.pure ⟨d, io, none, u, lt⟩ k) L env H = withQ (qstep io (AEnv.trim env u) H) (tP P K k d L env H) noB noA := by
  simp only [awpT, withQ, tP]
  cases qstep io (AEnv.trim env u) H with
  | none => rfl
  | some q => cases q <;> rfl
theorem T_load {i : Nat} : awpT P K (.load i ⟨d, io, none, u, lt⟩ k) L env H = withQ (qstep io (AEnv.trim env u) H) (tL P K k i io u d L env H) noB noA := by
  simp only [awpT, withQ, tL]
  cases qstep io (AEnv.trim env u) H with
  | none => rfl
  | some q => cases q <;> rfl
theorem T_alt : awpT P K (.alt ⟨d, io, none, u, lt⟩ rc k r) L env H = (acall P io (AEnv.trim env u) H (tA P K k rc d L env) ∧ awpT P K r L env H) := rfl
theorem reads_nil : Reads rc [] H = True := rfl
theorem reads_cons {t : Nat × IOp × AEnv × AV} : Reads rc (t :: L) H = ((if rc.contains t.1 = true then qstep t.2.1 t.2.2.1 H = some (.val t.2.2.2) else True) ∧ Reads rc L H) := rfl
end
end Go.Awp
