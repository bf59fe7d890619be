/- The walk's rules, in the form in which they rewrite: what is still to come stands in names, so that nobody looks into it before its turn. Generic in the program. -/
import Derived.Test.YtomejgikdelgkaaGreatDoorA5
import Derived.Deep.Slices
import Derived.OpenShut
import Derived.WideShapes
set_option linter.unusedVariables false
set_option linter.unusedSimpArgs false
set_option linter.unusedSectionVars false
namespace Go.Awp
set_option linter.unusedSectionVars false
variable [Fx]
def withRes (r : Option (Option AV × AHeap)) (K : AV → AHeap → Prop) : Prop :=
  match r with
  | some (some x, H') => K x H'
  | some (none, H') => K (.tuple []) H'
  | none => False
theorem withRes_val {x : AV} {H : AHeap} {K : AV → AHeap → Prop} : withRes (some (some x, H)) K = K x H := rfl
theorem withRes_skip {H : AHeap} {K : AV → AHeap → Prop} : withRes (some (none, H)) K = K (.tuple []) H := rfl
def withGuard (v : Option AV) (want : Bool) (on off : Bool → Prop) (gone : Unit → Prop) : Prop :=
  match v with
  | some (.bool c) => (c = want → on want) ∧ (c = !want → off (!want))
  | some (.tuple []) => gone ()
  | _ => False
theorem withGuard_tt {on off : Bool → Prop} {gone : Unit → Prop} : withGuard (some (.bool true)) true on off gone = on true := by simp [withGuard]
theorem withGuard_ff {on off : Bool → Prop} {gone : Unit → Prop} : withGuard (some (.bool false)) false on off gone = on false := by simp [withGuard]
theorem withGuard_tf {on off : Bool → Prop} {gone : Unit → Prop} : withGuard (some (.bool true)) false on off gone = off true := by simp [withGuard]
theorem withGuard_ft {on off : Bool → Prop} {gone : Unit → Prop} : withGuard (some (.bool false)) true on off gone = off false := by simp [withGuard]
theorem withGuard_gone {want : Bool} {on off : Bool → Prop} {gone : Unit → Prop} : withGuard (some (.tuple [])) want on off gone = gone () := rfl
/-- A guard that is not decided: both ways. -/
theorem withGuard_intro {c want : Bool} {on off : Bool → Prop} {gone : Unit → Prop} (h1 : c = want → on want) (h2 : c = !want → off (!want)) : withGuard (some (.bool c)) want on off gone := ⟨h1, h2⟩
section
variable {P : Program} {K : AEnv → AHeap → Prop} {Ka : AV → AHeap → Prop} {env : AEnv} {H : AHeap} {rest : List IStmt} {d : Option Nat} {io : IOp} {u : List Nat} {lt : Bool} {Q : AX → AEnv → AHeap → Prop} {a b : IR}
def opsK (P : Program) (d : Option Nat) (rest : List IStmt) (K : AEnv → AHeap → Prop) (env : AEnv) : AV → AHeap → Prop := fun x H' => awpOps P rest K (envput d x env) H'
def gOn (P : Program) (io : IOp) (d : Option Nat) (rest : List IStmt) (K : AEnv → AHeap → Prop) (g : Nat) (env : AEnv) (H : AHeap) : Bool → Prop := fun c => acall P io ((g, .bool c) :: env) H (opsK P d rest K ((g, .bool c) :: env))
def gOff (P : Program) (d : Option Nat) (rest : List IStmt) (K : AEnv → AHeap → Prop) (g : Nat) (env : AEnv) (H : AHeap) : Bool → Prop := fun c => awpOps P rest K (envput d (.tuple []) ((g, .bool c) :: env)) H
def gGone (P : Program) (d : Option Nat) (rest : List IStmt) (K : AEnv → AHeap → Prop) (env : AEnv) (H : AHeap) : Unit → Prop := fun _ => awpOps P rest K (envput d (.tuple []) env) H
theorem opsK_app {x : AV} {H' : AHeap} : opsK P d rest K env x H' = awpOps P rest K (envput d x env) H' := rfl
theorem gOn_app {g : Nat} {c : Bool} : gOn P io d rest K g env H c = acall P io ((g, .bool c) :: env) H (opsK P d rest K ((g, .bool c) :: env)) := rfl
theorem gOff_app {g : Nat} {c : Bool} : gOff P d rest K g env H c = awpOps P rest K (envput d (.tuple []) ((g, .bool c) :: env)) H := rfl
theorem gGone_app : gGone P d rest K env H () = awpOps P rest K (envput d (.tuple []) env) H := rfl
theorem ops_nil : awpOps P [] K env H = K env H := rfl
theorem ops_none : awpOps P (⟨d, io, none, u, lt⟩ :: rest) K env H = acall P io env H (opsK P d rest K env) := rfl
theorem ops_some {g : Nat} {want : Bool} : awpOps P (⟨d, io, some (g, want), u, lt⟩ :: rest) K env H = withGuard (AEnv.get env g) want (gOn P io d rest K g env H) (gOff P d rest K g env H) (gGone P d rest K env H) := rfl
def isCall : IOp → Bool
  | .call .. | .callv .. | .invoke .. | .isnil .. | .mknil => true
  | _ => false
def withArgs (r : Option (List AV)) (K : List AV → Prop) : Prop :=
  match r with
  | some vs => K vs
  | none => False
theorem withArgs_some {vs : List AV} {K : List AV → Prop} : withArgs (some vs) K = K vs := rfl
def callK (P : Program) (f : FuncId) (H : AHeap) (Ka : AV → AHeap → Prop) : List AV → Prop := fun vs => ACall P f vs H Ka
theorem callK_app {f : FuncId} {vs : List AV} : callK P f H Ka vs = ACall P f vs H Ka := rfl
def callvK (P : Program) (f : FuncId) (first caps : List AV) (H : AHeap) (Ka : AV → AHeap → Prop) : List AV → Prop := fun vs => ACall P f (first ++ vs ++ caps) H Ka
theorem callvK_app {f : FuncId} {first caps vs : List AV} : callvK P f first caps H Ka vs = ACall P f (first ++ vs ++ caps) H Ka := rfl
theorem acall_call {f : FuncId} {args : List Operand} : acall P (.call f args) env H Ka = withArgs (evs env args) (callK P f H Ka) := rfl
def withFun (v : Option AV) (K : FuncId → List AV → List AV → Prop) : Prop :=
  match v with
  | some (.func (.func f) first caps) => K f first caps
  | _ => False
theorem withFun_app {f : FuncId} {first caps : List AV} {K : FuncId → List AV → List AV → Prop} : withFun (some (.func (.func f) first caps)) K = K f first caps := rfl
def funK (P : Program) (args : List Operand) (env : AEnv) (H : AHeap) (Ka : AV → AHeap → Prop) : FuncId → List AV → List AV → Prop := fun f first caps => withArgs (evs env args) (callvK P f first caps H Ka)
theorem funK_app {args : List Operand} {f : FuncId} {first caps : List AV} : funK P args env H Ka f first caps = withArgs (evs env args) (callvK P f first caps H Ka) := rfl
theorem acall_callv {x : Operand} {args : List Operand} (h : withFun (ev env x) (funK P args env H Ka)) : acall P (.callv x args) env H Ka := by
  simp only [acall]
  unfold withFun at h
  split at h
  · rename_i hx
    simp only [hx]
    unfold funK withArgs callvK at h
    split at h
    · rename_i hvs; simp only [hvs]; exact h
    · exact h.elim
  · exact h.elim
theorem a_mknil : acall P .mknil env H Ka = Ka .nilSlice H := rfl
theorem acall_isnil {neg : Bool} {x : Operand} {v : AV} {k : IntKind} {n : Int} (hv : ev env x = some v) (hn : alen H v = some (.int k n)) (h1 : 0 < n → Ka (.bool neg) H) (h2 : ¬ 0 < n → ∀ b, Ka (.bool b) H) : acall P (.isnil neg x) env H Ka := by
  simp only [acall, hv, hn]
  split
  · exact h1 ‹_›
  · exact h2 ‹_›
theorem awp_skip : awp P .skip Q env H = Q .normal env H := rfl
theorem awp_ops {l : List IStmt} : awp P (.ops l) Q env H = awpOps P l (Q .normal) env H := rfl
theorem awp_trim {k : List Nat} : awp P (.trim k) Q env H = Q .normal (AEnv.trim env k) H := rfl
def tlK (P : Program) (tl : List IStmt) (Q : AX → AEnv → AHeap → Prop) : AEnv → AHeap → Prop := fun env H => awpOps P tl (Q .normal) env H
theorem tlK_app {tl : List IStmt} : tlK P tl Q env H = awpOps P tl (Q .normal) env H := rfl
def postK (P : Program) (post tl : List IStmt) (Q : AX → AEnv → AHeap → Prop) : List (IOp × AEnv × AV) → AEnv → AHeap → Prop := fun L env H => awpD2 post L [] (tlK P tl Q) env H
theorem postK_app {post tl : List IStmt} {L : List (IOp × AEnv × AV)} : postK P post tl Q L env H = awpD2 post L [] (tlK P tl Q) env H := rfl
theorem awp_opsD {pre post tl : List IStmt} : awp P (.opsD pre post tl) Q env H = awpD1 P pre [] (postK P post tl Q) env H := rfl
theorem awp_opsA {t : AT} {tl : List IStmt} : awp P (.opsA t tl) Q env H = awpT P (tlK P tl Q) t [] env H := rfl
def thenQ (P : Program) (b : IR) (Q : AX → AEnv → AHeap → Prop) : AX → AEnv → AHeap → Prop := fun x e h => match x with | .normal => awp P b Q e h | x => Q x e h
def blockQ (id : Nat) (Q : AX → AEnv → AHeap → Prop) : AX → AEnv → AHeap → Prop := fun x e h => match x with | .exit i => if i = id then Q .normal e h else Q (.exit i) e h | x => Q x e h
def loopQ (J : AEnv → AHeap → Prop) (Q : AX → AEnv → AHeap → Prop) : AX → AEnv → AHeap → Prop := fun x e' h' => match x with | .normal => J e' h' | x => Q x e' h'
def scopeQ (l : Nat) (J : AEnv → AHeap → Prop) (Q : AX → AEnv → AHeap → Prop) : AX → AEnv → AHeap → Prop := fun x e' h' => match x with | .goto l' => if l' = l then J e' h' else Q (.goto l') e' h' | x => Q x e' h'
theorem awp_seq : awp P (.seq a b) Q env H = awp P a (thenQ P b Q) env H := rfl
theorem awp_block {id : Nat} : awp P (.block id a) Q env H = awp P a (blockQ id Q) env H := rfl
theorem awp_exit {id : Nat} : awp P (.exit id) Q env H = Q (.exit id) env H := rfl
theorem awp_ret : awp P .ret Q env H = Q .ret env H := rfl
theorem awp_label {l : Nat} : awp P (.label l) Q env H = Q .normal env H := rfl
theorem awp_goto {l : Nat} : awp P (.goto l) Q env H = Q (.goto l) env H := rfl
theorem then_normal : thenQ P b Q .normal env H = awp P b Q env H := rfl
theorem then_exit {i : Nat} : thenQ P b Q (.exit i) env H = Q (.exit i) env H := rfl
theorem then_goto {i : Nat} : thenQ P b Q (.goto i) env H = Q (.goto i) env H := rfl
theorem then_ret : thenQ P b Q .ret env H = Q .ret env H := rfl
theorem block_normal {i : Nat} : blockQ i Q .normal env H = Q .normal env H := rfl
theorem block_ret {i : Nat} : blockQ i Q .ret env H = Q .ret env H := rfl
theorem block_goto {i l : Nat} : blockQ i Q (.goto l) env H = Q (.goto l) env H := rfl
theorem block_exit {i : Nat} : blockQ i Q (.exit i) env H = Q .normal env H := by simp [blockQ]
theorem block_exit_ne {i j : Nat} (h : (i == j) = false) : blockQ j Q (.exit i) env H = Q (.exit i) env H := by
  have : i ≠ j := by simpa using h
  simp [blockQ, this]
theorem loop_normal {J : AEnv → AHeap → Prop} : loopQ J Q .normal env H = J env H := rfl
theorem loop_exit {i : Nat} {J : AEnv → AHeap → Prop} : loopQ J Q (.exit i) env H = Q (.exit i) env H := rfl
theorem loop_goto {i : Nat} {J : AEnv → AHeap → Prop} : loopQ J Q (.goto i) env H = Q (.goto i) env H := rfl
theorem loop_ret {J : AEnv → AHeap → Prop} : loopQ J Q .ret env H = Q .ret env H := rfl
theorem scope_normal {l : Nat} {J : AEnv → AHeap → Prop} : scopeQ l J Q .normal env H = Q .normal env H := rfl
theorem scope_exit {l i : Nat} {J : AEnv → AHeap → Prop} : scopeQ l J Q (.exit i) env H = Q (.exit i) env H := rfl
theorem scope_ret {l : Nat} {J : AEnv → AHeap → Prop} : scopeQ l J Q .ret env H = Q .ret env H := rfl
theorem scope_goto {l : Nat} {J : AEnv → AHeap → Prop} : scopeQ l J Q (.goto l) env H = J env H := by simp [scopeQ]
def withBool (v : Option AV) (t f : Unit → Prop) : Prop :=
  match v with
  | some (.bool c) => (c = true → t ()) ∧ (c = false → f ())
  | _ => False
theorem withBool_t {t f : Unit → Prop} : withBool (some (.bool true)) t f = t () := by simp [withBool]
theorem withBool_f {t f : Unit → Prop} : withBool (some (.bool false)) t f = f () := by simp [withBool]
theorem withBool_intro {c : Bool} {t f : Unit → Prop} (h1 : c = true → t ()) (h2 : c = false → f ()) : withBool (some (.bool c)) t f := ⟨h1, h2⟩
def condK (P : Program) (a : IR) (Q : AX → AEnv → AHeap → Prop) (env : AEnv) (H : AHeap) : Unit → Prop := fun _ => awp P a Q env H
theorem condK_app : condK P a Q env H () = awp P a Q env H := rfl
theorem awp_cond {c : Operand} : awp P (.cond c a b) Q env H = withBool (ev env c) (condK P a Q env H) (condK P b Q env H) := by
  simp only [awp, withBool, condK]
  cases ev env c with
  | none => rfl
  | some v => cases v <;> rfl
/-- A loop: an invariant over a state of one's own, and a measure. -/
def Again {σ : Type} (st : σ → AEnv) (hp : σ → AHeap → Prop) (I : σ → Prop) (μ : σ → Nat) (k : Nat) : AEnv → AHeap → Prop := fun e h => ∃ s', I s' ∧ μ s' < k ∧ e = st s' ∧ hp s' h
theorem awp_loop {σ : Type} (st : σ → AEnv) (hp : σ → AHeap → Prop) (I : σ → Prop) (μ : σ → Nat) (s0 : σ) (h0 : I s0) (he : env = st s0) (hH : hp s0 H)
    (round : ∀ s H, I s → hp s H → awp P a (loopQ (Again st hp I μ (μ s)) Q) (st s) H) : awp P (.loop a) Q env H := by
  refine ⟨fun k e h => ∃ s', I s' ∧ μ s' = k ∧ e = st s' ∧ hp s' h, μ s0, ⟨s0, h0, rfl, he, hH⟩, ?_⟩
  rintro k e h ⟨s, hs, rfl, rfl, hh⟩
  have := round s h hs hh
  refine awp_mono (fun x e' h' hx => ?_) this
  cases x with
  | normal => obtain ⟨s', q1, q2, q3, q4⟩ := hx; exact ⟨μ s', q2, s', q1, rfl, q3, q4⟩
  | exit i => exact hx
  | goto l => exact hx
  | ret => exact hx
/-- The round's end. -/
theorem loop_end {σ : Type} {st : σ → AEnv} {hp : σ → AHeap → Prop} {I : σ → Prop} {μ : σ → Nat} {k : Nat} (s' : σ) (hI : I s') (hk : μ s' < k) (he : env = st s') (hH : hp s' H) : Again st hp I μ k env H :=
  ⟨s', hI, hk, he, hH⟩
/-- A scope with one label: what holds at the label, and a measure. -/
theorem awp_scope {σ : Type} {l : Nat} {r : IR} (st : σ → AEnv) (hp : σ → AHeap → Prop) (I : σ → Prop) (μ : σ → Nat) (h0 : awp P a (scopeQ l (fun e h => ∃ s, I s ∧ e = st s ∧ hp s h) Q) env H)
    (round : ∀ s H, I s → hp s H → awp P r (scopeQ l (Again st hp I μ (μ s)) Q) (st s) H) : awp P (.scope a l r) Q env H := by
  refine ⟨fun k e h => ∃ s', I s' ∧ μ s' = k ∧ e = st s' ∧ hp s' h, ?_, ?_⟩
  · refine awp_mono (fun x e' h' hx => ?_) h0
    cases x with
    | goto l' =>
      simp only [scopeQ] at hx ⊢
      split at hx
      · rename_i hl
        rw [if_pos hl]
        obtain ⟨s, q1, q2, q3⟩ := hx; exact ⟨μ s, s, q1, rfl, q2, q3⟩
      · rename_i hl; rw [if_neg hl]; exact hx
    | normal => exact hx
    | exit i => exact hx
    | ret => exact hx
  · rintro k e h ⟨s, hs, rfl, rfl, hh⟩
    refine awp_mono (fun x e' h' hx => ?_) (round s h hs hh)
    cases x with
    | goto l' =>
      simp only [scopeQ] at hx ⊢
      split at hx
      · rename_i hl
        rw [if_pos hl]
        obtain ⟨s', q1, q2, q3, q4⟩ := hx; exact ⟨μ s', q2, s', q1, rfl, q3, q4⟩
      · rename_i hl; rw [if_neg hl]; exact hx
    | normal => exact hx
    | exit i => exact hx
    | ret => exact hx
theorem call_pure {f : FuncId} {xs ys : List AV} {r : AV} (h : PCall P f ys r) (hf : FrzL H xs ys) (hk : Ka r H) : ACall P f xs H Ka :=
  (PCall.lift h hf).mono fun _ _ ⟨h1, h2⟩ => by rw [h1, h2]; exact hk
theorem call_new {f : FuncId} {xs ys : List AV} {e sz : Nat} {els : List (List AV)} (h : NCall P f ys e sz els) (hf : FrzL H xs ys) (hk : Ka (.own H.length els.length 0 els.length) (H ++ [some ⟨e, sz, els⟩])) : ACall P f xs H Ka :=
  (NCall.lift h hf).mono fun _ _ ⟨h1, h2⟩ => by rw [h1, h2]; exact hk
-- regions that draw
def withW (r : Option (Option AV × AHeap)) (K : AV → AHeap → Prop) : Prop :=
  match r with
  | some (x, H') => K (x.getD (.tuple [])) H'
  | none => False
theorem withW_val {x : AV} {H : AHeap} {K : AV → AHeap → Prop} : withW (some (some x, H)) K = K x H := rfl
theorem withW_skip {H : AHeap} {K : AV → AHeap → Prop} : withW (some (none, H)) K = K (.tuple []) H := rfl
def Same : List (IOp × AEnv × AV) → AHeap → Prop
  | [], _ => True
  | t :: l, H => qstep t.1 t.2.1 H = some (.val t.2.2) ∧ Same l H
theorem same_all : ∀ {L : List (IOp × AEnv × AV)} {H : AHeap}, Same L H → ∀ t, t ∈ L → qstep t.1 t.2.1 H = some (.val t.2.2)
  | [], _, _, t, h => by cases h
  | x :: l, H, hs, t, h => by
    rcases List.mem_cons.1 h with rfl | h
    · exact hs.1
    · exact same_all hs.2 t h
theorem same_nil {H : AHeap} : Same [] H = True := rfl
theorem same_cons {t : IOp × AEnv × AV} {l : List (IOp × AEnv × AV)} {H : AHeap} : Same (t :: l) H = (qstep t.1 t.2.1 H = some (.val t.2.2) ∧ Same l H) := rfl
def withQ (r : Option QR) (val : AV → Prop) (box : Nat → Nat → List AV → Prop) (arr : Nat → Nat → List (List AV) → Prop) : Prop :=
  match r with
  | some (.val v) => val v
  | some (.box e s c) => box e s c
  | some (.arr e s c) => arr e s c
  | none => False
theorem withQ_val {v : AV} {val : AV → Prop} {box : Nat → Nat → List AV → Prop} {arr : Nat → Nat → List (List AV) → Prop} : withQ (some (.val v)) val box arr = val v := rfl
theorem withQ_box {e s : Nat} {c : List AV} {val : AV → Prop} {box : Nat → Nat → List AV → Prop} {arr : Nat → Nat → List (List AV) → Prop} : withQ (some (.box e s c)) val box arr = box e s c := rfl
theorem withQ_arr {e s : Nat} {c : List (List AV)} {val : AV → Prop} {box : Nat → Nat → List AV → Prop} {arr : Nat → Nat → List (List AV) → Prop} : withQ (some (.arr e s c)) val box arr = arr e s c := rfl
def withT (r : Option (FuncId × List AV)) (K : FuncId → List AV → Prop) : Prop :=
  match r with
  | some (f, vs) => K f vs
  | none => False
theorem withT_some {f : FuncId} {vs : List AV} {K : FuncId → List AV → Prop} : withT (some (f, vs)) K = K f vs := rfl
/-- A call within a region that draws. -/
def DCall (P : Program) (f : FuncId) (vs : List AV) (H : AHeap) (K : AV → AHeap → Prop) : Prop := (∃ ys r, (∀ X : AHeap, FrzL (H ++ X) vs ys) ∧ PCall P f ys r ∧ K r H) ∨
  (∃ ys e sz els, (∀ X : AHeap, FrzL (H ++ X) vs ys) ∧ NCall P f ys e sz els ∧ K (.own H.length els.length 0 els.length) (H ++ [some ⟨e, sz, els⟩]))
theorem dcall_pure {f : FuncId} {vs ys : List AV} {r : AV} {K : AV → AHeap → Prop} (h : PCall P f ys r) (hf : ∀ X : AHeap, FrzL (H ++ X) vs ys) (hk : K r H) : DCall P f vs H K := .inl ⟨ys, r, hf, h, hk⟩
def d1K (P : Program) (d : Option Nat) (rest : List IStmt) (L : List (IOp × AEnv × AV)) (K1 : List (IOp × AEnv × AV) → AEnv → AHeap → Prop) (env : AEnv) : AV → AHeap → Prop := fun r H' => awpD1 P rest L K1 (envput d r env) H'
def d1V (P : Program) (io : IOp) (d : Option Nat) (u : List Nat) (lt : Bool) (rest : List IStmt) (L : List (IOp × AEnv × AV)) (K1 : List (IOp × AEnv × AV) → AEnv → AHeap → Prop) (env : AEnv) (H : AHeap) : AV → Prop := fun v => awpD1 P rest (if lt then (io, AEnv.trim env u, v) :: L else L) K1 (envput d v env) H
def d1B (P : Program) (d : Option Nat) (rest : List IStmt) (L : List (IOp × AEnv × AV)) (K1 : List (IOp × AEnv × AV) → AEnv → AHeap → Prop) (env : AEnv) (H : AHeap) : Nat → Nat → List AV → Prop := fun e sz cells => awpD1 P rest L K1 (envput d (.ptr H.length 1 0 0) env) (H ++ [some ⟨e, sz, [cells]⟩])
def d1A (P : Program) (d : Option Nat) (rest : List IStmt) (L : List (IOp × AEnv × AV)) (K1 : List (IOp × AEnv × AV) → AEnv → AHeap → Prop) (env : AEnv) (H : AHeap) : Nat → Nat → List (List AV) → Prop := fun e sz els => awpD1 P rest L K1 (envput d (.own H.length els.length 0 els.length) env) (H ++ [some ⟨e, sz, els⟩])
def d1T (P : Program) (d : Option Nat) (rest : List IStmt) (L : List (IOp × AEnv × AV)) (K1 : List (IOp × AEnv × AV) → AEnv → AHeap → Prop) (env : AEnv) (H : AHeap) : FuncId → List AV → Prop := fun f vs => DCall P f vs H (d1K P d rest L K1 env)
def noA : Nat → Nat → List (List AV) → Prop := fun _ _ _ => False
def noB : Nat → Nat → List AV → Prop := fun _ _ _ => False
def noV : AV → Prop := fun _ => False
section
variable {L : List (IOp × AEnv × AV)} {K1 : List (IOp × AEnv × AV) → AEnv → AHeap → Prop}
theorem d1K_app {r : AV} {H' : AHeap} : d1K P d rest L K1 env r H' = awpD1 P rest L K1 (envput d r env) H' := rfl
theorem d1V_late {v : AV} : d1V P io d u true rest L K1 env H v = awpD1 P rest ((io, AEnv.trim env u, v) :: L) K1 (envput d v env) H := rfl
theorem d1V_early {v : AV} : d1V P io d u false rest L K1 env H v = awpD1 P rest L K1 (envput d v env) H := rfl
theorem d1B_app {e sz : Nat} {cells : List AV} : d1B P d rest L K1 env H e sz cells = awpD1 P rest L K1 (envput d (.ptr H.length 1 0 0) env) (H ++ [some ⟨e, sz, [cells]⟩]) := rfl
theorem d1A_app {e sz : Nat} {els : List (List AV)} : d1A P d rest L K1 env H e sz els = awpD1 P rest L K1 (envput d (.own H.length els.length 0 els.length) env) (H ++ [some ⟨e, sz, els⟩]) := rfl
theorem d1T_app {f : FuncId} {vs : List AV} : d1T P d rest L K1 env H f vs = DCall P f vs H (d1K P d rest L K1 env) := rfl
def stepD1 (P : Program) (io : IOp) (d : Option Nat) (u : List Nat) (lt : Bool) (rest : List IStmt) (L : List (IOp × AEnv × AV)) (K1 : List (IOp × AEnv × AV) → AEnv → AHeap → Prop) (env : AEnv) (H : AHeap) : Prop :=
  match cls io with
  | .pure => withQ (qstep io (AEnv.trim env u) H) (d1V P io d u false rest L K1 env H) noB noA
  | .load => withQ (qstep io (AEnv.trim env u) H) (d1V P io d u lt rest L K1 env H) noB noA
  | .alloc => withQ (qstep io (AEnv.trim env u) H) noV (d1B P d rest L K1 env H) (d1A P d rest L K1 env H)
  | .call => withT (target P io (AEnv.trim env u)) (d1T P d rest L K1 env H)
  | .write => False
theorem D1_pure (h : cls io = .pure) : stepD1 P io d u lt rest L K1 env H = withQ (qstep io (AEnv.trim env u) H) (d1V P io d u false rest L K1 env H) noB noA := by unfold stepD1; rw [h]
theorem D1_load (h : cls io = .load) : stepD1 P io d u lt rest L K1 env H = withQ (qstep io (AEnv.trim env u) H) (d1V P io d u lt rest L K1 env H) noB noA := by unfold stepD1; rw [h]
theorem D1_alloc (h : cls io = .alloc) : stepD1 P io d u lt rest L K1 env H = withQ (qstep io (AEnv.trim env u) H) noV (d1B P d rest L K1 env H) (d1A P d rest L K1 env H) := by unfold stepD1; rw [h]
theorem D1_call (h : cls io = .call) : stepD1 P io d u lt rest L K1 env H = withT (target P io (AEnv.trim env u)) (d1T P d rest L K1 env H) := by unfold stepD1; rw [h]
def d1On (P : Program) (io : IOp) (d : Option Nat) (u : List Nat) (lt : Bool) (rest : List IStmt) (L : List (IOp × AEnv × AV)) (K1 : List (IOp × AEnv × AV) → AEnv → AHeap → Prop) (g : Nat) (env : AEnv) (H : AHeap) : Bool → Prop := fun c => stepD1 P io d u lt rest L K1 ((g, .bool c) :: env) H
def d1Off (P : Program) (d : Option Nat) (rest : List IStmt) (L : List (IOp × AEnv × AV)) (K1 : List (IOp × AEnv × AV) → AEnv → AHeap → Prop) (g : Nat) (env : AEnv) (H : AHeap) : Bool → Prop := fun c => awpD1 P rest L K1 (envput d (.tuple []) ((g, .bool c) :: env)) H
def d1Gone (P : Program) (d : Option Nat) (rest : List IStmt) (L : List (IOp × AEnv × AV)) (K1 : List (IOp × AEnv × AV) → AEnv → AHeap → Prop) (env : AEnv) (H : AHeap) : Unit → Prop := fun _ => awpD1 P rest L K1 (envput d (.tuple []) env) H
theorem d1On_app {g : Nat} {c : Bool} : d1On P io d u lt rest L K1 g env H c = stepD1 P io d u lt rest L K1 ((g, .bool c) :: env) H := rfl
theorem d1Off_app {g : Nat} {c : Bool} : d1Off P d rest L K1 g env H c = awpD1 P rest L K1 (envput d (.tuple []) ((g, .bool c) :: env)) H := rfl
theorem d1Gone_app : d1Gone P d rest L K1 env H () = awpD1 P rest L K1 (envput d (.tuple []) env) H := rfl
theorem D1_nil : awpD1 P [] L K1 env H = K1 L env H := rfl
theorem D1_body : (match cls io with
        | .pure => (match qstep io (AEnv.trim env u) H with
          | some (.val v) => awpD1 P rest L K1 (envput d v env) H
          | _ => False)
        | .load => (match qstep io (AEnv.trim env u) H with
          | some (.val v) => awpD1 P rest (if lt then (io, AEnv.trim env u, v) :: L else L) K1 (envput d v env) H
          | _ => False)
        | .alloc => (match qstep io (AEnv.trim env u) H with
          | some (.box e sz cells) => awpD1 P rest L K1 (envput d (.ptr H.length 1 0 0) env) (H ++ [some ⟨e, sz, [cells]⟩])
          | some (.arr e sz els) => awpD1 P rest L K1 (envput d (.own H.length els.length 0 els.length) env) (H ++ [some ⟨e, sz, els⟩])
          | _ => False)
        | .call => (match target P io (AEnv.trim env u) with
          | some (f, vs) => (∃ ys r, (∀ X : AHeap, FrzL (H ++ X) vs ys) ∧ PCall P f ys r ∧ awpD1 P rest L K1 (envput d r env) H) ∨
              (∃ ys e sz els, (∀ X : AHeap, FrzL (H ++ X) vs ys) ∧ NCall P f ys e sz els ∧ awpD1 P rest L K1 (envput d (.own H.length els.length 0 els.length) env) (H ++ [some ⟨e, sz, els⟩]))
          | none => False)
        | .write => False) = stepD1 P io d u lt rest L K1 env H := by
  unfold stepD1
  cases cls io with
  | pure => simp only; cases qstep io (AEnv.trim env u) H with | none => rfl | some q => cases q <;> rfl
  | load => simp only; cases qstep io (AEnv.trim env u) H with | none => rfl | some q => cases q <;> rfl
  | alloc => simp only; cases qstep io (AEnv.trim env u) H with | none => rfl | some q => cases q <;> rfl
  | call => simp only; cases target P io (AEnv.trim env u) with | none => rfl | some q => rfl
  | write => rfl
theorem D1_none : awpD1 P (⟨d, io, none, u, lt⟩ :: rest) L K1 env H = stepD1 P io d u lt rest L K1 env H := by
  simp only [awpD1, guardD]
  exact D1_body
theorem D1_some {g : Nat} {want : Bool} : awpD1 P (⟨d, io, some (g, want), u, lt⟩ :: rest) L K1 env H = withGuard (AEnv.get env g) want (d1On P io d u lt rest L K1 g env H) (d1Off P d rest L K1 g env H) (d1Gone P d rest L K1 env H) := by
  have e : awpD1 P (⟨d, io, some (g, want), u, lt⟩ :: rest) L K1 env H = guardD (some (g, want)) env (fun env => stepD1 P io d u lt rest L K1 env H) (fun env => awpD1 P rest L K1 (envput d (.tuple []) env) H) := by
    rw [awpD1]
    exact congrArg (fun f => guardD (some (g, want)) env f _) (funext fun e => D1_body)
  rw [e]
  simp only [guardD]
  cases AEnv.get env g with
  | none => rfl
  | some v => cases v <;> first | rfl | (rename_i l; cases l <;> rfl)
end
/-- What a value reads as in the heaps gone by. -/
def Past (io : IOp) (env : AEnv) (v : AV) : List AHeap → Prop
  | [] => True
  | G :: r => qstep io env G = some (.val v) ∧ Past io env v r
theorem past_all {io : IOp} {env : AEnv} {v : AV} : ∀ {Ps : List AHeap}, Past io env v Ps → ∀ G, G ∈ Ps → qstep io env G = some (.val v)
  | [], _, G, h => by cases h
  | Q :: r, hp, G, h => by
    rcases List.mem_cons.1 h with rfl | h
    · exact hp.1
    · exact past_all hp.2 G h
theorem past_nil {io : IOp} {env : AEnv} {v : AV} : Past io env v [] = True := rfl
theorem past_cons {io : IOp} {env : AEnv} {v : AV} {G : AHeap} {r : List AHeap} : Past io env v (G :: r) = (qstep io env G = some (.val v) ∧ Past io env v r) := rfl
section
variable {L : List (IOp × AEnv × AV)} {Ps : List AHeap}
theorem D2_nil : awpD2 [] L Ps K env H = K env H := rfl
def d2V (d : Option Nat) (rest : List IStmt) (L : List (IOp × AEnv × AV)) (Ps : List AHeap) (K : AEnv → AHeap → Prop) (env : AEnv) (H : AHeap) : AV → Prop := fun v => awpD2 rest L Ps K (envput d v env) H
theorem d2V_app {v : AV} : d2V d rest L Ps K env H v = awpD2 rest L Ps K (envput d v env) H := rfl
def d2L (io : IOp) (d : Option Nat) (u : List Nat) (rest : List IStmt) (L : List (IOp × AEnv × AV)) (Ps : List AHeap) (K : AEnv → AHeap → Prop) (env : AEnv) (H : AHeap) : AV → Prop := fun v => Past io (AEnv.trim env u) v Ps ∧ awpD2 rest ((io, AEnv.trim env u, v) :: L) Ps K (envput d v env) H
theorem d2L_app {v : AV} : d2L io d u rest L Ps K env H v = (Past io (AEnv.trim env u) v Ps ∧ awpD2 rest ((io, AEnv.trim env u, v) :: L) Ps K (envput d v env) H) := rfl
def d2W (d : Option Nat) (rest : List IStmt) (L : List (IOp × AEnv × AV)) (Ps : List AHeap) (K : AEnv → AHeap → Prop) (env : AEnv) (H : AHeap) : AV → AHeap → Prop := fun x H' => Same L H' ∧ awpD2 rest L (H :: Ps) K (envput d x env) H'
theorem d2W_app {x : AV} {H' : AHeap} : d2W d rest L Ps K env H x H' = (Same L H' ∧ awpD2 rest L (H :: Ps) K (envput d x env) H') := rfl
theorem D2_pure (h : cls io = .pure) : awpD2 (⟨d, io, none, u, lt⟩ :: rest) L Ps K env H = withQ (qstep io (AEnv.trim env u) H) (d2V d rest L Ps K env H) noB noA := by
  simp only [awpD2, h]
  cases qstep io (AEnv.trim env u) H with | none => rfl | some q => cases q <;> rfl
theorem forall_mem_past {v : AV} : (∀ G, G ∈ Ps → qstep io env G = some (.val v)) = Past io env v Ps := by
  refine propext ⟨fun h => ?_, past_all⟩
  induction Ps with
  | nil => trivial
  | cons G r ih => exact ⟨h G (by simp), ih fun Q hQ => h Q (by simp [hQ])⟩
theorem forall_mem_same : (∀ t, t ∈ L → qstep t.1 t.2.1 H = some (.val t.2.2)) = Same L H := by
  refine propext ⟨fun h => ?_, same_all⟩
  induction L with
  | nil => trivial
  | cons G r ih => exact ⟨h G (by simp), ih fun Q hQ => h Q (by simp [hQ])⟩
theorem D2_load (h : cls io = .load) : awpD2 (⟨d, io, none, u, lt⟩ :: rest) L Ps K env H = withQ (qstep io (AEnv.trim env u) H) (d2L io d u rest L Ps K env H) noB noA := by
  simp only [awpD2, h]
  cases qstep io (AEnv.trim env u) H with
  | none => rfl
  | some q =>
    cases q with
    | val v => simp only [withQ, d2L, forall_mem_past]
    | box => rfl
    | arr => rfl
theorem D2_write (h : cls io = .write) : awpD2 (⟨d, io, none, u, lt⟩ :: rest) L Ps K env H = withW (sstep io (AEnv.trim env u) H) (d2W d rest L Ps K env H) := by
  simp only [awpD2, h]
  cases sstep io (AEnv.trim env u) H with
  | none => rfl
  | some q =>
    obtain ⟨x, H'⟩ := q
    simp only [withW, d2W, forall_mem_same]
end
theorem post_ret {rs : List RV1} {R : AV → AHeap → Prop} : fnPost rs R .ret env H = withArgs (rgets env H rs) fun l => R (retv l) H := by
  show (match rgets env H rs with | some l => R (retv l) H | none => False) = _
  cases rgets env H rs <;> rfl
theorem post_normal {rs : List RV1} {R : AV → AHeap → Prop} : fnPost rs R .normal env H = withArgs (rgets env H rs) fun l => R (retv l) H := by
  show (match rgets env H rs with | some l => R (retv l) H | none => False) = _
  cases rgets env H rs <;> rfl
end
/-- What a quiet operation comes to, and what is still to come. -/
def withQR (r : Option QR) (H : AHeap) (K : AV → AHeap → Prop) : Prop :=
  match r with
  | some (.val v) => K v H
  | some (.box e s cells) => K (.ptr H.length 1 0 0) (H ++ [some ⟨e, s, [cells]⟩])
  | some (.arr e s els) => K (.own H.length els.length 0 els.length) (H ++ [some ⟨e, s, els⟩])
  | none => False
theorem withQR_val {v : AV} {H : AHeap} {K : AV → AHeap → Prop} : withQR (some (.val v)) H K = K v H := rfl
theorem withQR_box {e s : Nat} {cells : List AV} {H : AHeap} {K : AV → AHeap → Prop} : withQR (some (.box e s cells)) H K = K (.ptr H.length 1 0 0) (H ++ [some ⟨e, s, [cells]⟩]) := rfl
theorem withQR_arr {e s : Nat} {els : List (List AV)} {H : AHeap} {K : AV → AHeap → Prop} : withQR (some (.arr e s els)) H K = K (.own H.length els.length 0 els.length) (H ++ [some ⟨e, s, els⟩]) := rfl
theorem quiet_res {r : Option QR} {H : AHeap} {K : AV → AHeap → Prop} : withRes (match r with | some r => some (sres r H) | none => none) K = withQR r H K := by
  cases r with
  | none => rfl
  | some r => cases r <;> rfl
section
variable {P : Program} {K : AEnv → AHeap → Prop} {Ka : AV → AHeap → Prop} {env : AEnv} {H : AHeap} {rest : List IStmt} {d : Option Nat} {u : List Nat} {lt : Bool} {L : List (IOp × AEnv × AV)} {K1 : List (IOp × AEnv × AV) → AEnv → AHeap → Prop} {Ps : List AHeap}
theorem a_mv {x' : Operand} : acall P (.mv x') env H Ka = withQR (qstep (.mv x') env H) H Ka := quiet_res
theorem d_mv {x' : Operand} : stepD1 P (.mv x') d u lt rest L K1 env H = withQ (qstep (.mv x') (AEnv.trim env u) H) (d1V P (.mv x') d u false rest L K1 env H) noB noA := D1_pure rfl
theorem e_mv {x' : Operand} : awpD2 (⟨d, (.mv x'), none, u, lt⟩ :: rest) L Ps K env H = withQ (qstep (.mv x') (AEnv.trim env u) H) (d2V d rest L Ps K env H) noB noA := D2_pure rfl
theorem a_pick {c' : Operand} {a' : Operand} {b' : Operand} : acall P (.pick c' a' b') env H Ka = withQR (qstep (.pick c' a' b') env H) H Ka := quiet_res
theorem d_pick {c' : Operand} {a' : Operand} {b' : Operand} : stepD1 P (.pick c' a' b') d u lt rest L K1 env H = withQ (qstep (.pick c' a' b') (AEnv.trim env u) H) (d1V P (.pick c' a' b') d u false rest L K1 env H) noB noA := D1_pure rfl
theorem e_pick {c' : Operand} {a' : Operand} {b' : Operand} : awpD2 (⟨d, (.pick c' a' b'), none, u, lt⟩ :: rest) L Ps K env H = withQ (qstep (.pick c' a' b') (AEnv.trim env u) H) (d2V d rest L Ps K env H) noB noA := D2_pure rfl
theorem a_load {s' : Nat} {g' : Bool} {x' : Operand} : acall P (.load s' g' x') env H Ka = withQR (qstep (.load s' g' x') env H) H Ka := quiet_res
theorem d_load {s' : Nat} {g' : Bool} {x' : Operand} : stepD1 P (.load s' g' x') d u lt rest L K1 env H = withQ (qstep (.load s' g' x') (AEnv.trim env u) H) (d1V P (.load s' g' x') d u lt rest L K1 env H) noB noA := D1_load rfl
theorem e_load {s' : Nat} {g' : Bool} {x' : Operand} : awpD2 (⟨d, (.load s' g' x'), none, u, lt⟩ :: rest) L Ps K env H = withQ (qstep (.load s' g' x') (AEnv.trim env u) H) (d2L (.load s' g' x') d u rest L Ps K env H) noB noA := D2_load rfl
theorem a_box {e' : Nat} {s' : Nat} {x' : Operand} : acall P (.box e' s' x') env H Ka = withQR (qstep (.box e' s' x') env H) H Ka := quiet_res
theorem d_box {e' : Nat} {s' : Nat} {x' : Operand} : stepD1 P (.box e' s' x') d u lt rest L K1 env H = withQ (qstep (.box e' s' x') (AEnv.trim env u) H) noV (d1B P d rest L K1 env H) (d1A P d rest L K1 env H) := D1_alloc rfl
theorem a_zero {e' : Nat} {s' : Nat} {z' : List AV} : acall P (.zero e' s' z') env H Ka = withQR (qstep (.zero e' s' z') env H) H Ka := quiet_res
theorem d_zero {e' : Nat} {s' : Nat} {z' : List AV} : stepD1 P (.zero e' s' z') d u lt rest L K1 env H = withQ (qstep (.zero e' s' z') (AEnv.trim env u) H) noV (d1B P d rest L K1 env H) (d1A P d rest L K1 env H) := D1_alloc rfl
theorem a_build {z' : List AV} {parts' : List (Nat × Nat × Operand)} : acall P (.build z' parts') env H Ka = withQR (qstep (.build z' parts') env H) H Ka := quiet_res
theorem d_build {z' : List AV} {parts' : List (Nat × Nat × Operand)} : stepD1 P (.build z' parts') d u lt rest L K1 env H = withQ (qstep (.build z' parts') (AEnv.trim env u) H) (d1V P (.build z' parts') d u false rest L K1 env H) noB noA := D1_pure rfl
theorem e_build {z' : List AV} {parts' : List (Nat × Nat × Operand)} : awpD2 (⟨d, (.build z' parts'), none, u, lt⟩ :: rest) L Ps K env H = withQ (qstep (.build z' parts') (AEnv.trim env u) H) (d2V d rest L Ps K env H) noB noA := D2_pure rfl
theorem a_mklit {e' : Nat} {s' : Nat} {n' : Nat} {z' : List AV} {parts' : List (Nat × Operand)} : acall P (.mklit e' s' n' z' parts') env H Ka = withQR (qstep (.mklit e' s' n' z' parts') env H) H Ka := quiet_res
theorem d_mklit {e' : Nat} {s' : Nat} {n' : Nat} {z' : List AV} {parts' : List (Nat × Operand)} : stepD1 P (.mklit e' s' n' z' parts') d u lt rest L K1 env H = withQ (qstep (.mklit e' s' n' z' parts') (AEnv.trim env u) H) noV (d1B P d rest L K1 env H) (d1A P d rest L K1 env H) := D1_alloc rfl
theorem a_mkslice {e' : Nat} {s' : Nat} {bytes' : Nat} {z' : List AV} {l' : Operand} {c' : Operand} : acall P (.mkslice e' s' bytes' z' l' c') env H Ka = withQR (qstep (.mkslice e' s' bytes' z' l' c') env H) H Ka := quiet_res
theorem d_mkslice {e' : Nat} {s' : Nat} {bytes' : Nat} {z' : List AV} {l' : Operand} {c' : Operand} : stepD1 P (.mkslice e' s' bytes' z' l' c') d u lt rest L K1 env H = withQ (qstep (.mkslice e' s' bytes' z' l' c') (AEnv.trim env u) H) noV (d1B P d rest L K1 env H) (d1A P d rest L K1 env H) := D1_alloc rfl
theorem a_faddr {off' : Nat} {x' : Operand} : acall P (.faddr off' x') env H Ka = withQR (qstep (.faddr off' x') env H) H Ka := quiet_res
theorem d_faddr {off' : Nat} {x' : Operand} : stepD1 P (.faddr off' x') d u lt rest L K1 env H = withQ (qstep (.faddr off' x') (AEnv.trim env u) H) (d1V P (.faddr off' x') d u false rest L K1 env H) noB noA := D1_pure rfl
theorem e_faddr {off' : Nat} {x' : Operand} : awpD2 (⟨d, (.faddr off' x'), none, u, lt⟩ :: rest) L Ps K env H = withQ (qstep (.faddr off' x') (AEnv.trim env u) H) (d2V d rest L Ps K env H) noB noA := D2_pure rfl
theorem a_field {off' : Nat} {s' : Nat} {g' : Bool} {x' : Operand} : acall P (.field off' s' g' x') env H Ka = withQR (qstep (.field off' s' g' x') env H) H Ka := quiet_res
theorem d_field {off' : Nat} {s' : Nat} {g' : Bool} {x' : Operand} : stepD1 P (.field off' s' g' x') d u lt rest L K1 env H = withQ (qstep (.field off' s' g' x') (AEnv.trim env u) H) (d1V P (.field off' s' g' x') d u false rest L K1 env H) noB noA := D1_pure rfl
theorem e_field {off' : Nat} {s' : Nat} {g' : Bool} {x' : Operand} : awpD2 (⟨d, (.field off' s' g' x'), none, u, lt⟩ :: rest) L Ps K env H = withQ (qstep (.field off' s' g' x') (AEnv.trim env u) H) (d2V d rest L Ps K env H) noB noA := D2_pure rfl
theorem a_iaddr {s' : Nat} {x' : Operand} {i' : Operand} : acall P (.iaddr s' x' i') env H Ka = withQR (qstep (.iaddr s' x' i') env H) H Ka := quiet_res
theorem d_iaddr {s' : Nat} {x' : Operand} {i' : Operand} : stepD1 P (.iaddr s' x' i') d u lt rest L K1 env H = withQ (qstep (.iaddr s' x' i') (AEnv.trim env u) H) (d1V P (.iaddr s' x' i') d u lt rest L K1 env H) noB noA := D1_load rfl
theorem e_iaddr {s' : Nat} {x' : Operand} {i' : Operand} : awpD2 (⟨d, (.iaddr s' x' i'), none, u, lt⟩ :: rest) L Ps K env H = withQ (qstep (.iaddr s' x' i') (AEnv.trim env u) H) (d2L (.iaddr s' x' i') d u rest L Ps K env H) noB noA := D2_load rfl
theorem a_iaddrA {len' : Nat} {s' : Nat} {x' : Operand} {i' : Operand} : acall P (.iaddrA len' s' x' i') env H Ka = withQR (qstep (.iaddrA len' s' x' i') env H) H Ka := quiet_res
theorem d_iaddrA {len' : Nat} {s' : Nat} {x' : Operand} {i' : Operand} : stepD1 P (.iaddrA len' s' x' i') d u lt rest L K1 env H = withQ (qstep (.iaddrA len' s' x' i') (AEnv.trim env u) H) (d1V P (.iaddrA len' s' x' i') d u false rest L K1 env H) noB noA := D1_pure rfl
theorem e_iaddrA {len' : Nat} {s' : Nat} {x' : Operand} {i' : Operand} : awpD2 (⟨d, (.iaddrA len' s' x' i'), none, u, lt⟩ :: rest) L Ps K env H = withQ (qstep (.iaddrA len' s' x' i') (AEnv.trim env u) H) (d2V d rest L Ps K env H) noB noA := D2_pure rfl
theorem a_indexA {len' : Nat} {s' : Nat} {g' : Bool} {x' : Operand} {i' : Operand} : acall P (.indexA len' s' g' x' i') env H Ka = withQR (qstep (.indexA len' s' g' x' i') env H) H Ka := quiet_res
theorem d_indexA {len' : Nat} {s' : Nat} {g' : Bool} {x' : Operand} {i' : Operand} : stepD1 P (.indexA len' s' g' x' i') d u lt rest L K1 env H = withQ (qstep (.indexA len' s' g' x' i') (AEnv.trim env u) H) (d1V P (.indexA len' s' g' x' i') d u false rest L K1 env H) noB noA := D1_pure rfl
theorem e_indexA {len' : Nat} {s' : Nat} {g' : Bool} {x' : Operand} {i' : Operand} : awpD2 (⟨d, (.indexA len' s' g' x' i'), none, u, lt⟩ :: rest) L Ps K env H = withQ (qstep (.indexA len' s' g' x' i') (AEnv.trim env u) H) (d2V d rest L Ps K env H) noB noA := D2_pure rfl
theorem a_indexS {x' : Operand} {i' : Operand} : acall P (.indexS x' i') env H Ka = withQR (qstep (.indexS x' i') env H) H Ka := quiet_res
theorem d_indexS {x' : Operand} {i' : Operand} : stepD1 P (.indexS x' i') d u lt rest L K1 env H = withQ (qstep (.indexS x' i') (AEnv.trim env u) H) (d1V P (.indexS x' i') d u false rest L K1 env H) noB noA := D1_pure rfl
theorem e_indexS {x' : Operand} {i' : Operand} : awpD2 (⟨d, (.indexS x' i'), none, u, lt⟩ :: rest) L Ps K env H = withQ (qstep (.indexS x' i') (AEnv.trim env u) H) (d2V d rest L Ps K env H) noB noA := D2_pure rfl
theorem a_slice {s' : Nat} {x' : Operand} {lo' : Option Operand} {hi' : Option Operand} : acall P (.slice s' x' lo' hi') env H Ka = withQR (qstep (.slice s' x' lo' hi') env H) H Ka := quiet_res
theorem d_slice {s' : Nat} {x' : Operand} {lo' : Option Operand} {hi' : Option Operand} : stepD1 P (.slice s' x' lo' hi') d u lt rest L K1 env H = withQ (qstep (.slice s' x' lo' hi') (AEnv.trim env u) H) (d1V P (.slice s' x' lo' hi') d u lt rest L K1 env H) noB noA := D1_load rfl
theorem e_slice {s' : Nat} {x' : Operand} {lo' : Option Operand} {hi' : Option Operand} : awpD2 (⟨d, (.slice s' x' lo' hi'), none, u, lt⟩ :: rest) L Ps K env H = withQ (qstep (.slice s' x' lo' hi') (AEnv.trim env u) H) (d2L (.slice s' x' lo' hi') d u rest L Ps K env H) noB noA := D2_load rfl
theorem a_sliceS {x' : Operand} {lo' : Option Operand} {hi' : Option Operand} : acall P (.sliceS x' lo' hi') env H Ka = withQR (qstep (.sliceS x' lo' hi') env H) H Ka := quiet_res
theorem d_sliceS {x' : Operand} {lo' : Option Operand} {hi' : Option Operand} : stepD1 P (.sliceS x' lo' hi') d u lt rest L K1 env H = withQ (qstep (.sliceS x' lo' hi') (AEnv.trim env u) H) (d1V P (.sliceS x' lo' hi') d u false rest L K1 env H) noB noA := D1_pure rfl
theorem e_sliceS {x' : Operand} {lo' : Option Operand} {hi' : Option Operand} : awpD2 (⟨d, (.sliceS x' lo' hi'), none, u, lt⟩ :: rest) L Ps K env H = withQ (qstep (.sliceS x' lo' hi') (AEnv.trim env u) H) (d2V d rest L Ps K env H) noB noA := D2_pure rfl
theorem a_sliceA {n' s' : Nat} {x' : Operand} {lo' : Option Operand} {hi' : Option Operand} : acall P (.sliceA n' s' x' lo' hi') env H Ka = withQR (qstep (.sliceA n' s' x' lo' hi') env H) H Ka := quiet_res
theorem d_sliceA {n' s' : Nat} {x' : Operand} {lo' : Option Operand} {hi' : Option Operand} : stepD1 P (.sliceA n' s' x' lo' hi') d u lt rest L K1 env H = withQ (qstep (.sliceA n' s' x' lo' hi') (AEnv.trim env u) H) (d1V P (.sliceA n' s' x' lo' hi') d u false rest L K1 env H) noB noA := D1_pure rfl
theorem e_sliceA {n' s' : Nat} {x' : Operand} {lo' : Option Operand} {hi' : Option Operand} : awpD2 (⟨d, (.sliceA n' s' x' lo' hi'), none, u, lt⟩ :: rest) L Ps K env H = withQ (qstep (.sliceA n' s' x' lo' hi') (AEnv.trim env u) H) (d2V d rest L Ps K env H) noB noA := D2_pure rfl
theorem a_slice0 {x' : Operand} : acall P (.slice0 x') env H Ka = withQR (qstep (.slice0 x') env H) H Ka := quiet_res
theorem d_slice0 {x' : Operand} : stepD1 P (.slice0 x') d u lt rest L K1 env H = withQ (qstep (.slice0 x') (AEnv.trim env u) H) (d1V P (.slice0 x') d u false rest L K1 env H) noB noA := D1_pure rfl
theorem e_slice0 {x' : Operand} : awpD2 (⟨d, (.slice0 x'), none, u, lt⟩ :: rest) L Ps K env H = withQ (qstep (.slice0 x') (AEnv.trim env u) H) (d2V d rest L Ps K env H) noB noA := D2_pure rfl
theorem a_extract {i' : Nat} {x' : Operand} : acall P (.extract i' x') env H Ka = withQR (qstep (.extract i' x') env H) H Ka := quiet_res
theorem d_extract {i' : Nat} {x' : Operand} : stepD1 P (.extract i' x') d u lt rest L K1 env H = withQ (qstep (.extract i' x') (AEnv.trim env u) H) (d1V P (.extract i' x') d u false rest L K1 env H) noB noA := D1_pure rfl
theorem e_extract {i' : Nat} {x' : Operand} : awpD2 (⟨d, (.extract i' x'), none, u, lt⟩ :: rest) L Ps K env H = withQ (qstep (.extract i' x') (AEnv.trim env u) H) (d2V d rest L Ps K env H) noB noA := D2_pure rfl
theorem a_len {x' : Operand} : acall P (.len x') env H Ka = withQR (qstep (.len x') env H) H Ka := quiet_res
theorem d_len {x' : Operand} : stepD1 P (.len x') d u lt rest L K1 env H = withQ (qstep (.len x') (AEnv.trim env u) H) (d1V P (.len x') d u lt rest L K1 env H) noB noA := D1_load rfl
theorem e_len {x' : Operand} : awpD2 (⟨d, (.len x'), none, u, lt⟩ :: rest) L Ps K env H = withQ (qstep (.len x') (AEnv.trim env u) H) (d2L (.len x') d u rest L Ps K env H) noB noA := D2_load rfl
theorem a_lenS {x' : Operand} : acall P (.lenS x') env H Ka = withQR (qstep (.lenS x') env H) H Ka := quiet_res
theorem d_lenS {x' : Operand} : stepD1 P (.lenS x') d u lt rest L K1 env H = withQ (qstep (.lenS x') (AEnv.trim env u) H) (d1V P (.lenS x') d u false rest L K1 env H) noB noA := D1_pure rfl
theorem e_lenS {x' : Operand} : awpD2 (⟨d, (.lenS x'), none, u, lt⟩ :: rest) L Ps K env H = withQ (qstep (.lenS x') (AEnv.trim env u) H) (d2V d rest L Ps K env H) noB noA := D2_pure rfl
theorem a_mm {mx' : Bool} {args' : List Operand} : acall P (.mm mx' args') env H Ka = withQR (qstep (.mm mx' args') env H) H Ka := quiet_res
theorem d_mm {mx' : Bool} {args' : List Operand} : stepD1 P (.mm mx' args') d u lt rest L K1 env H = withQ (qstep (.mm mx' args') (AEnv.trim env u) H) (d1V P (.mm mx' args') d u false rest L K1 env H) noB noA := D1_pure rfl
theorem e_mm {mx' : Bool} {args' : List Operand} : awpD2 (⟨d, (.mm mx' args'), none, u, lt⟩ :: rest) L Ps K env H = withQ (qstep (.mm mx' args') (AEnv.trim env u) H) (d2V d rest L Ps K env H) noB noA := D2_pure rfl
theorem a_un {op' : UnOp} {x' : Operand} : acall P (.un op' x') env H Ka = withQR (qstep (.un op' x') env H) H Ka := quiet_res
theorem d_un {op' : UnOp} {x' : Operand} : stepD1 P (.un op' x') d u lt rest L K1 env H = withQ (qstep (.un op' x') (AEnv.trim env u) H) (d1V P (.un op' x') d u false rest L K1 env H) noB noA := D1_pure rfl
theorem e_un {op' : UnOp} {x' : Operand} : awpD2 (⟨d, (.un op' x'), none, u, lt⟩ :: rest) L Ps K env H = withQ (qstep (.un op' x') (AEnv.trim env u) H) (d2V d rest L Ps K env H) noB noA := D2_pure rfl
theorem a_bin {op' : BinOp} {x' : Operand} {y' : Operand} : acall P (.bin op' x' y') env H Ka = withQR (qstep (.bin op' x' y') env H) H Ka := quiet_res
theorem d_bin {op' : BinOp} {x' : Operand} {y' : Operand} : stepD1 P (.bin op' x' y') d u lt rest L K1 env H = withQ (qstep (.bin op' x' y') (AEnv.trim env u) H) (d1V P (.bin op' x' y') d u false rest L K1 env H) noB noA := D1_pure rfl
theorem e_bin {op' : BinOp} {x' : Operand} {y' : Operand} : awpD2 (⟨d, (.bin op' x' y'), none, u, lt⟩ :: rest) L Ps K env H = withQ (qstep (.bin op' x' y') (AEnv.trim env u) H) (d2V d rest L Ps K env H) noB noA := D2_pure rfl
theorem a_binB {neg' : Bool} {x' : Operand} {y' : Operand} : acall P (.binB neg' x' y') env H Ka = withQR (qstep (.binB neg' x' y') env H) H Ka := quiet_res
theorem d_binB {neg' : Bool} {x' : Operand} {y' : Operand} : stepD1 P (.binB neg' x' y') d u lt rest L K1 env H = withQ (qstep (.binB neg' x' y') (AEnv.trim env u) H) (d1V P (.binB neg' x' y') d u false rest L K1 env H) noB noA := D1_pure rfl
theorem e_binB {neg' : Bool} {x' : Operand} {y' : Operand} : awpD2 (⟨d, (.binB neg' x' y'), none, u, lt⟩ :: rest) L Ps K env H = withQ (qstep (.binB neg' x' y') (AEnv.trim env u) H) (d2V d rest L Ps K env H) noB noA := D2_pure rfl
theorem a_eqA {neg' : Bool} {offs' : List (Nat × Nat)} {x' : Operand} {y' : Operand} : acall P (.eqA neg' offs' x' y') env H Ka = withQR (qstep (.eqA neg' offs' x' y') env H) H Ka := quiet_res
theorem d_eqA {neg' : Bool} {offs' : List (Nat × Nat)} {x' : Operand} {y' : Operand} : stepD1 P (.eqA neg' offs' x' y') d u lt rest L K1 env H = withQ (qstep (.eqA neg' offs' x' y') (AEnv.trim env u) H) (d1V P (.eqA neg' offs' x' y') d u false rest L K1 env H) noB noA := D1_pure rfl
theorem e_eqA {neg' : Bool} {offs' : List (Nat × Nat)} {x' : Operand} {y' : Operand} : awpD2 (⟨d, (.eqA neg' offs' x' y'), none, u, lt⟩ :: rest) L Ps K env H = withQ (qstep (.eqA neg' offs' x' y') (AEnv.trim env u) H) (d2V d rest L Ps K env H) noB noA := D2_pure rfl
theorem a_conv {k' : IntKind} {x' : Operand} : acall P (.conv k' x') env H Ka = withQR (qstep (.conv k' x') env H) H Ka := quiet_res
theorem d_conv {k' : IntKind} {x' : Operand} : stepD1 P (.conv k' x') d u lt rest L K1 env H = withQ (qstep (.conv k' x') (AEnv.trim env u) H) (d1V P (.conv k' x') d u false rest L K1 env H) noB noA := D1_pure rfl
theorem e_conv {k' : IntKind} {x' : Operand} : awpD2 (⟨d, (.conv k' x'), none, u, lt⟩ :: rest) L Ps K env H = withQ (qstep (.conv k' x') (AEnv.trim env u) H) (d2V d rest L Ps K env H) noB noA := D2_pure rfl
theorem a_iface {t' : Nat} {x' : Operand} : acall P (.iface t' x') env H Ka = withQR (qstep (.iface t' x') env H) H Ka := quiet_res
theorem d_iface {t' : Nat} {x' : Operand} : stepD1 P (.iface t' x') d u lt rest L K1 env H = withQ (qstep (.iface t' x') (AEnv.trim env u) H) (d1V P (.iface t' x') d u false rest L K1 env H) noB noA := D1_pure rfl
theorem e_iface {t' : Nat} {x' : Operand} : awpD2 (⟨d, (.iface t' x'), none, u, lt⟩ :: rest) L Ps K env H = withQ (qstep (.iface t' x') (AEnv.trim env u) H) (d2V d rest L Ps K env H) noB noA := D2_pure rfl
theorem a_mkfun {fn' : Fn} {first' : List Operand} {caps' : List Operand} : acall P (.mkfun fn' first' caps') env H Ka = withQR (qstep (.mkfun fn' first' caps') env H) H Ka := quiet_res
theorem d_mkfun {fn' : Fn} {first' : List Operand} {caps' : List Operand} : stepD1 P (.mkfun fn' first' caps') d u lt rest L K1 env H = withQ (qstep (.mkfun fn' first' caps') (AEnv.trim env u) H) (d1V P (.mkfun fn' first' caps') d u false rest L K1 env H) noB noA := D1_pure rfl
theorem e_mkfun {fn' : Fn} {first' : List Operand} {caps' : List Operand} : awpD2 (⟨d, (.mkfun fn' first' caps'), none, u, lt⟩ :: rest) L Ps K env H = withQ (qstep (.mkfun fn' first' caps') (AEnv.trim env u) H) (d2V d rest L Ps K env H) noB noA := D2_pure rfl
theorem a_nilchk {x' : Operand} : acall P (.nilchk x') env H Ka = withQR (qstep (.nilchk x') env H) H Ka := quiet_res
theorem d_nilchk {x' : Operand} : stepD1 P (.nilchk x') d u lt rest L K1 env H = withQ (qstep (.nilchk x') (AEnv.trim env u) H) (d1V P (.nilchk x') d u false rest L K1 env H) noB noA := D1_pure rfl
theorem e_nilchk {x' : Operand} : awpD2 (⟨d, (.nilchk x'), none, u, lt⟩ :: rest) L Ps K env H = withQ (qstep (.nilchk x') (AEnv.trim env u) H) (d2V d rest L Ps K env H) noB noA := D2_pure rfl
theorem a_store {s' : Nat} {g' : Bool} {x' v' : Operand} : acall P (.store s' g' x' v') env H Ka = withRes (sstep (.store s' g' x' v') env H) Ka := rfl
theorem e_store {s' : Nat} {g' : Bool} {x' v' : Operand} : awpD2 (⟨d, .store s' g' x' v', none, u, lt⟩ :: rest) L Ps K env H = withW (sstep (.store s' g' x' v') (AEnv.trim env u) H) (d2W d rest L Ps K env H) := D2_write rfl
theorem a_append {e' s' bytes' : Nat} {x' y' : Operand} : acall P (.append e' s' bytes' x' y') env H Ka = withRes (sstep (.append e' s' bytes' x' y') env H) Ka := rfl
theorem e_append {e' s' bytes' : Nat} {x' y' : Operand} : awpD2 (⟨d, .append e' s' bytes' x' y', none, u, lt⟩ :: rest) L Ps K env H = withW (sstep (.append e' s' bytes' x' y') (AEnv.trim env u) H) (d2W d rest L Ps K env H) := D2_write rfl
theorem a_slice3 {s' : Nat} {x' : Operand} {lo' hi' mx' : Option Operand} : acall P (.slice3 s' x' lo' hi' mx') env H Ka = withQR (qstep (.slice3 s' x' lo' hi' mx') env H) H Ka := quiet_res
theorem d_slice3 {s' : Nat} {x' : Operand} {lo' hi' mx' : Option Operand} : stepD1 P (.slice3 s' x' lo' hi' mx') d u lt rest L K1 env H = withQ (qstep (.slice3 s' x' lo' hi' mx') (AEnv.trim env u) H) (d1V P (.slice3 s' x' lo' hi' mx') d u lt rest L K1 env H) noB noA := D1_load rfl
theorem e_slice3 {s' : Nat} {x' : Operand} {lo' hi' mx' : Option Operand} : awpD2 (⟨d, (.slice3 s' x' lo' hi' mx'), none, u, lt⟩ :: rest) L Ps K env H = withQ (qstep (.slice3 s' x' lo' hi' mx') (AEnv.trim env u) H) (d2L (.slice3 s' x' lo' hi' mx') d u rest L Ps K env H) noB noA := D2_load rfl
theorem a_clear {s' : Nat} {z' : List AV} {x' : Operand} : acall P (.clear s' z' x') env H Ka = withRes (sstep (.clear s' z' x') env H) Ka := rfl
theorem e_clear {s' : Nat} {z' : List AV} {x' : Operand} : awpD2 (⟨d, .clear s' z' x', none, u, lt⟩ :: rest) L Ps K env H = withW (sstep (.clear s' z' x') (AEnv.trim env u) H) (d2W d rest L Ps K env H) := D2_write rfl
theorem a_copy {s' : Nat} {x' y' : Operand} : acall P (.copy s' x' y') env H Ka = withRes (sstep (.copy s' x' y') env H) Ka := rfl
theorem e_copy {s' : Nat} {x' y' : Operand} : awpD2 (⟨d, .copy s' x' y', none, u, lt⟩ :: rest) L Ps K env H = withW (sstep (.copy s' x' y') (AEnv.trim env u) H) (d2W d rest L Ps K env H) := D2_write rfl
theorem a_mkmap : acall P .mkmap env H Ka = withRes (sstep .mkmap env H) Ka := rfl
theorem e_mkmap : awpD2 (⟨d, .mkmap, none, u, lt⟩ :: rest) L Ps K env H = withW (sstep .mkmap (AEnv.trim env u) H) (d2W d rest L Ps K env H) := D2_write rfl
theorem s_mkmap : sstep .mkmap env H = some (some (.map H.length), H ++ [some ⟨0, 0, []⟩]) := rfl
theorem a_isnilI {g' : Bool} {x' : Operand} : acall P (.isnilI g' x') env H Ka = withQR (qstep (.isnilI g' x') env H) H Ka := quiet_res
theorem d_isnilI {g' : Bool} {x' : Operand} : stepD1 P (.isnilI g' x') d u lt rest L K1 env H = withQ (qstep (.isnilI g' x') (AEnv.trim env u) H) (d1V P (.isnilI g' x') d u false rest L K1 env H) noB noA := D1_pure rfl
theorem e_isnilI {g' : Bool} {x' : Operand} : awpD2 (⟨d, (.isnilI g' x'), none, u, lt⟩ :: rest) L Ps K env H = withQ (qstep (.isnilI g' x') (AEnv.trim env u) H) (d2V d rest L Ps K env H) noB noA := D2_pure rfl
theorem a_lookup {g' : Bool} {z' : AV} {n' : Nat} {x' k' : Operand} : acall P (.lookup g' z' n' x' k') env H Ka = withQR (qstep (.lookup g' z' n' x' k') env H) H Ka := quiet_res
theorem d_lookup {g' : Bool} {z' : AV} {n' : Nat} {x' k' : Operand} : stepD1 P (.lookup g' z' n' x' k') d u lt rest L K1 env H = withQ (qstep (.lookup g' z' n' x' k') (AEnv.trim env u) H) (d1V P (.lookup g' z' n' x' k') d u lt rest L K1 env H) noB noA := D1_load rfl
theorem e_lookup {g' : Bool} {z' : AV} {n' : Nat} {x' k' : Operand} : awpD2 (⟨d, (.lookup g' z' n' x' k'), none, u, lt⟩ :: rest) L Ps K env H = withQ (qstep (.lookup g' z' n' x' k') (AEnv.trim env u) H) (d2L (.lookup g' z' n' x' k') d u rest L Ps K env H) noB noA := D2_load rfl
theorem d_call {f' : FuncId} {args' : List Operand} : stepD1 P (.call f' args') d u lt rest L K1 env H = withT (target P (.call f' args') (AEnv.trim env u)) (d1T P d rest L K1 env H) := D1_call rfl
theorem d_callv {f' : Operand} {args' : List Operand} : stepD1 P (.callv f' args') d u lt rest L K1 env H = withT (target P (.callv f' args') (AEnv.trim env u)) (d1T P d rest L K1 env H) := D1_call rfl
theorem d_invoke {x' : Operand} {n' : String} {args' : List Operand} : stepD1 P (.invoke x' n' args') d u lt rest L K1 env H = withT (target P (.invoke x' n' args') (AEnv.trim env u)) (d1T P d rest L K1 env H) := D1_call rfl
end
section
variable {P : Program} {K : AEnv → AHeap → Prop} {env : AEnv} {H : AHeap} {d : Option Nat} {io : IOp} {u : List Nat} {lt : Bool} {L : LL} {k r : AT} {rc : List Nat}
def tP (P : Program) (K : AEnv → AHeap → Prop) (k : AT) (d : Option Nat) (L : LL) (env : AEnv) (H : AHeap) : AV → Prop := fun v => awpT P K k L (envput d v env) H
def tL (P : Program) (K : AEnv → AHeap → Prop) (k : AT) (i : Nat) (io : IOp) (u : List Nat) (d : Option Nat) (L : LL) (env : AEnv) (H : AHeap) : AV → Prop := fun v => awpT P K k ((i, io, AEnv.trim env u, v) :: L) (envput d v env) H
def tA (P : Program) (K : AEnv → AHeap → Prop) (k : AT) (rc : List Nat) (d : Option Nat) (L : LL) (env : AEnv) : AV → AHeap → Prop := fun x H' => Reads rc L H' ∧ awpT P K k L (envput d x env) H'
theorem tP_app {v : AV} : tP P K k d L env H v = awpT P K k L (envput d v env) H := rfl
theorem tL_app {i : Nat} {v : AV} : tL P K k i io u d L env H v = awpT P K k ((i, io, AEnv.trim env u, v) :: L) (envput d v env) H := rfl
theorem tA_app {x : AV} {H' : AHeap} : tA P K k rc d L env x H' = (Reads rc L H' ∧ awpT P K k L (envput d x env) H') := rfl
theorem T_fin : awpT P K .fin L env H = K env H := rfl
theorem T_stop : awpT P K .stop L env H = True := rfl
theorem T_pure : awpT P K (.pure ⟨d, io, none, u, lt⟩ k) L env H = withQ (qstep io (AEnv.trim env u) H) (tP P K k d L env H) noB noA := by
  simp only [awpT, withQ, tP]
  cases qstep io (AEnv.trim env u) H with
  | none => rfl
  | some q => cases q <;> rfl
theorem T_load {i : Nat} : awpT P K (.load i ⟨d, io, none, u, lt⟩ k) L env H = withQ (qstep io (AEnv.trim env u) H) (tL P K k i io u d L env H) noB noA := by
  simp only [awpT, withQ, tL]
  cases qstep io (AEnv.trim env u) H with
  | none => rfl
  | some q => cases q <;> rfl
theorem T_alt : awpT P K (.alt ⟨d, io, none, u, lt⟩ rc k r) L env H = (acall P io (AEnv.trim env u) H (tA P K k rc d L env) ∧ awpT P K r L env H) := rfl
theorem reads_nil : Reads rc [] H = True := rfl
theorem reads_cons {t : Nat × IOp × AEnv × AV} : Reads rc (t :: L) H = ((if rc.contains t.1 = true then qstep t.2.1 t.2.2.1 H = some (.val t.2.2.2) else True) ∧ Reads rc L H) := rfl
end
end Go.Awp
/- Values carried over a call's border, by reckoning. Generic in the program. -/
namespace Go.Awp
set_option linter.unusedSectionVars false
variable [Fx]
def carL (f : AV → Option AV) : List AV → Option (List AV)
  | [] => some []
  | x :: r => match f x, carL f r with
    | some y, some l => some (y :: l)
    | _, _ => none
def carR (f : AV → Option AV) : List (List AV) → Option (List (List AV))
  | [] => some []
  | x :: r => match carL f x, carR f r with
    | some y, some l => some (y :: l)
    | _, _ => none
/-- A value as a call is handed it (out: false), or as a call hands it back (out: true). -/
def carry (out : Bool) (H : AHeap) : Nat → AV → Option AV
  | 0, _ => none
  | d + 1, x => match x with
    | .bool b => some (.bool b)
    | .int k n => some (.int k n)
    | .str s => some (.str s)
    | .nilFunc => some .nilFunc
    | .nilMap => some .nilMap
    | .nilIface => some .nilIface
    | .nilPtr => some .nilPtr
    | .ptrJ => some .ptrJ
    | .nilSlice => some .nilSlice
    | .iface t v => (match carry out H d v with | some y => some (.iface t y) | none => none)
    | .func fn a b => (match carL (carry out H d) a, carL (carry out H d) b with | some a', some b' => some (.func fn a' b') | _, _ => none)
    | .agg cs => (match carL (carry out H d) cs with | some l => some (.agg l) | none => none)
    | .tuple cs => (match carL (carry out H d) cs with | some l => some (.tuple l) | none => none)
    | .ro fr l => if out = false ∨ fr = true ∨ l = [] then (match carR (carry out H d) l with | some l' => some (.ro out l') | none => none) else none
    | .full l => if out = false then (match carR (carry out H d) l with | some l' => some (.ro out l') | none => none) else none
    | .junk => none
    | .sub h ver i j s len => (match AHeap.obj H h with
      | some o => (match o.elems[i]? with
        | some e => if ver = o.elems.length ∧ j + len * s ≤ e.length then (match carR (carry out H d) (chunks s len (e.drop j)) with | some l' => some (.ro out l') | none => none) else none
        | none => none)
      | none => none)
    | .own h ver i len => (match AHeap.obj H h with
      | some o => if ver = o.elems.length then (match carR (carry out H d) ((o.elems.drop i).take len) with | some l' => some (.ro out l') | none => none) else none
      | none => none)
    | .ptr h ver i j => (match deref H (.ptr h ver i j) with
      | some cells => (match carL (carry out H d) cells with | some l => some (.rop l) | none => none)
      | none => none)
    | .map h => (match AHeap.obj H h with | some o => some (.mapR o.elems) | none => none)
    | .mapR rows => if out = false then some (.mapR rows) else none
    | .rop cells => if out = false then (match carL (carry out H d) cells with | some l => some (.rop l) | none => none) else none
def Tgt (out : Bool) (B : Nat) (m2 : AMap) (B2 : Nat) : Prop := (out = true → B2 ≤ B ∧ ∀ h b, m2 h = some b → b < B) ∧ (out = false → ∀ h, m2 h = none)
theorem Tgt.good {out : Bool} {B : Nat} {m2 : AMap} {B2 : Nat} (t : Tgt out B m2 B2) {b : Nat} (h : out = false ∨ B ≤ b) : (∀ k, m2 k ≠ some b) ∧ (out = true → B2 ≤ b) := by
  cases out with
  | false => exact ⟨fun k e => (by rw [t.2 rfl k] at e; cases e), fun e => (by cases e)⟩
  | true =>
    rcases h with h | h
    · cases h
    · exact ⟨fun k e => by have := (t.1 rfl).2 k b e; omega, fun _ => Nat.le_trans (t.1 rfl).1 h⟩
def Car (out : Bool) (H : AHeap) (x y : AV) : Prop := y.one = x.one ∧ ∀ (X : AHeap) (w : World) (m : AMap) (B : Nat) (v : Value) (m2 : AMap) (H2 : AHeap) (B2 : Nat), St w m (H ++ X) B → RV w m (H ++ X) B x v → Tgt out B m2 B2 → RV w m2 H2 B2 y v
theorem carL_spec {R : AV → AV → Prop} {f : AV → Option AV} (hf : ∀ x y, f x = some y → R x y) : ∀ (l l' : List AV), carL f l = some l' → l'.length = l.length ∧ ∀ (i : Nat) y, l'[i]? = some y → ∃ x, l[i]? = some x ∧ R x y
  | [], l', h => by cases h; exact ⟨rfl, by simp⟩
  | x :: r, l', h => by
    simp only [carL] at h
    split at h
    · rename_i y l h1 h2
      cases h
      obtain ⟨q1, q2⟩ := carL_spec hf r l h2
      refine ⟨by simp [q1], fun i z hz => ?_⟩
      cases i with
      | zero => simp at hz; subst hz; exact ⟨x, rfl, hf x _ h1⟩
      | succ i => exact q2 i z (by simpa using hz)
    · cases h
theorem carR_spec {R : AV → AV → Prop} {f : AV → Option AV} (hf : ∀ x y, f x = some y → R x y) : ∀ (l l' : List (List AV)), carR f l = some l' → l'.length = l.length ∧ ∀ (i : Nat) el', l'[i]? = some el' → ∃ el, l[i]? = some el ∧ el'.length = el.length ∧ ∀ (j : Nat) y, el'[j]? = some y → ∃ x, el[j]? = some x ∧ R x y
  | [], l', h => by cases h; exact ⟨rfl, by simp⟩
  | x :: r, l', h => by
    simp only [carR] at h
    split at h
    · rename_i y l h1 h2
      cases h
      obtain ⟨q1, q2⟩ := carR_spec hf r l h2
      refine ⟨by simp [q1], fun i z hz => ?_⟩
      cases i with
      | zero => simp at hz; subst hz; exact ⟨x, rfl, carL_spec hf x _ h1⟩
      | succ i => exact q2 i z (by simpa using hz)
    · cases h
theorem car_rows {out : Bool} {H X : AHeap} {w : World} {m : AMap} {B : Nat} {m2 : AMap} {H2 : AHeap} {B2 : Nat} (st : St w m (H ++ X) B) (t : Tgt out B m2 B2) {l l' : List (List AV)} (hr : l'.length = l.length ∧ ∀ (i : Nat) el', l'[i]? = some el' → ∃ el, l[i]? = some el ∧ el'.length = el.length ∧ ∀ (j : Nat) y, el'[j]? = some y → ∃ x, el[j]? = some x ∧ Car out H x y)
    {ad : Option Addr} {cap s : Nat} (hnone : l = [] → ad = none → cap = 0) (hcap : l.length ≤ cap) (hs : ∀ e, e ∈ l → e.length = s)
    (hsome : l ≠ [] → ∃ b off, ad = some ⟨b, off, none⟩ ∧ b < w.heap.size ∧ (out = false ∨ B ≤ b) ∧ ∀ (i : Nat) (e : List AV) (j : Nat) (x : AV), l[i]? = some e → e[j]? = some x → ∃ v, w.cell? ⟨b, off + i * s + j, none⟩ = some v ∧ RV w m (H ++ X) B x v ∧ x.one = true) :
    RV w m2 H2 B2 (.ro out l') (.slice ad l.length cap) := by
  obtain ⟨hl, hr⟩ := hr
  by_cases hne : l = []
  · subst hne
    have : l' = [] := List.eq_nil_of_length_eq_zero (by simpa using hl)
    subst this
    exact .roNil _ _ _ (hnone rfl)
  · obtain ⟨b, off, rfl, hlt, hgood, hc⟩ := hsome hne
    obtain ⟨g1, g2⟩ := t.good hgood
    rw [← hl]
    refine .ro out l' s b off cap (fun i j => (w.cell? ⟨b, off + i * s + j, none⟩).getD undef) (fun e => hne (List.eq_nil_of_length_eq_zero (by rw [← hl, e]; rfl))) g1 g2 hlt (fun e he => ?_) (by omega) (fun i e j x h1 h2 => ?_) (fun i e j x h1 h2 => ?_)
    · obtain ⟨i, hi⟩ := List.mem_iff_getElem?.1 he
      obtain ⟨el, h1, h2, _⟩ := hr i e hi
      rw [h2]; exact hs el (List.mem_of_getElem? h1)
    · obtain ⟨el, q1, q2, q3⟩ := hr i e h1
      obtain ⟨y, q4, q5⟩ := q3 j x h2
      obtain ⟨v, p1, p2, p3⟩ := hc i el j y q1 q4
      exact ⟨by rw [p1]; rfl, by rw [q5.1]; exact p3⟩
    · obtain ⟨el, q1, q2, q3⟩ := hr i e h1
      obtain ⟨y, q4, q5⟩ := q3 j x h2
      obtain ⟨v, p1, p2, p3⟩ := hc i el j y q1 q4
      simp only [p1, Option.getD_some]
      exact q5.2 X w m B v m2 H2 B2 st p2 t
theorem carry_sound {out : Bool} {H : AHeap} : ∀ (d : Nat) (x y : AV), carry out H d x = some y → Car out H x y := by
  intro d
  induction d with
  | zero => intro x y h; cases h
  | succ d ih =>
    have lst : ∀ (l l' : List AV), carL (carry out H d) l = some l' → l'.length = l.length ∧ ∀ (i : Nat) y, l'[i]? = some y → ∃ x, l[i]? = some x ∧ Car out H x y := carL_spec ih
    have idx : ∀ {X : AHeap} {w : World} {m : AMap} {B : Nat} {m2 : AMap} {H2 : AHeap} {B2 : Nat}, St w m (H ++ X) B → Tgt out B m2 B2 → ∀ {l l' : List AV} {vs : Array Value}, carL (carry out H d) l = some l' → (∀ (i : Nat) (x : AV) (v : Value), l[i]? = some x → vs[i]? = some v → RV w m (H ++ X) B x v) →
        ∀ (i : Nat) (x : AV) (v : Value), l'[i]? = some x → vs[i]? = some v → RV w m2 H2 B2 x v := by
      intro X w m B m2 H2 B2 st t l l' vs hl hv i x v e1 e2
      obtain ⟨y, q1, q2⟩ := (lst l l' hl).2 i x e1
      exact q2.2 X w m B v m2 H2 B2 st (hv i y v q1 e2) t
    have ones : ∀ {l l' : List AV}, carL (carry out H d) l = some l' → (∀ x, x ∈ l → x.one = true) → ∀ x, x ∈ l' → x.one = true := by
      intro l l' hl h1 x hx
      obtain ⟨i, hi⟩ := List.mem_iff_getElem?.1 hx
      obtain ⟨y, q1, q2⟩ := (lst l l' hl).2 i x hi
      rw [q2.1]; exact h1 y (List.mem_of_getElem? q1)
    have places : ∀ {X : AHeap} {w : World} {m : AMap} {B : Nat} {m2 : AMap} {H2 : AHeap} {B2 : Nat}, St w m (H ++ X) B → Tgt out B m2 B2 → ∀ {l l' : List AV} {b off : Nat}, carL (carry out H d) l = some l' → b < w.heap.size → (out = false ∨ B ≤ b) →
        (∀ (j : Nat) (x : AV), l[j]? = some x → ∃ v, w.cell? ⟨b, off + j, none⟩ = some v ∧ RV w m (H ++ X) B x v ∧ x.one = true) → RV w m2 H2 B2 (.rop l') (.pointer (some ⟨b, off, none⟩)) := by
      intro X w m B m2 H2 B2 st t l l' b off hl hlt hgood hc
      obtain ⟨g1, g2⟩ := t.good hgood
      refine .rop l' b off (fun j => (w.cell? ⟨b, off + j, none⟩).getD undef) g1 hlt (fun j x h1 => ?_) (fun j x h1 => ?_)
      · obtain ⟨y, q1, q2⟩ := (lst l l' hl).2 j x h1
        obtain ⟨v, p1, p2, p3⟩ := hc j y q1
        exact ⟨by rw [p1]; rfl, by rw [q2.1]; exact p3⟩
      · obtain ⟨y, q1, q2⟩ := (lst l l' hl).2 j x h1
        obtain ⟨v, p1, p2, p3⟩ := hc j y q1
        simp only [p1, Option.getD_some]
        exact q2.2 X w m B v m2 H2 B2 st p2 t
    intro x y h
    cases x with
    | bool b => cases h; exact ⟨rfl, fun X w m B v m2 H2 B2 st hv t => hv.simple rfl⟩
    | int k n => cases h; exact ⟨rfl, fun X w m B v m2 H2 B2 st hv t => hv.simple rfl⟩
    | str s => cases h; exact ⟨rfl, fun X w m B v m2 H2 B2 st hv t => hv.simple rfl⟩
    | nilFunc => cases h; exact ⟨rfl, fun X w m B v m2 H2 B2 st hv t => by cases hv; constructor⟩
    | nilMap => cases h; exact ⟨rfl, fun X w m B v m2 H2 B2 st hv t => by cases hv; constructor⟩
    | nilIface => cases h; exact ⟨rfl, fun X w m B v m2 H2 B2 st hv t => by cases hv; constructor⟩
    | nilPtr => cases h; exact ⟨rfl, fun X w m B v m2 H2 B2 st hv t => by cases hv; constructor⟩
    | ptrJ => cases h; exact ⟨rfl, fun X w m B v m2 H2 B2 st hv t => by cases hv; constructor⟩
    | nilSlice => cases h; exact ⟨rfl, fun X w m B v m2 H2 B2 st hv t => by cases hv; constructor⟩
    | iface ty v =>
      simp only [carry] at h
      split at h
      · rename_i z hz
        cases h
        refine ⟨rfl, fun X w m B u m2 H2 B2 st hv t => ?_⟩
        cases hv with
        | iface _ _ u' hu => exact .iface _ _ _ ((ih _ _ hz).2 X w m B u' m2 H2 B2 st hu t)
      · cases h
    | func fn a b =>
      simp only [carry] at h
      split at h
      · rename_i a' b' ha hb
        cases h
        refine ⟨rfl, fun X w m B u m2 H2 B2 st hv t => ?_⟩
        cases hv with
        | func _ _ _ f' c' hf hc h1 h2 => exact .func _ _ _ _ _ (by rw [(lst _ _ ha).1]; exact hf) (by rw [(lst _ _ hb).1]; exact hc) (idx st t ha h1) (idx st t hb h2)
      · cases h
    | agg cs =>
      simp only [carry] at h
      split at h
      · rename_i l hl
        cases h
        refine ⟨rfl, fun X w m B u m2 H2 B2 st hv t => ?_⟩
        cases hv with
        | agg _ vs hlen h1 hh => exact .agg _ _ (by rw [(lst _ _ hl).1]; exact hlen) (ones hl h1) (idx st t hl hh)
      · cases h
    | tuple cs =>
      simp only [carry] at h
      split at h
      · rename_i l hl
        cases h
        refine ⟨rfl, fun X w m B u m2 H2 B2 st hv t => ?_⟩
        cases hv with
        | tuple _ vs hlen hh => exact .tuple _ _ (by rw [(lst _ _ hl).1]; exact hlen) (idx st t hl hh)
      · cases h
    | ro fr l =>
      simp only [carry] at h
      split at h
      · rename_i hcond
        split at h
        · rename_i l' hl
          cases h
          refine ⟨rfl, fun X w m B u m2 H2 B2 st hv t => ?_⟩
          have hrows := carR_spec ih l l' hl
          cases hv with
          | roNil _ a cap ha => exact car_rows st t hrows (s := 0) (fun _ => ha) (Nat.zero_le _) (by simp) (fun e => absurd rfl e)
          | ro _ _ s b off cap vs hne hb hfr hlt hs hcap hc hv =>
            refine car_rows st t hrows (fun e => absurd e hne) hcap hs fun _ => ⟨b, off, rfl, hlt, ?_, fun i e j x h1 h2 => ⟨vs i j, (hc i e j x h1 h2).1, hv i e j x h1 h2, (hc i e j x h1 h2).2⟩⟩
            rcases hcond with h | h | h
            · exact .inl h
            · exact .inr (hfr h)
            · exact absurd h hne
        · cases h
      · cases h
    | full l =>
      simp only [carry] at h
      split at h
      · rename_i hcond
        split at h
        · rename_i l' hl
          cases h
          refine ⟨rfl, fun X w m B u m2 H2 B2 st hv t => ?_⟩
          have hrows := carR_spec ih l l' hl
          cases hv with
          | full _ n ad hv =>
            obtain ⟨x0, hx0⟩ : ∃ x0, x0 = AV.ro false l := ⟨_, rfl⟩
            obtain ⟨v0, hv0⟩ : ∃ v0, v0 = Value.slice ad n n := ⟨_, rfl⟩
            rw [← hx0, ← hv0] at hv
            rw [← hv0]
            cases hv with
            | roNil _ a cap ha =>
              cases hx0
              exact car_rows st t hrows (s := 0) (fun _ => ha) (Nat.zero_le _) (by simp) (fun e => absurd rfl e)
            | ro _ _ s b off cap vs hne hb hfr hlt hs hcap hc hv =>
              cases hx0
              exact car_rows st t hrows (fun e => absurd e hne) hcap hs fun _ => ⟨b, off, rfl, hlt, .inl hcond, fun i e j x h1 h2 => ⟨vs i j, (hc i e j x h1 h2).1, hv i e j x h1 h2, (hc i e j x h1 h2).2⟩⟩
            | _ => cases hx0
        · cases h
      · cases h
    | junk => cases h
    | sub h' ver i j s len =>
      simp only [carry] at h
      split at h
      · rename_i o ho
        split at h
        · rename_i e0 he0
          split at h
          · rename_i hver
            split at h
            · rename_i l' hl
              cases h
              refine ⟨rfl, fun X w m B u m2 H2 B2 st hv t => ?_⟩
              have hrows := carR_spec ih _ l' hl
              have hox : AHeap.obj (H ++ X) h' = some o := by rw [AHeap.obj_push_lt (AHeap.obj_lt ho)]; exact ho
              have hsrc : asrc (H ++ X) s (.sub h' ver i j s len) = some (chunks s len (e0.drop j)) := by
                simp only [asrc, hox, he0]
                rw [if_pos ⟨hver.1, trivial, hver.2⟩]
              cases hv with
              | sub _ _ _ _ _ _ a n cap hh hvv =>
                obtain ⟨b, q1, q2, q3, q4⟩ := (hvv o hox).2 hver.1
                obtain ⟨g1, g2, _⟩ := st.dom h' b q1
                obtain ⟨ad, cap', e1, hu, hc, hnone, hcells⟩ := asrc_sound st (.sub _ _ _ _ _ _ a n cap hh hvv) hsrc
                cases e1
                have key := car_rows (H2 := H2) st t hrows (ad := some a) (cap := cap) (s := s) (fun _ e => by cases e) hc hu (fun hne => by
                  obtain ⟨b', off, hb', hfc⟩ := hcells hne
                  cases hb'
                  have hcap : 0 < cap := by
                    rcases Nat.eq_zero_or_pos cap with h0 | h0
                    · exact absurd (List.eq_nil_of_length_eq_zero (by omega)) hne
                    · exact h0
                  have := q2 hcap
                  cases this
                  refine ⟨b, _, rfl, g2, .inr g1, fun i' e' j' x h1 h2 => ?_⟩
                  have := FC.nested hu hfc i' e' j' x h1 h2
                  simpa only [Nat.add_assoc] using this)
                exact key
            · cases h
          · cases h
        · cases h
      · cases h
    | own h' ver i len =>
      simp only [carry] at h
      split at h
      · rename_i o ho
        split at h
        · rename_i hver
          split at h
          · rename_i l' hl
            cases h
            refine ⟨rfl, fun X w m B u m2 H2 B2 st hv t => ?_⟩
            have hrows := carR_spec ih _ l' hl
            have hox : AHeap.obj (H ++ X) h' = some o := by rw [AHeap.obj_push_lt (AHeap.obj_lt ho)]; exact ho
            cases hv with
            | own _ _ _ _ a n cap hh hvv =>
              obtain ⟨b, q1, q2, q3, q4, q5, q6, q7⟩ := (hvv o hox).2 hver
              obtain ⟨g1, g2, o', cs, e1, e2, e3, e4⟩ := st.dom h' b q1
              rw [hox] at e1; cases e1
              have hlen : ((o.elems.drop i).take len).length = len := by simp; omega
              have key := car_rows (H2 := H2) st t hrows (ad := a) (cap := cap) (s := o.s) (fun _ e => by
                rcases Nat.eq_zero_or_pos cap with h0 | h0
                · exact h0
                · rw [q2 (.inl h0)] at e; cases e) (by rw [hlen]; exact q5) (fun e he => e3 e (List.mem_of_mem_drop (List.mem_of_mem_take he))) (fun hne => ⟨b, i * o.s, q2 (.inl (by
                  rcases Nat.eq_zero_or_pos cap with h0 | h0
                  · exact absurd (List.eq_nil_of_length_eq_zero (by rw [hlen]; omega)) hne
                  · exact h0)), g2, .inr g1, fun i' e j x h1 h2 => by
                    rw [List.getElem?_take] at h1
                    split at h1
                    · rw [List.getElem?_drop] at h1
                      have := st.cell q1 hox h1 h2
                      rw [show (i + i') * o.s + j = i * o.s + i' * o.s + j by rw [Nat.add_mul]] at this
                      exact this
                    · cases h1⟩)
              rw [hlen] at key
              rw [q3]; exact key
          · cases h
        · cases h
      · cases h
    | ptr h' ver i j =>
      simp only [carry] at h
      split at h
      · rename_i cells hc
        split at h
        · rename_i l hl
          cases h
          refine ⟨rfl, fun X w m B u m2 H2 B2 st hv t => ?_⟩
          simp only [deref] at hc
          split at hc
          · rename_i o ho
            split at hc
            · rename_i hver
              split at hc
              · rename_i el hel
                cases hc
                have hox : AHeap.obj (H ++ X) h' = some o := by rw [AHeap.obj_push_lt (AHeap.obj_lt ho)]; exact ho
                cases hv with
                | ptr _ _ _ _ a hh hvv =>
                  obtain ⟨b, q1, q2⟩ := (hvv o hox).2 hver
                  obtain ⟨g1, g2, _⟩ := st.dom h' b q1
                  subst q2
                  refine places st t hl g2 (.inr g1) fun k x hk => ?_
                  rw [List.getElem?_drop] at hk
                  have := st.cell q1 hox hel hk
                  rwa [← Nat.add_assoc] at this
              · cases hc
            · cases hc
          · cases hc
        · cases h
      · cases h
    | map h' =>
      simp only [carry] at h
      split at h
      · rename_i o ho
        cases h
        refine ⟨rfl, fun X w m B u m2 H2 B2 st hv t => ?_⟩
        have hox : AHeap.obj (H ++ X) h' = some o := by rw [AHeap.obj_push_lt (AHeap.obj_lt ho)]; exact ho
        cases hv with
        | map _ b hh hb =>
          obtain ⟨g1, g2, g3, o1, g4, g5⟩ := st.domP h' b (hb o hox)
          rw [hox] at g4; cases g4
          exact .mapR _ _ (t.good (.inr g1)).1 g2 g5
      · cases h
    | mapR rows =>
      simp only [carry] at h
      split at h
      · rename_i hout
        cases h
        refine ⟨rfl, fun X w m B u m2 H2 B2 st hv t => ?_⟩
        cases hv with
        | mapR _ b hb hlt hc => exact .mapR _ _ (t.good (.inl hout)).1 hlt hc
      · cases h
    | rop cells =>
      simp only [carry] at h
      split at h
      · rename_i hout
        split at h
        · rename_i l hl
          cases h
          refine ⟨rfl, fun X w m B u m2 H2 B2 st hv t => ?_⟩
          cases hv with
          | rop _ b off vs hb hlt hc hv => exact places st t hl hlt (.inl hout) fun j x hj => ⟨vs j, (hc j x hj).1, hv j x hj, (hc j x hj).2⟩
        · cases h
      · cases h
theorem frz_of {H : AHeap} {d : Nat} {x y : AV} (h : carry false H d x = some y) (X : AHeap) : Frz (H ++ X) x y :=
  fun w m B v st hv => (carry_sound d x y h).2 X w m B v _ _ _ st hv ⟨fun e => (by cases e), fun _ _ => rfl⟩
theorem frzL_of {H : AHeap} {d : Nat} : ∀ {xs ys : List AV}, carL (carry false H d) xs = some ys → ∀ X, FrzL (H ++ X) xs ys
  | [], ys, h, X => by cases h; exact .nil
  | x :: r, ys, h, X => by
    simp only [carL] at h
    split at h
    · rename_i y l h1 h2
      cases h
      exact .cons (frz_of h1 X) (frzL_of h2 X)
    · cases h
theorem frzL_of' {H : AHeap} {d : Nat} {xs ys : List AV} (h : carL (carry false H d) xs = some ys) : FrzL H xs ys := by
  have := frzL_of h []
  rwa [List.append_nil] at this
theorem out_of {H : AHeap} {d : Nat} {x y : AV} (h : carry true H d x = some y) : Out H x y := by
  intro w m B v st hv m' H' B' hB hm
  have := (carry_sound d x y h).2 [] w m B v m' H' B' (by rw [List.append_nil]; exact st) (by rw [List.append_nil]; exact hv)
  exact this ⟨fun _ => ⟨hB, hm⟩, fun e => by cases e⟩
end Go.Awp
/- Small rules for the walk: objects by number, values over a call's border where lists are not known one by one. Generic in the program. -/
namespace Go.Awp
set_option linter.unusedSectionVars false
variable [Fx]
theorem obj_zero {o : Option AObj} {H : AHeap} : AHeap.obj (o :: H) 0 = o := rfl
theorem obj_succ {o : Option AObj} {H : AHeap} {n : Nat} : AHeap.obj (o :: H) (n + 1) = AHeap.obj H n := by
  simp [AHeap.obj]
theorem obj_app {o : Option AObj} {X Y : AHeap} : AHeap.obj (X ++ o :: Y) X.length = o := by
  simp [AHeap.obj]
theorem obj_app_add {X Y : AHeap} {k : Nat} : AHeap.obj (X ++ Y) (X.length + k) = AHeap.obj Y k := by
  show (((X ++ Y : List (Option AObj)))[List.length X + k]?).join = (Y[k]?).join
  rw [List.getElem?_append_right (by omega)]
  congr 2; omega
theorem set_app {o p : Option AObj} {X Y : AHeap} : (X ++ o :: Y).set X.length p = X ++ p :: Y := by
  simp
theorem set_app_add {p : Option AObj} {X Y : AHeap} {k : Nat} : (X ++ Y).set (X.length + k) p = X ++ Y.set k p := by
  rw [List.set_append_right _ _ (by omega)]
  congr 2; omega
def Simple (l : List (List AV)) : Prop := ∀ el, el ∈ l → ∀ x, x ∈ el → x.simple = true
theorem carL_simple {out : Bool} {H : AHeap} {d : Nat} : ∀ {l : List AV}, (∀ x, x ∈ l → x.simple = true) → carL (carry out H (d + 1)) l = some l
  | [], _ => rfl
  | x :: r, h => by
    have h1 : carry out H (d + 1) x = some x := by
      have := h x (by simp)
      cases x <;> first | rfl | cases this
    simp only [carL, h1, carL_simple (l := r) fun y hy => h y (by simp [hy])]
theorem carR_simple {out : Bool} {H : AHeap} {d : Nat} : ∀ {l : List (List AV)}, Simple l → carR (carry out H (d + 1)) l = some l
  | [], _ => rfl
  | x :: r, h => by
    simp only [carR, carL_simple (h x (by simp)), carR_simple (l := r) fun y hy => h y (by simp [hy])]
theorem car_ro {out fr : Bool} {H : AHeap} {d : Nat} {l : List (List AV)} (hl : Simple l) (hc : out = false ∨ fr = true) : carry out H (d + 2) (.ro fr l) = some (.ro out l) := by
  have : out = false ∨ fr = true ∨ l = [] := by rcases hc with h | h <;> simp [h]
  rw [show carry out H (d + 2) (.ro fr l) = (if out = false ∨ fr = true ∨ l = [] then (match carR (carry out H (d + 1)) l with | some l' => some (.ro out l') | none => none) else none) from rfl, if_pos this, carR_simple hl]
theorem car_ro_false {fr : Bool} {H : AHeap} {d : Nat} {l : List (List AV)} (hl : Simple l) : carry false H (d + 2) (.ro fr l) = some (.ro false l) := car_ro hl (.inl rfl)
theorem car_ro_true {H : AHeap} {d : Nat} {l : List (List AV)} (hl : Simple l) : carry true H (d + 2) (.ro true l) = some (.ro true l) := car_ro hl (.inr rfl)
theorem car_own {out : Bool} {H : AHeap} {d h : Nat} {o : AObj} (ho : AHeap.obj H h = some o) (hl : Simple o.elems) : carry out H (d + 2) (.own h o.elems.length 0 o.elems.length) = some (.ro out o.elems) := by
  rw [show carry out H (d + 2) (.own h o.elems.length 0 o.elems.length) = (match AHeap.obj H h with | some p => if o.elems.length = p.elems.length then (match carR (carry out H (d + 1)) ((p.elems.drop 0).take o.elems.length) with | some l' => some (.ro out l') | none => none) else none | none => none) from rfl, ho]
  simp only [if_true, List.drop_zero, List.take_length, carR_simple hl]
theorem car_agg {out : Bool} {H : AHeap} {d : Nat} {cs l : List AV} (h : carL (carry out H d) cs = some l) : carry out H (d + 1) (.agg cs) = some (.agg l) := by
  rw [show carry out H (d + 1) (.agg cs) = (match carL (carry out H d) cs with | some l => some (.agg l) | none => none) from rfl, h]
theorem carL_cons {f : AV → Option AV} {x y : AV} {r l : List AV} (h1 : f x = some y) (h2 : carL f r = some l) : carL f (x :: r) = some (y :: l) := by simp only [carL, h1, h2]
/-- An empty slice, as plain data. -/
theorem frz_nil {H : AHeap} {b : Bool} : Frz H .nilSlice (.ro b []) := fun w m B v st hv => by
  cases hv with
  | nilSlice a => exact .roNil _ _ _ fun _ => rfl
theorem frz_car {H : AHeap} {d : Nat} {x y : AV} (h : carry false H d x = some y) : Frz H x y := by
  have := frz_of h []
  rwa [List.append_nil] at this
end Go.Awp
/- The walk's rules in one bundle. -/
namespace Go.Awp
set_option linter.unusedSectionVars false
variable [Fx]
theorem sstep_store {s : Nat} {g : Bool} {x v : Operand} {env : AEnv} {H : AHeap} : sstep (.store s g x v) env H = (match ev env x, ev env v with
    | some (.ptr h ver i j), some y => (match AHeap.obj H h with
      | some o => (match o.elems[i]? with
        | some e => if ver = o.elems.length ∧ y.cells.length = s ∧ y.isTuple = false ∧ j + s ≤ e.length then some (none, H.set h (some { o with elems := o.elems.set i (setMany e j y.cells) })) else none
        | none => none)
      | none => none)
    | _, _ => none) := rfl
theorem walk : (type_of% @sstep_store) ∧  (type_of% @a_mknil) ∧ (type_of% @awp_seq) ∧ (type_of% @awp_ops) ∧ (type_of% @awp_trim) ∧ (type_of% @awp_skip) ∧ (type_of% @awp_cond) ∧ (type_of% @awp_block) ∧ (type_of% @awp_exit) ∧ (type_of% @awp_ret) ∧ (type_of% @awp_label) ∧ (type_of% @awp_goto) ∧ (type_of% @awp_opsD) ∧ (type_of% @postK_app) ∧ (type_of% @tlK_app) ∧ (type_of% @then_normal) ∧ (type_of% @then_exit) ∧ (type_of% @then_ret) ∧ (type_of% @then_goto) ∧ (type_of% @block_normal) ∧ (type_of% @block_ret) ∧ (type_of% @block_goto) ∧ (type_of% @block_exit) ∧ (type_of% @block_exit_ne) ∧ (type_of% @loop_normal) ∧ (type_of% @loop_exit) ∧ (type_of% @loop_ret) ∧ (type_of% @loop_goto) ∧ (type_of% @scope_normal) ∧ (type_of% @scope_exit) ∧ (type_of% @scope_ret) ∧ (type_of% @scope_goto) ∧ (type_of% @ops_nil) ∧ (type_of% @ops_none) ∧ (type_of% @ops_some) ∧ (type_of% @opsK_app) ∧ (type_of% @gOn_app) ∧ (type_of% @gOff_app) ∧ (type_of% @gGone_app) ∧ (type_of% @acall_call) ∧ (type_of% @callK_app) ∧ (type_of% @callvK_app) ∧ (type_of% @withRes_val) ∧ (type_of% @withRes_skip) ∧ (type_of% @withQR_val) ∧ (type_of% @withQR_box) ∧ (type_of% @withQR_arr) ∧ (type_of% @withArgs_some) ∧ (type_of% @withGuard_tt) ∧ (type_of% @withGuard_ff) ∧ (type_of% @withGuard_tf) ∧ (type_of% @withGuard_ft) ∧ (type_of% @withGuard_gone) ∧ (type_of% @withBool_t) ∧ (type_of% @withBool_f) ∧ (type_of% @condK_app) ∧ (type_of% @post_ret) ∧ (type_of% @post_normal) ∧ (type_of% @D1_nil) ∧ (type_of% @D1_none) ∧ (type_of% @D1_some) ∧ (type_of% @D2_nil) ∧ (type_of% @d1K_app) ∧ (type_of% @d1V_late) ∧ (type_of% @d1V_early) ∧ (type_of% @d1B_app) ∧ (type_of% @d1A_app) ∧ (type_of% @d1T_app) ∧ (type_of% @d1On_app) ∧ (type_of% @d1Off_app) ∧ (type_of% @d1Gone_app) ∧ (type_of% @d2V_app) ∧ (type_of% @d2L_app) ∧ (type_of% @d2W_app) ∧ (type_of% @withQ_val) ∧ (type_of% @withQ_box) ∧ (type_of% @withQ_arr) ∧ (type_of% @withT_some) ∧ (type_of% @withW_val) ∧ (type_of% @withW_skip) ∧ (type_of% @past_nil) ∧ (type_of% @past_cons) ∧ (type_of% @same_nil) ∧ (type_of% @same_cons) ∧ (type_of% @a_mv) ∧ (type_of% @d_mv) ∧ (type_of% @e_mv) ∧ (type_of% @a_pick) ∧ (type_of% @d_pick) ∧ (type_of% @e_pick) ∧ (type_of% @a_load) ∧ (type_of% @d_load) ∧ (type_of% @e_load) ∧ (type_of% @a_box) ∧ (type_of% @d_box) ∧ (type_of% @a_zero) ∧ (type_of% @d_zero) ∧ (type_of% @a_build) ∧ (type_of% @d_build) ∧ (type_of% @e_build) ∧ (type_of% @a_mklit) ∧ (type_of% @d_mklit) ∧ (type_of% @a_mkslice) ∧ (type_of% @d_mkslice) ∧ (type_of% @a_faddr) ∧ (type_of% @d_faddr) ∧ (type_of% @e_faddr) ∧ (type_of% @a_field) ∧ (type_of% @d_field) ∧ (type_of% @e_field) ∧ (type_of% @a_iaddr) ∧ (type_of% @d_iaddr) ∧ (type_of% @e_iaddr) ∧ (type_of% @a_iaddrA) ∧ (type_of% @d_iaddrA) ∧ (type_of% @e_iaddrA) ∧ (type_of% @a_indexA) ∧ (type_of% @d_indexA) ∧ (type_of% @e_indexA) ∧ (type_of% @a_indexS) ∧ (type_of% @d_indexS) ∧ (type_of% @e_indexS) ∧ (type_of% @a_slice) ∧ (type_of% @d_slice) ∧ (type_of% @e_slice) ∧ (type_of% @a_sliceS) ∧ (type_of% @d_sliceS) ∧ (type_of% @e_sliceS) ∧ (type_of% @a_sliceA) ∧ (type_of% @d_sliceA) ∧ (type_of% @e_sliceA) ∧ (type_of% @a_slice0) ∧ (type_of% @d_slice0) ∧ (type_of% @e_slice0) ∧ (type_of% @a_extract) ∧ (type_of% @d_extract) ∧ (type_of% @e_extract) ∧ (type_of% @a_len) ∧ (type_of% @d_len) ∧ (type_of% @e_len) ∧ (type_of% @a_lenS) ∧ (type_of% @d_lenS) ∧ (type_of% @e_lenS) ∧ (type_of% @a_mm) ∧ (type_of% @d_mm) ∧ (type_of% @e_mm) ∧ (type_of% @a_un) ∧ (type_of% @d_un) ∧ (type_of% @e_un) ∧ (type_of% @a_bin) ∧ (type_of% @d_bin) ∧ (type_of% @e_bin) ∧ (type_of% @a_binB) ∧ (type_of% @d_binB) ∧ (type_of% @e_binB) ∧ (type_of% @a_eqA) ∧ (type_of% @d_eqA) ∧ (type_of% @e_eqA) ∧ (type_of% @a_conv) ∧ (type_of% @d_conv) ∧ (type_of% @e_conv) ∧ (type_of% @a_iface) ∧ (type_of% @d_iface) ∧ (type_of% @e_iface) ∧ (type_of% @a_mkfun) ∧ (type_of% @d_mkfun) ∧ (type_of% @e_mkfun) ∧ (type_of% @a_nilchk) ∧ (type_of% @d_nilchk) ∧ (type_of% @e_nilchk) ∧ (type_of% @a_store) ∧ (type_of% @e_store) ∧ (type_of% @a_append) ∧ (type_of% @e_append) ∧ (type_of% @awp_opsA) ∧ (type_of% @tP_app) ∧ (type_of% @tL_app) ∧ (type_of% @tA_app) ∧ (type_of% @T_fin) ∧ (type_of% @T_stop) ∧ (type_of% @T_pure) ∧ (type_of% @T_load) ∧ (type_of% @T_alt) ∧ (type_of% @reads_nil) ∧ (type_of% @reads_cons) ∧ (type_of% @a_slice3) ∧ (type_of% @d_slice3) ∧ (type_of% @e_slice3) ∧ (type_of% @a_clear) ∧ (type_of% @e_clear) ∧ (type_of% @a_copy) ∧ (type_of% @e_copy) ∧ (type_of% @d_call) ∧ (type_of% @d_callv) ∧ (type_of% @d_invoke)  ∧ (type_of% @a_mkmap) ∧ (type_of% @e_mkmap) ∧ (type_of% @s_mkmap) ∧ (type_of% @a_isnilI) ∧ (type_of% @d_isnilI) ∧ (type_of% @e_isnilI) ∧ (type_of% @a_lookup) ∧ (type_of% @d_lookup) ∧ (type_of% @e_lookup) ∧ (type_of% @obj_zero) ∧ (type_of% @obj_succ) ∧ (type_of% @obj_app) ∧ (type_of% @obj_app_add) ∧ (type_of% @set_app) ∧ (type_of% @set_app_add) :=
  ⟨@sstep_store, @a_mknil, @awp_seq, @awp_ops, @awp_trim, @awp_skip, @awp_cond, @awp_block, @awp_exit, @awp_ret, @awp_label, @awp_goto, @awp_opsD, @postK_app, @tlK_app, @then_normal, @then_exit, @then_ret, @then_goto, @block_normal, @block_ret, @block_goto, @block_exit, @block_exit_ne, @loop_normal, @loop_exit, @loop_ret, @loop_goto, @scope_normal, @scope_exit, @scope_ret, @scope_goto, @ops_nil, @ops_none, @ops_some, @opsK_app, @gOn_app, @gOff_app, @gGone_app, @acall_call, @callK_app, @callvK_app, @withRes_val, @withRes_skip, @withQR_val, @withQR_box, @withQR_arr, @withArgs_some, @withGuard_tt, @withGuard_ff, @withGuard_tf, @withGuard_ft, @withGuard_gone, @withBool_t, @withBool_f, @condK_app, @post_ret, @post_normal, @D1_nil, @D1_none, @D1_some, @D2_nil, @d1K_app, @d1V_late, @d1V_early, @d1B_app, @d1A_app, @d1T_app, @d1On_app, @d1Off_app, @d1Gone_app, @d2V_app, @d2L_app, @d2W_app, @withQ_val, @withQ_box, @withQ_arr, @withT_some, @withW_val, @withW_skip, @past_nil, @past_cons, @same_nil, @same_cons, @a_mv, @d_mv, @e_mv, @a_pick, @d_pick, @e_pick, @a_load, @d_load, @e_load, @a_box, @d_box, @a_zero, @d_zero, @a_build, @d_build, @e_build, @a_mklit, @d_mklit, @a_mkslice, @d_mkslice, @a_faddr, @d_faddr, @e_faddr, @a_field, @d_field, @e_field, @a_iaddr, @d_iaddr, @e_iaddr, @a_iaddrA, @d_iaddrA, @e_iaddrA, @a_indexA, @d_indexA, @e_indexA, @a_indexS, @d_indexS, @e_indexS, @a_slice, @d_slice, @e_slice, @a_sliceS, @d_sliceS, @e_sliceS, @a_sliceA, @d_sliceA, @e_sliceA, @a_slice0, @d_slice0, @e_slice0, @a_extract, @d_extract, @e_extract, @a_len, @d_len, @e_len, @a_lenS, @d_lenS, @e_lenS, @a_mm, @d_mm, @e_mm, @a_un, @d_un, @e_un, @a_bin, @d_bin, @e_bin, @a_binB, @d_binB, @e_binB, @a_eqA, @d_eqA, @e_eqA, @a_conv, @d_conv, @e_conv, @a_iface, @d_iface, @e_iface, @a_mkfun, @d_mkfun, @e_mkfun, @a_nilchk, @d_nilchk, @e_nilchk, @a_store, @e_store, @a_append, @e_append, @awp_opsA, @tP_app, @tL_app, @tA_app, @T_fin, @T_stop, @T_pure, @T_load, @T_alt, @reads_nil, @reads_cons, @a_slice3, @d_slice3, @e_slice3, @a_clear, @e_clear, @a_copy, @e_copy, @d_call, @d_callv, @d_invoke, @a_mkmap, @e_mkmap, @s_mkmap, @a_isnilI, @d_isnilI, @e_isnilI, @a_lookup, @d_lookup, @e_lookup, @obj_zero, @obj_succ, @obj_app, @obj_app_add, @set_app, @set_app_add⟩
end Go.Awp
/- What a function is handed, read from the given form of its arguments: plain data. -/
namespace Go.Awp
set_option linter.unusedSectionVars false
variable [Fx]
open Go.ChangeShapes Go.WideShapes Go.Deep
/-- What a cell of an argument may be. -/
inductive Cs where
  | int (k : IntKind)
  | bool
  | str
  | sl (bytes : Nat) (es : List Cs)
inductive Fits : Cs → AV → Prop
  | int (k : IntKind) (n : Int) (h : (Lit.int k n).wf = true) : Fits (.int k) (.int k n)
  | bool (b : Bool) : Fits .bool (.bool b)
  | str (s : ByteArray) (h : s.size ≤ maxLen) : Fits .str (.str s)
  | sl (bytes : Nat) (es : List Cs) (l : List (List AV)) (hl : l.length ≤ maxLen) (hb : l.length * bytes ≤ reachBytes) (h : ∀ row, row ∈ l → row.length = es.length)
      (hh : ∀ row, row ∈ l → ∀ (i : Nat) c y, es[i]? = some c → row[i]? = some y → Fits c y) : Fits (.sl bytes es) (.ro false l)
theorem Fits.one {c : Cs} {x : AV} (h : Fits c x) : x.one = true := by cases h <;> rfl
def flatF (P : Program) (g : TypeId → Option (List Cs)) : Nat → List Field → Option (List Cs)
  | _, [] => some []
  | off, fl :: r => if fl.offset = off then (match g fl.type, flatF P g (off + P.cellsOf fl.type) r with
    | some a, some b => if a.length = P.cellsOf fl.type then some (a ++ b) else none
    | _, _ => none) else none
def flat (P : Program) : Nat → TypeId → Option (List Cs)
  | 0, _ => none
  | f + 1, t => match P.underlying t with
    | some (.int k) => some [.int k]
    | some .bool => some [.bool]
    | some .string => some [.str]
    | some (.slice e) => (match flat P f e with
      | some es => if es.length = P.cellsOf e ∧ 0 < es.length then some [.sl (P.bytesOf e) es] else none
      | none => none)
    | some (.struct fs) => (match flatF P (flat P f) 0 fs.toList with
      | some l => if l.length = P.cellsOf t then some l else none
      | none => none)
    | some (.array n e) => (match flat P f e with
      | some es => if es.length = P.cellsOf e ∧ n * es.length = P.cellsOf t then some (List.replicate n es).flatten else none
      | none => none)
    | _ => none
theorem addr_add {b off n : Nat} : (⟨b, off, none⟩ : Addr).add n = ⟨b, off + n, none⟩ := by
  unfold Addr.add
  split
  · rename_i h; subst h; rfl
  · rfl
section
variable {H : Type} {enc : TypeId × Value → H} {P : Program} {w : World} {spare : Nat → Bool}
def Opened (w : World) (l : List Cs) (cs : List Value) : Prop := cs.length = l.length ∧ ∃ xs : List AV, xs.length = l.length ∧ ∀ (i : Nat) c y v, l[i]? = some c → xs[i]? = some y → cs[i]? = some v → Fits c y ∧ RV w (fun _ => none) [] w.heap.size y v
theorem opened_nil : Opened w [] [] := ⟨rfl, [], rfl, fun i c y v h => by simp at h⟩
theorem opened_one {c : Cs} {x : AV} {v : Value} (h : Fits c x) (hv : RV w (fun _ => none) [] w.heap.size x v) : Opened w [c] [v] :=
  ⟨rfl, [x], rfl, fun i c' y v' h1 h2 h3 => by
    cases i with
    | zero => cases h1; cases h2; cases h3; exact ⟨h, hv⟩
    | succ i => simp at h1⟩
theorem opened_append {l l' : List Cs} {cs cs' : List Value} (h : Opened w l cs) (h' : Opened w l' cs') : Opened w (l ++ l') (cs ++ cs') := by
  obtain ⟨a1, xs, a2, a3⟩ := h
  obtain ⟨b1, ys, b2, b3⟩ := h'
  refine ⟨by simp [a1, b1], xs ++ ys, by simp [a2, b2], fun i c y v h1 h2 h3 => ?_⟩
  rcases Nat.lt_or_ge i l.length with hi | hi
  · rw [List.getElem?_append_left hi] at h1
    rw [List.getElem?_append_left (by omega)] at h2 h3
    exact a3 i c y v h1 h2 h3
  · rw [List.getElem?_append_right hi] at h1
    rw [List.getElem?_append_right (by omega)] at h2 h3
    rw [a2] at h2; rw [a1] at h3
    exact b3 _ c y v h1 h2 h3
theorem weightsAll_mem {P : Program} {e : TypeId} {d : DataW H} {x : Nat} (hx : x ∈ d.weights P e) : ∀ {l : List (DataW H)}, d ∈ l → x ∈ DataW.weightsAll P e l
  | [], h => by cases h
  | a :: l, h => by
    unfold DataW.weightsAll
    rcases List.mem_cons.1 h with rfl | h
    · exact List.mem_append_left _ hx
    · exact List.mem_append_right _ (weightsAll_mem hx h)
theorem weightsEach_mem {P : Program} {d : DataW H} {t : TypeId} {x : Nat} (hx : x ∈ d.weights P t) : ∀ {ts : List TypeId} {l : List (DataW H)} {i : Nat}, ts[i]? = some t → l[i]? = some d → x ∈ DataW.weightsEach P ts l
  | [], l, i, h, _ => by simp at h
  | _ :: _, [], i, _, h => by simp at h
  | u :: ts, a :: l, i, h1, h2 => by
    unfold DataW.weightsEach
    cases i with
    | zero => cases h1; cases h2; exact List.mem_append_left _ hx
    | succ i => exact List.mem_append_right _ (weightsEach_mem hx (i := i) h1 h2)
def Slim (P : Program) (t : TypeId) (d : DataW H) : Prop := ∀ x, x ∈ d.weights P t → x ≤ reachBytes
theorem open_flatF {g : TypeId → Option (List Cs)} {m : Nat} {cs : List Value}
    (ih : ∀ t l, g t = some l → ∀ (cs : List Value) x, DataW.trod enc P w 0 spare true m t cs = some x → Slim P t x.1 → Opened w l cs) :
    ∀ (fl : List Field) (off : Nat) (l : List Cs), flatF P g off fl = some l → off + l.length = cs.length → (∀ f, f ∈ fl → ∃ y, DataW.trod enc P w 0 spare true m f.type ((cs.drop f.offset).take (P.cellsOf f.type)) = some y ∧ Slim P f.type y.1) → Opened w l (cs.drop off)
  | [], off, l, h, hl, _ => by
    cases h
    have e : cs.drop off = [] := List.drop_eq_nil_of_le (by simp at hl; omega)
    rw [e]; exact opened_nil
  | f :: r, off, l, h, hl, hx => by
    unfold flatF at h
    split at h
    · rename_i ho
      split at h
      · rename_i a b ha hb
        split at h
        · rename_i hal
          cases h
          obtain ⟨y, hy, hsl⟩ := hx f (by simp)
          have h1 := ih _ _ ha _ _ hy hsl
          rw [ho] at h1
          have h2 := open_flatF ih r _ b hb (by simp at hl; omega) fun f' hf' => hx f' (by simp [hf'])
          have := opened_append h1 h2
          have e : (cs.drop off).take (P.cellsOf f.type) ++ cs.drop (off + P.cellsOf f.type) = cs.drop off := by
            rw [← List.drop_drop]; exact List.take_append_drop ..
          rwa [e] at this
        · cases h
      · cases h
    · cases h
theorem open_array {m n s : Nat} {e : TypeId} {es : List Cs} (hs : es.length = s) {cs : List Value}
    (ih : ∀ (cs : List Value) x, DataW.trod enc P w 0 spare true m e cs = some x → Slim P e x.1 → Opened w es cs) :
    ∀ (k i : Nat), i + k = n → n * s = cs.length → (∀ i, i < n → ∃ y, DataW.trod enc P w 0 spare true m e ((cs.drop (i * s)).take s) = some y ∧ Slim P e y.1) → Opened w (List.replicate k es).flatten (cs.drop (i * s))
  | 0, i, hi, hl, _ => by
    have e : cs.drop (i * s) = [] := List.drop_eq_nil_of_le (by rw [← hl]; exact Nat.mul_le_mul_right _ (by omega))
    rw [e]; exact opened_nil
  | k + 1, i, hi, hl, hx => by
    obtain ⟨y, hy, hsl⟩ := hx i (by omega)
    have h1 := ih _ _ hy hsl
    have h2 := open_array hs ih k (i + 1) (by omega) hl hx
    have := opened_append h1 h2
    have e : (cs.drop (i * s)).take s ++ cs.drop ((i + 1) * s) = cs.drop (i * s) := by
      rw [show (i + 1) * s = i * s + s from Nat.succ_mul .., ← List.drop_drop]; exact List.take_append_drop ..
    rw [e] at this
    simpa [List.replicate_succ] using this
theorem open_flat : ∀ (f : Nat) (t : TypeId) (l : List Cs), flat P f t = some l → ∀ (fuel : Nat) (cs : List Value) (x : DataW H × List MemPlace), DataW.trod enc P w 0 spare true fuel t cs = some x → Slim P t x.1 → Opened w l cs
  | 0, t, l, h => by simp [flat] at h
  | f + 1, t, l, h => by
    intro fuel cs x hx hsl
    have ih := open_flat f
    unfold flat at h
    split at h
    · rename_i k hu
      cases h
      cases fuel with
      | zero => simp [DataW.trod] at hx
      | succ m =>
        unfold DataW.trod at hx
        rw [hu] at hx
        split at hx <;> simp_all
        rename_i k' n _
        obtain ⟨⟨rfl, hw⟩, _⟩ := hx
        exact opened_one (.int _ _ hw) (.int _ _)
    · rename_i hu
      cases h
      cases fuel with
      | zero => simp [DataW.trod] at hx
      | succ m =>
        unfold DataW.trod at hx
        rw [hu] at hx
        split at hx <;> simp_all
        exact opened_one (.bool _) (.bool _)
    · rename_i hu
      cases h
      cases fuel with
      | zero => simp [DataW.trod] at hx
      | succ m =>
        unfold DataW.trod at hx
        rw [hu] at hx
        split at hx <;> simp_all
        exact opened_one (.str _ hx.1) (.str _)
    · rename_i e hu
      split at h
      · rename_i es he
        split at h
        · rename_i hes
          cases h
          rcases open_slice hu hx with ⟨rfl, _⟩ | ⟨a, len, cap, m, n, D, Pl, rfl, hb, hl, hm, hmm, rfl, hel⟩
          · exact opened_one (.sl (P.bytesOf e) es [] (Nat.zero_le _) (by simp) (fun _ h => by cases h) (fun _ h => by cases h)) (.roNil _ _ _ fun _ => rfl)
          · rcases Nat.eq_zero_or_pos len with hz | hz
            · subst hz
              exact opened_one (.sl (P.bytesOf e) es [] (Nat.zero_le _) (by simp) (fun _ h => by cases h) (fun _ h => by cases h)) (.roNil _ _ _ fun h => by cases h)
            · have hlm : len ≤ m := by rw [hmm]; split <;> omega
              have hbytes : len * P.bytesOf e ≤ reachBytes := by
                have := hsl ((len + (m - len)) * P.bytesOf e) (by
                  unfold DataW.weights
                  simp only [hu, List.length_map, List.length_range]
                  exact List.mem_cons_self ..)
                exact Nat.le_trans (Nat.mul_le_mul_right _ (by omega)) this
              have hel2 : ∀ i, i < len → Slim P e (D i) := fun i hi x hx => hsl x (by
                unfold DataW.weights
                simp only [hu]
                exact List.mem_cons_of_mem _ (List.mem_append_left _ (weightsAll_mem hx (List.mem_map.2 ⟨i, List.mem_range.2 hi, rfl⟩))))
              have each : ∀ i, i < len → ∃ q : List AV × (Nat → Value), q.1.length = es.length ∧ ∀ j, j < es.length → w.cell? ((a.add (i * P.cellsOf e)).add j) = some (q.2 j) ∧ ∀ c y, es[j]? = some c → q.1[j]? = some y → Fits c y ∧ RV w (fun _ => none) [] w.heap.size y (q.2 j) := by
                intro i hi
                obtain ⟨cs', h1, h2⟩ := hel i (by omega)
                obtain ⟨o1, xs, o2, o3⟩ := ih e es he n cs' _ h2 (hel2 i hi)
                obtain ⟨_, hlen, hcell⟩ := World.cells?_some h1
                refine ⟨(xs, fun j => cs'.getD j default), o2, fun j hj => ?_⟩
                have hg : cs'[j]? = some (cs'.getD j default) := by simp [List.getD, List.getElem?_eq_getElem (show j < cs'.length by omega)]
                exact ⟨by rw [hcell j (by omega), hg], fun c y h1 h2 => o3 j c y _ h1 h2 hg⟩
              obtain ⟨q, hq⟩ := choose_lt each
              have c0 := ((hq 0 hz).2 0 hes.2).1
              obtain ⟨b, off, spot⟩ := a
              have hspot : spot = none := by simpa [Addr.add] using World.cell?_spot c0
              subst hspot
              have hlt : b < w.heap.size := by
                rcases Nat.lt_or_ge b w.heap.size with h | h
                · exact h
                · simp [World.cell?, Addr.add, Array.getElem?_eq_none h] at c0
              have hll : ((List.range len).map fun i => (q i).1).length = len := by simp
              have hget : ∀ (i : Nat) el, ((List.range len).map fun i => (q i).1)[i]? = some el → i < len ∧ el = (q i).1 := by
                intro i el h
                rw [List.getElem?_map] at h
                rcases Nat.lt_or_ge i len with hi | hi
                · rw [List.getElem?_range hi] at h; cases h; exact ⟨hi, rfl⟩
                · rw [List.getElem?_eq_none (by simpa using hi)] at h; cases h
              refine opened_one (x := .ro false ((List.range len).map fun i => (q i).1)) (.sl (P.bytesOf e) es _ (by rw [hll]; omega) (by rw [hll]; exact hbytes) (fun row hr => ?_) fun row hr j c y h1 h2 => ?_) ?_
              · obtain ⟨i, hi, rfl⟩ := List.mem_map.1 hr
                exact (hq i (List.mem_range.1 hi)).1
              · obtain ⟨i, hi, rfl⟩ := List.mem_map.1 hr
                have hj := (List.getElem?_eq_some_iff.1 h1).1
                exact (((hq i (List.mem_range.1 hi)).2 j hj).2 c y h1 h2).1
              · have key := RV.ro (w := w) (m := fun _ => none) (H := []) (B := w.heap.size) false ((List.range len).map fun i => (q i).1) (P.cellsOf e) b off cap (fun i j => (q i).2 j)
                  (by intro h; have := congrArg List.length h; rw [hll] at this; simp at this; omega) (fun _ h => by cases h) (fun h => by cases h) hlt
                  (fun el hel => by
                    obtain ⟨i, hi, rfl⟩ := List.mem_map.1 hel
                    rw [(hq i (List.mem_range.1 hi)).1]; exact hes.1)
                  (by rw [hll]; exact hl)
                  (fun i el j y h1 h2 => by
                    obtain ⟨hi, rfl⟩ := hget i el h1
                    have hj := (List.getElem?_eq_some_iff.1 h2).1
                    rw [(hq i hi).1] at hj
                    obtain ⟨p1, p2⟩ := (hq i hi).2 j hj
                    refine ⟨?_, (p2 _ _ (List.getElem?_eq_getElem hj) h2).1.one⟩
                    rw [addr_add, addr_add] at p1; exact p1)
                  (fun i el j y h1 h2 => by
                    obtain ⟨hi, rfl⟩ := hget i el h1
                    have hj := (List.getElem?_eq_some_iff.1 h2).1
                    rw [(hq i hi).1] at hj
                    obtain ⟨p1, p2⟩ := (hq i hi).2 j hj
                    exact (p2 _ _ (List.getElem?_eq_getElem hj) h2).2)
                rwa [hll] at key
        · cases h
      · cases h
    · rename_i fs hu
      split at h
      · rename_i l' hl
        split at h
        · rename_i hlen
          cases h
          obtain ⟨xs, n, _, hxe, hc, hxl, hf⟩ := DataW.trod_struct hu hx
          have := open_flatF (cs := cs) (m := n) (fun t l ht cs x hx hsl => ih t l ht n cs x hx hsl) fs.toList 0 l hl (by omega) fun f' hf' => by
            obtain ⟨i, hi, e⟩ := List.mem_iff_getElem.1 hf'
            have := hf i f' (by rw [← Array.getElem?_toList, List.getElem?_eq_getElem hi, e])
            rw [this]
            have hi' : i < xs.length := by simpa [hxl] using hi
            refine ⟨xs[i], List.getElem?_eq_getElem hi', fun x hx => hsl x ?_⟩
            rw [hxe]
            unfold DataW.weights
            simp only [hu]
            exact weightsEach_mem (i := i) hx (by rw [List.getElem?_map, List.getElem?_eq_getElem hi, e]; rfl) (by rw [List.getElem?_map, List.getElem?_eq_getElem hi']; rfl)
          simpa using this
        · cases h
      · cases h
    · rename_i n e hu
      split at h
      · rename_i es he
        split at h
        · rename_i hes
          cases h
          obtain ⟨xs, m, _, hxe, hc, hxl, hf⟩ := DataW.trod_array hu hx
          have := open_array (cs := cs) (n := n) (m := m) hes.1 (fun cs x hx hsl => ih e es he m cs x hx hsl) n 0 (by omega) (by rw [hc, ← hes.2, hes.1]) fun i hi => by
            rw [hf i hi]
            refine ⟨xs[i]'(by omega), List.getElem?_eq_getElem (by omega), fun x hx => hsl x ?_⟩
            rw [hxe]
            unfold DataW.weights
            simp only [hu]
            exact weightsAll_mem hx (List.mem_map.2 ⟨_, List.getElem_mem (by omega), rfl⟩)
          simpa using this
        · cases h
      · cases h
    · cases h
theorem open_cell {t : TypeId} {c : Cs} {v : Value} {d : DataW H} {ps : List MemPlace} {f : Nat} (hf : flat P f t = some [c]) (hv : v.cells.toList = [v]) (h : DataW.Trod enc P w 0 spare true t v d ps) (hsl : Slim P t d) : ∃ x, Fits c x ∧ RV w (fun _ => none) [] w.heap.size x v := by
  obtain ⟨fuel, h⟩ := h
  rw [hv] at h
  obtain ⟨_, xs, hl, hx⟩ := open_flat f t _ hf fuel _ _ h hsl
  match xs, hl with
  | [x], _ =>
    obtain ⟨p, q⟩ := hx 0 c x v rfl rfl rfl
    exact ⟨x, p, q⟩
theorem open_agg {t : TypeId} {l : List Cs} {vs : Array Value} {d : DataW H} {ps : List MemPlace} {f : Nat} (hf : flat P f t = some l) (h : DataW.Trod enc P w 0 spare true t (.agg vs) d ps) (hsl : Slim P t d) :
    ∃ xs : List AV, xs.length = l.length ∧ (∀ (i : Nat) c y, l[i]? = some c → xs[i]? = some y → Fits c y) ∧ RV w (fun _ => none) [] w.heap.size (.agg xs) (.agg vs) := by
  obtain ⟨fuel, h⟩ := h
  obtain ⟨hc, xs, hl, hx⟩ := open_flat f t l hf fuel _ _ h hsl
  have hc' : vs.size = l.length := by simpa [Value.cells] using hc
  refine ⟨xs, hl, fun i c y h1 h2 => ?_, .agg _ _ (by omega) (fun x hm => ?_) fun i y v h1 h2 => ?_⟩
  · have hi := (List.getElem?_eq_some_iff.1 h1).1
    exact (hx i c y _ h1 h2 (List.getElem?_eq_getElem (by simpa [Value.cells, hc'] using hi))).1
  · obtain ⟨i, hi, rfl⟩ := List.mem_iff_getElem.1 hm
    exact (hx i _ _ _ (List.getElem?_eq_getElem (by omega)) (List.getElem?_eq_getElem hi) (List.getElem?_eq_getElem (by simpa [Value.cells, hc', ← hl] using hi))).1.one
  · have hi := (List.getElem?_eq_some_iff.1 h1).1
    exact (hx i _ _ v (List.getElem?_eq_getElem (by omega)) h1 (by simpa [Value.cells] using h2)).2
end
end Go.Awp
