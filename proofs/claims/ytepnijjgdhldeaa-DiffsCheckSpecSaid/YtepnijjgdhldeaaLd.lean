/- What quiet operations come to (part 3): the steps, and their truth in the model. Generic in the program. -/
import Derived.Test.YtepnijjgdhldeaaLc
namespace Go.Awp

def setMany : List AV → Nat → List AV → List AV
  | cs, _, [] => cs
  | cs, off, x :: xs => setMany (cs.set off x) (off + 1) xs

def AV.isTuple : AV → Bool
  | .tuple _ => true
  | _ => false

def afill (env : AEnv) : List AV → List (Nat × Nat × Operand) → Option (List AV)
  | cs, [] => some cs
  | cs, (off, size, x) :: r => match ev env x with
    | some v => if v.cells.length = size ∧ off + size ≤ cs.length ∧ v.isTuple = false then afill env (setMany cs off v.cells) r else none
    | none => none

def afillE (env : AEnv) (s : Nat) : List (List AV) → List (Nat × Operand) → Option (List (List AV))
  | es, [] => some es
  | es, (i, x) :: r => match ev env x with
    | some v => if v.cells.length = s ∧ i < es.length ∧ v.isTuple = false then afillE env s (es.set i v.cells) r else none
    | none => none

def evs (env : AEnv) : List Operand → Option (List AV)
  | [] => some []
  | x :: r => match ev env x, evs env r with
    | some v, some vs => some (v :: vs)
    | _, _ => none

def abin (op : BinOp) : AV → AV → Option AV
  | .int k a, .int k' b => if k = k' then (match op with
      | .add => some (.int k (k.wrap (a + b)))
      | .sub => some (.int k (k.wrap (a - b)))
      | .mul => some (.int k (k.wrap (a * b)))
      | .quo => if b = 0 then none else some (.int k (k.wrap (a.tdiv b)))
      | .rem => if b = 0 then none else some (.int k (a.tmod b))
      | .eql => some (.bool (a == b))
      | .neq => some (.bool (a != b))
      | .lss => some (.bool (decide (a < b)))
      | .leq => some (.bool (decide (a ≤ b)))
      | .gtr => some (.bool (decide (a > b)))
      | .geq => some (.bool (decide (a ≥ b)))
      | .and => some (.int k (k.wrap ((BitVec.ofInt k.bits a &&& BitVec.ofInt k.bits b).toNat : Nat)))
      | .or => some (.int k (k.wrap ((BitVec.ofInt k.bits a ||| BitVec.ofInt k.bits b).toNat : Nat)))
      | .xor => some (.int k (k.wrap ((BitVec.ofInt k.bits a ^^^ BitVec.ofInt k.bits b).toNat : Nat)))
      | .shl => if b < 0 then none else some (.int k (k.wrap (a * 2 ^ (min b.toNat k.bits))))
      | .shr => if b < 0 then none else some (.int k (a.fdiv (2 ^ (min b.toNat k.bits))))
      | _ => none) else none
  | .str a, .str b => match op with
      | .eql => some (.bool (a == b))
      | .neq => some (.bool (!(a == b)))
      | .add => if a.size + b.size ≤ 9223372036854775807 then some (.str (a ++ b)) else none
      | _ => none
  | _, _ => none

def aun : UnOp → AV → Option AV
  | .not, .bool b => some (.bool !b)
  | .neg, .int k n => some (.int k (k.wrap (0 - n)))
  | _, _ => none

/-- Equality of aggregates, at the given cells (0: numbers, 1: bools, 2: strings). -/
def aeqO : List (Nat × Nat) → List AV → List AV → Option Bool
  | [], _, _ => some true
  | (k, off) :: os, a, b => match aeqO os a b with
    | some r => (match k, a[off]?, b[off]? with
      | 0, some (.int k x), some (.int k' y) => if k = k' then some ((x == y) && r) else none
      | 1, some (.bool x), some (.bool y) => some ((x == y) && r)
      | 2, some (.str x), some (.str y) => some ((x == y) && r)
      | _, _, _ => none)
    | none => none

def amm (mx : Bool) : List AV → Option AV
  | [] => none
  | .int k n :: r => go k n r
  | _ => none
where
  go (k : IntKind) (n : Int) : List AV → Option AV
    | [] => some (.int k n)
    | .int _ y :: r => go k (if mx then (if y > n then y else n) else (if y < n then y else n)) r
    | _ => none

def alen (H : AHeap) : AV → Option AV
  | .own h ver _ len => match AHeap.obj H h with
    | some o => if ver = o.elems.length then some (.int .i64 len) else none
    | none => none
  | .ro _ l => some (.int .i64 l.length)
  | .nilSlice => some (.int .i64 0)
  | _ => none

def aiaddr (H : AHeap) (s : Nat) : AV → AV → Option AV
  | .own h ver i0 len, .int _ n => match AHeap.obj H h with
    | some o => if ver = o.elems.length ∧ s = o.s ∧ 0 ≤ n ∧ n < len then some (.ptr h ver (i0 + n.toNat) 0) else none
    | none => none
  | .ro _ l, .int _ n => if 0 ≤ n then (match l[n.toNat]? with | some e => if e.length = s then some (.rop e) else none | none => none) else none
  | _, _ => none

def abnd1 (len d : Nat) : Option AV → Option Nat
  | none => some d
  | some (.int _ z) => if 0 ≤ z ∧ z ≤ len then some z.toNat else none
  | _ => none

/-- The bounds of a slice expression of so many elements. -/
def abnds (len : Nat) (lo hi : Option AV) : Option (Nat × Nat) :=
  match abnd1 len len hi with
  | some r => (match abnd1 r 0 lo with
    | some l => some (l, r)
    | none => none)
  | none => none

def aslice (H : AHeap) (s : Nat) (x : AV) (lo hi : Option AV) : Option AV :=
  match x with
  | .own h ver i0 len => match AHeap.obj H h with
    | some o => if ver = o.elems.length ∧ s = o.s then (match abnds len lo hi with
        | some (l, r) => some (.own h ver (i0 + l) (r - l))
        | none => none) else none
    | none => none
  | .ro fr L => if (L.all fun e => e.length == s) then (match abnds L.length lo hi with
        | some (l, r) => some (.ro fr ((L.take r).drop l))
        | none => none) else none
  | .nilSlice => (match abnds 0 lo hi with
        | some _ => some .nilSlice
        | none => none)
  | _ => none

def asliceS (x : AV) (lo hi : Option AV) : Option AV :=
  match x with
  | .str b => (match abnds b.size lo hi with
    | some (l, r) => some (.str (b.extract l r))
    | none => none)
  | _ => none

def evo (env : AEnv) : Option Operand → Option (Option AV)
  | none => some none
  | some x => match ev env x with | some v => some (some v) | none => none

def qstep (io : IOp) (env : AEnv) (H : AHeap) : Option QR :=
  match io with
  | .mv x => match ev env x with | some v => some (.val v) | none => none
  | .pick c a b => match ev env c with
    | some (.bool true) => (match ev env a with | some v => some (.val v) | none => none)
    | some (.bool false) => (match ev env b with | some v => some (.val v) | none => none)
    | _ => none
  | .load s g x => match ev env x with
    | some p => (match deref H p with
      | some cells => (match qload s g cells with | some v => some (.val v) | none => none)
      | none => none)
    | none => none
  | .box e s x => match ev env x with
    | some v => if v.cells.length = s ∧ v.isTuple = false then some (.box e s v.cells) else none
    | none => none
  | .zero e s z => if z.length = s then some (.box e s z) else none
  | .build z parts => match afill env z parts with | some cs => some (.val (.agg cs)) | none => none
  | .mklit e s n z parts => if z.length = s ∧ n ≤ 65536 then (match afillE env s (List.replicate n z) parts with | some es => some (.arr e s es) | none => none) else none
  | .mkslice e s bytes z l c => match ev env l, ev env c with
    | some (.int _ l), some (.int _ c) => if z.length = s ∧ 0 ≤ l ∧ l ≤ c ∧ (bytes : Int) * c ≤ 281474976710656 ∧ c ≤ 9223372036854775807 then some (.arr e s (List.replicate l.toNat z)) else none
    | _, _ => none
  | .faddr off x => match ev env x with
    | some (.ptr h ver i j) => some (.val (.ptr h ver i (j + off)))
    | some (.rop cells) => some (.val (.rop (cells.drop off)))
    | _ => none
  | .field off s g x => match ev env x with
    | some (.agg cs) => if g then some (.val (.agg ((cs.drop off).take s))) else (match cs[off]? with | some v => some (.val v) | none => none)
    | _ => none
  | .iaddr s x i => match ev env x, ev env i with
    | some a, some n => (match aiaddr H s a n with | some v => some (.val v) | none => none)
    | _, _ => none
  | .iaddrA len s x i => match ev env x, ev env i with
    | some (.ptr h ver i j), some (.int _ n) => if 0 ≤ n ∧ n < len then some (.val (.ptr h ver i (j + n.toNat * s))) else none
    | some (.rop cells), some (.int _ n) => if 0 ≤ n ∧ n < len then some (.val (.rop (cells.drop (n.toNat * s)))) else none
    | _, _ => none
  | .indexA len s g x i => match ev env x, ev env i with
    | some (.agg cs), some (.int _ n) => if 0 ≤ n ∧ n < len then (if g then some (.val (.agg ((cs.drop (n.toNat * s)).take s))) else (match cs[n.toNat * s]? with | some v => some (.val v) | none => none)) else none
    | _, _ => none
  | .indexS x i => match ev env x, ev env i with
    | some (.str b), some (.int _ n) => if 0 ≤ n then (match b[n.toNat]? with | some c => some (.val (.int .u8 c.toNat)) | none => none) else none
    | _, _ => none
  | .slice s x lo hi => match ev env x, evo env lo, evo env hi with
    | some v, some l, some r => (match aslice H s v l r with | some v => some (.val v) | none => none)
    | _, _, _ => none
  | .sliceS x lo hi => match ev env x, evo env lo, evo env hi with
    | some v, some l, some r => (match asliceS v l r with | some v => some (.val v) | none => none)
    | _, _, _ => none
  | .slice0 x => match ev env x with
    | some (.own _ _ _ _) => some (.val .nilSlice)
    | some (.ro _ _) => some (.val .nilSlice)
    | some .nilSlice => some (.val .nilSlice)
    | _ => none
  | .extract i x => match ev env x with
    | some (.tuple vs) => (match vs[i]? with | some v => some (.val v) | none => none)
    | _ => none
  | .len x => match ev env x with
    | some v => (match alen H v with | some v => some (.val v) | none => none)
    | none => none
  | .lenS x => match ev env x with
    | some (.str b) => some (.val (.int .i64 b.size))
    | _ => none
  | .mm mx args => match evs env args with
    | some vs => (match amm mx vs with | some v => some (.val v) | none => none)
    | none => none
  | .un op x => match ev env x with
    | some v => (match aun op v with | some v => some (.val v) | none => none)
    | none => none
  | .bin op x y => match ev env x, ev env y with
    | some a, some b => (match abin op a b with | some v => some (.val v) | none => none)
    | _, _ => none
  | .binB neg x y => match ev env x, ev env y with
    | some (.bool a), some (.bool b) => some (.val (.bool (if neg then !(a == b) else (a == b))))
    | _, _ => none
  | .eqA neg offs x y => match ev env x, ev env y with
    | some (.agg a), some (.agg b) => (match aeqO offs a b with | some r => some (.val (.bool (if neg then !r else r))) | none => none)
    | _, _ => none
  | .conv k x => match ev env x with
    | some (.int _ n) => some (.val (.int k (k.wrap n)))
    | _ => none
  | .iface t x => match ev env x with
    | some v => some (.val (.iface t v))
    | none => none
  | .mkfun fn first caps => match evs env first, evs env caps with
    | some a, some b => some (.val (.func fn a b))
    | _, _ => none
  | .nilchk x => match ev env x with
    | some (.ptr h ver i j) => some (.val (.ptr h ver i j))
    | some (.rop c) => some (.val (.rop c))
    | some (.func (.func f) a b) => some (.val (.func (.func f) a b))
    | _ => none
  | _ => none

end Go.Awp
