/- Texts of the proof of a law about the given program: contracts of its functions, as walked. -/
import Derived.Test.YtepnijjgdhldeaaQ1
namespace Go.Proofs.Ytepnijjgdhldeaa
open Go.Awp
set_option linter.unusedSimpArgs false
set_option linter.unusedVariables false
set_option maxRecDepth 10000
-- values over the border
theorem car_net {out b : Bool} {H : AHeap} {d : Nat} {n : Int} {ds : List Df} (hb : out = false ∨ b = true) : carry out H (d + 3) (.agg [I n, .ro b (rows ds)]) = some (.agg [I n, .ro out (rows ds)]) :=
  car_agg (carL_cons rfl (carL_cons (car_ro (rows_simple ds) hb) rfl))
theorem car_netF {b : Bool} {H : AHeap} {d : Nat} {n : Int} {ds : List Df} : carry false H (d + 3) (.agg [I n, .ro b (rows ds)]) = some (.agg [I n, .ro false (rows ds)]) := car_net (.inl rfl)
theorem car_rowsF {b : Bool} {H : AHeap} {d : Nat} {ds : List Df} : carry false H (d + 2) (.ro b (rows ds)) = some (.ro false (rows ds)) := car_ro (rows_simple ds) (.inl rfl)
theorem car_icF {b : Bool} {H : AHeap} {d : Nat} {xs : List Int} : carry false H (d + 2) (.ro b (ic xs)) = some (.ro false (ic xs)) := car_ro (ic_simple xs) (.inl rfl)
theorem car_ptr {out : Bool} {H : AHeap} {d h ver i j : Nat} {cells l : List AV} (hd : deref H (.ptr h ver i j) = some cells) (hl : carL (carry out H d) cells = some l) : carry out H (d + 1) (.ptr h ver i j) = some (.rop l) := by
  rw [show carry out H (d + 1) (.ptr h ver i j) = (match deref H (.ptr h ver i j) with | some cells => (match carL (carry out H d) cells with | some l => some (.rop l) | none => none) | none => none) from rfl, hd]
  simp only [hl]
theorem out_nil {H : AHeap} {b : Bool} : Out H .nilSlice (.ro b []) := fun w m B v st hv m' H' B' _ _ => by
  cases hv with
  | nilSlice a => exact .roNil _ _ _ fun _ => rfl
theorem out_two {H : AHeap} {x y x' y' : AV} (hx : Out H x x') (hy : Out H y y') : Out H (.tuple [x, y]) (.tuple [x', y']) := fun w m B v st hv m' H' B' hB hm => by
  cases hv with
  | tuple _ vs hl hh =>
    refine .tuple _ _ hl fun i z v' e1 e2 => ?_
    rcases i with _ | _ | i
    · cases e1; exact hx w m B v' st (hh 0 x v' rfl e2) m' H' B' hB hm
    · cases e1; exact hy w m B v' st (hh 1 y v' rfl e2) m' H' B' hB hm
    · simp at e1
-- slices that grow
def Acc (lo : Nat) (H : AHeap) (a : AV) (e s : Nat) (els : List (List AV)) : Prop := (els = [] ∧ a = .nilSlice) ∨ ∃ h, lo ≤ h ∧ a = .own h els.length 0 els.length ∧ AHeap.obj H h = some ⟨e, s, els⟩
theorem Acc.push {lo : Nat} {H : AHeap} {a : AV} {e s : Nat} {els : List (List AV)} (h : Acc lo H a e s els) (X : AHeap) : Acc lo (H ++ X) a e s els := by
  rcases h with h | ⟨k, h1, h2, h3⟩
  · exact .inl h
  · exact .inr ⟨k, h1, h2, by rw [AHeap.obj_push_lt (AHeap.obj_lt h3)]; exact h3⟩
theorem Acc.out {lo : Nat} {H : AHeap} {a : AV} {e s : Nat} {els : List (List AV)} (h : Acc lo H a e s els) (hs : Simple els) : Out H a (.ro true els) := by
  rcases h with ⟨rfl, rfl⟩ | ⟨k, h1, rfl, h3⟩
  · exact out_nil
  · exact out_of (car_own (d := 0) (o := ⟨e, s, els⟩) h3 hs)
theorem acc_append {lo : Nat} {H : AHeap} {a : AV} {e s bytes hl : Nat} {els : List (List AV)} {r : List AV} {env : AEnv} {x y : Operand} {K : AV → AHeap → Prop} (hlo : lo ≤ H.length) (hacc : Acc lo H a e s els) (hx : ev env x = some a) (hy : ev env y = some (.own hl 1 0 1)) (hobj : AHeap.obj H hl = some ⟨e, s, [r]⟩)
    (hb : els.length + 1 ≤ 140737488355328 ∧ (els.length + 1) * bytes ≤ 140737488355328) (hk : ∀ a' H', H.length ≤ H'.length → Acc lo H' a' e s (els ++ [r]) → (∀ i, i < lo → AHeap.obj H' i = AHeap.obj H i) → K a' H') : withRes (sstep (.append e s bytes x y) env H) K := by
  have hs : asrc H s (.own hl 1 0 1) = some [r] := by
    simp only [asrc, hobj, List.length_cons, List.length_nil, and_self, if_true]
    rfl
  have hb1 : bytes ≤ 140737488355328 := by
    have := hb.2
    rw [Nat.add_mul] at this; omega
  rcases hacc with ⟨rfl, rfl⟩ | ⟨h, h1, rfl, h3⟩
  · simp only [sstep, hx, hy, hs]
    rw [if_neg (by simp), if_pos ⟨by simp, by simpa using hb1⟩]
    refine hk _ _ (by simp) (.inr ⟨H.length, hlo, rfl, AHeap.obj_push_eq⟩) fun i hi => AHeap.obj_push_lt (by omega)
  · simp only [sstep, hx, hy, hs, h3]
    rw [if_pos ⟨trivial, trivial, trivial, trivial, trivial, by simpa using hb.1, by simpa using hb.2⟩]
    refine hk _ _ (by simp) (.inr ⟨h, h1, by simp, AHeap.obj_set_eq (AHeap.obj_lt h3)⟩) fun i hi => AHeap.obj_set_ne (by omega)
-- bools
def bc (bs : List Bool) : List (List AV) := bs.map fun b => [.bool b]
theorem bc_simple (bs : List Bool) : Simple (bc bs) := by
  intro el hel x hx
  obtain ⟨d, _, rfl⟩ := List.mem_map.1 hel
  simp at hx
  subst hx; rfl
theorem bc_length (bs : List Bool) : (bc bs).length = bs.length := List.length_map ..
theorem bc_get {bs : List Bool} {k : Nat} (h : k < bs.length) : (bc bs)[k]? = some [.bool bs[k]] := by simp [bc, h]
def asked (n : Int) (ds : List Df) (bs : List Bool) : Int := if valid n ds then (if bs.all id then 0 else 1) else 40
end Go.Proofs.Ytepnijjgdhldeaa
namespace Go.Proofs.Ytepnijjgdhldeaa
open Go.Awp
set_option linter.unusedSimpArgs false
set_option linter.unusedVariables false
set_option maxRecDepth 10000
def at0 (xs : List Int) (i : Int) : Int := xs.getD i.toNat 0
def over (xs : List Int) (d : Df) : Bool := decide (at0 xs d.2.1 - at0 xs d.1 > d.2.2)
def holds (ds : List Df) (xs : List Int) : Bool := decide (at0 xs 0 = 0) && !ds.any (over xs)
/-- Holds, as the program answers. -/
def Holds (n : Int) (ds : List Df) (xs : List Int) : Bool × Int := if valid n ds then (if numbers n xs then (holds ds xs, 0) else (false, 1)) else (false, 40)
end Go.Proofs.Ytepnijjgdhldeaa
namespace Go.Proofs.Ytepnijjgdhldeaa
open Go.Awp
set_option linter.unusedSimpArgs false
set_option linter.unusedVariables false
set_option maxRecDepth 10000
/-- SameNets, as the program answers. -/
def sameNets (n : Int) (ds : List Df) (n' : Int) (ds' : List Df) : Bool := decide (n = n') && decide (ds = ds')
end Go.Proofs.Ytepnijjgdhldeaa
namespace Go.Proofs.Ytepnijjgdhldeaa
open Go.Awp
set_option linter.unusedSimpArgs false
set_option linter.unusedVariables false
set_option maxRecDepth 10000
theorem obj_keep {H X : AHeap} {i : Nat} {o : AObj} (h : AHeap.obj H i = some o) : AHeap.obj (H ++ X) i = some o := by
  rw [AHeap.obj_push_lt (AHeap.obj_lt h)]; exact h
end Go.Proofs.Ytepnijjgdhldeaa
namespace Go.Proofs.Ytepnijjgdhldeaa
open Go.Awp
set_option linter.unusedSimpArgs false
set_option linter.unusedVariables false
set_option maxRecDepth 10000
/-- Add, as both programs answer: the number of nodes, the differences, the error. -/
def added (n : Int) (ds : List Df) (d : Df) : Int × List Df × Int :=
  if valid n ds then (if ds.length = 4096 then (0, [], 2) else if right d n then (n, ds ++ [d], 0) else (0, [], 40)) else (0, [], 40)
end Go.Proofs.Ytepnijjgdhldeaa
namespace Go.Proofs.Ytepnijjgdhldeaa
open Go.Awp
set_option linter.unusedSimpArgs false
set_option linter.unusedVariables false
set_option maxRecDepth 10000
/-- Higher, as both programs answer. -/
def higher (n : Int) (ds : List Df) (xs ys : List Int) : List Int × Int :=
  if valid n ds then (if numbers n xs && numbers n ys then (if holds ds xs && holds ds ys then (List.zipWith max xs ys, 0) else ([], 43)) else ([], 1)) else ([], 40)
theorem amm_max {x y : Int} : amm true [I x, I y] = some (I (max x y)) := by
  simp only [amm, amm.go, if_true]
  congr 2
  rw [Int.max_def]
  split <;> split <;> omega
theorem amm_min {x y : Int} : amm false [I x, I y] = some (I (min x y)) := by
  simp only [amm, amm.go, Bool.false_eq_true, if_false]
  congr 2
  rw [Int.min_def]
  split <;> split <;> omega
def hi (xs ys : List Int) (k : Nat) : List Int := List.zipWith max (xs.take k) (ys.take k) ++ xs.drop k
theorem ic_set {xs : List Int} {k : Nat} {v : Int} : (ic xs).set k [I v] = ic (xs.set k v) := by simp [ic, List.map_set]
theorem ic_snoc (xs : List Int) (x : Int) : ic (xs ++ [x]) = ic xs ++ [[I x]] := by simp [ic]
end Go.Proofs.Ytepnijjgdhldeaa
