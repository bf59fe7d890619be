/- CheckFlow and Sum: what they hand back. -/
import Derived.Test.YtepnijjgdhldeaaQV5
import Derived.Test.YtepnijjgdhldeaaQT71
namespace Go.Proofs.Ytepnijjgdhldeaa
open Go.Awp
set_option linter.unusedSimpArgs false
set_option linter.unusedVariables false
set_option maxRecDepth 10000
set_option maxHeartbeats 4000000
def ffar (x : Int) : Bool := !(decide (0 ≤ x) && decide (x ≤ 1048576))
def flowOk (ds : List Df) (fl : List Int) : Bool := decide (fl.length = ds.length) && !fl.any ffar
def nz (x : Int) : Bool := x != 0
/-- That a use proves a sum. -/
def Proves (m : Nat) (ds : List Df) (ws : List Int) (most : Int) (fl : List Int) : Prop := (∀ v, 0 < v → v < m → inn ds (wg fl) v = wg ws v) ∧ costN ds (wg fl) ≤ most
open Classical in
noncomputable def ckFlow (n : Int) (ds : List Df) (ws : List Int) (most : Int) (fl : List Int) : Int := if valid n ds then (if weightyB n ws && flowOk ds fl then (if Proves n.toNat ds ws most fl then 0 else 43) else 1) else 40
theorem prod_bound {a b : Int} (h1 : -4096 ≤ a) (h2 : a ≤ 4096) (h3 : -1099511627776 ≤ b) (h4 : b ≤ 1099511627776) : -4503599627370496 ≤ a * b ∧ a * b ≤ 4503599627370496 := by
  rcases Int.le_total 0 a with h | h
  · have := mul_bound (a := a) (b := b) (A := 4096) (B := 1099511627776) h h2 h3 h4
    omega
  · have := mul_bound (a := -a) (b := b) (A := 4096) (B := 1099511627776) (by omega) (by omega) h3 h4
    rw [Int.neg_mul] at this
    omega
def dotc (w x : Nat → Int) (c : Nat) : Int := sumN c fun v => if v = 0 then 0 else w v * x v
theorem dotc_dot {n : Nat} {w x : Nat → Int} (h0 : x 0 = 0) : dotc w x n = dot n w x := by
  unfold dotc dot
  refine sumN_congr n fun v _ => ?_
  split
  · rename_i h; subst h; rw [h0]; simp
  · rfl
theorem dotc_bound {w x : Nat → Int} (hw : ∀ v, -4096 ≤ w v ∧ w v ≤ 4096) (hx : ∀ v, -1099511627776 ≤ x v ∧ x v ≤ 1099511627776) : ∀ c : Nat, -(4503599627370496 * (c : Int)) ≤ dotc w x c ∧ dotc w x c ≤ 4503599627370496 * (c : Int)
  | 0 => by simp [dotc, sumN]
  | c + 1 => by
    have ih := dotc_bound hw hx c
    have e : dotc w x (c + 1) = dotc w x c + if c = 0 then 0 else w c * x c := rfl
    rw [e]
    have : ((c + 1 : Nat) : Int) = c + 1 := by omega
    have h := prod_bound (hw c).1 (hw c).2 (hx c).1 (hx c).2
    split <;> omega
theorem Sum_ok {ws xs : List Int} {b c : Bool} (hl : xs.length = ws.length) (hw16 : ws.length ≤ 16) (hw : ∀ v, -4096 ≤ wg ws v ∧ wg ws v ≤ 4096) (hx : ∀ v, -1099511627776 ≤ wg xs v ∧ wg xs v ≤ 1099511627776) : PCall Try.prog 49 [.ro b (ic ws), .ro c (ic xs)] (I (dotc (wg ws) (wg xs) ws.length)) := by
  refine PCall.intro text49 (by simp) ?_
  unfold ir49
  simp only [walkS, wl, rgets, retv, argsEnv, ev, cst, cst1, cstL, AEnv.get, AEnv.trim, envput, qstep, abin, aun, evs, evo, deref, qload, target, if_true, if_false, Nat.reduceEqDiff, reduceIte, Nat.reduceAdd, AV.cells, AV.isTuple, setMany, alen, aiaddr, afill, Nat.reduceLeDiff, Nat.reduceMul, Nat.reduceLT, afillE, List.replicate]
  refine awp_loop (σ := Nat) (fun k => [(0, .ro b (ic ws)), (1, .ro c (ic xs)), (5, I (dotc (wg ws) (wg xs) k)), (6, I k)]) (fun _ _ => True) (fun k => 1 ≤ k ∧ (k ≤ ws.length ∨ k = 1)) (fun k => ws.length - k) 1 ⟨Nat.le_refl _, .inr rfl⟩ (by simp [dotc, sumN]) trivial ?_
  rintro k H ⟨hk1, hk⟩ -
  simp only [walkS, wl, rgets, retv, argsEnv, ev, cst, cst1, cstL, AEnv.get, AEnv.trim, envput, qstep, abin, aun, evs, evo, deref, qload, target, if_true, if_false, Nat.reduceEqDiff, reduceIte, Nat.reduceAdd, AV.cells, AV.isTuple, setMany, alen, aiaddr, afill, Nat.reduceLeDiff, Nat.reduceMul, Nat.reduceLT, afillE, List.replicate, ic_length]
  refine withBool_intro ?_ ?_ <;> intro hb <;> simp only [walkS, wl, rgets, retv, argsEnv, ev, cst, cst1, cstL, AEnv.get, AEnv.trim, envput, qstep, abin, aun, evs, evo, deref, qload, target, if_true, if_false, Nat.reduceEqDiff, reduceIte, Nat.reduceAdd, AV.cells, AV.isTuple, setMany, alen, aiaddr, afill, Nat.reduceLeDiff, Nat.reduceMul, Nat.reduceLT, afillE, List.replicate]
  · have hlt : k < ws.length := by simpa using hb
    have g1 : (ic ws)[k]? = some [I (wg ws k)] := by rw [ic_get hlt, wg_eq]
    have g2 : (ic xs)[k]? = some [I (wg xs k)] := by rw [ic_get (by omega), wg_eq]
    have b1 := dotc_bound hw hx k
    have b2 := prod_bound (hw k).1 (hw k).2 (hx k).1 (hx k).2
    simp only [walkS, wl, rgets, retv, argsEnv, ev, cst, cst1, cstL, AEnv.get, AEnv.trim, envput, qstep, abin, aun, evs, evo, deref, qload, target, if_true, if_false, Nat.reduceEqDiff, reduceIte, Nat.reduceAdd, AV.cells, AV.isTuple, setMany, alen, aiaddr, afill, Nat.reduceLeDiff, Nat.reduceMul, Nat.reduceLT, afillE, List.replicate, g1, g2, ic_length, if_pos (show (k : Int) < ws.length by omega), if_pos (show (k : Int) < xs.length by omega), wrap_id (x := wg ws k * wg xs k) (by omega) (by omega)]
    rw [wrap_id (by omega) (by omega), wrap_id (by omega) (by omega)]
    have e : dotc (wg ws) (wg xs) k + wg ws k * wg xs k = dotc (wg ws) (wg xs) (k + 1) := by
      show _ = dotc (wg ws) (wg xs) k + if k = 0 then 0 else wg ws k * wg xs k
      rw [if_neg (by omega)]
    rw [e]
    exact loop_end (k + 1) ⟨by omega, .inl hlt⟩ (by omega) rfl trivial
  · have hk' : k = ws.length ∨ ws.length = 0 ∧ k = 1 := by simp at hb; omega
    rcases hk' with rfl | ⟨h0, rfl⟩
    · exact out_int
    · have : dotc (wg ws) (wg xs) ws.length = dotc (wg ws) (wg xs) 1 := by rw [h0]; simp [dotc, sumN]
      rw [this]; exact out_int
end Go.Proofs.Ytepnijjgdhldeaa
