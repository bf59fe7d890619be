/- Small rules for walks: rows of numbers, slices that grow, stores whose object is told. Generic in the program. -/
import Derived.Test.YtomejgikdelgkaaGreatDoorA6
import Derived.WalkKit
import Derived.ProofKit
import Derived.OpenShut
import Derived.ShutString
import Derived.ChangeOld
import Derived.Below
import Derived.SizedLaws
import Derived.Deep.DeepHandedRow
import Derived.Lib.ItoaNum
import Derived.Lib.Join
set_option linter.unusedVariables false
set_option linter.unusedSimpArgs false
set_option linter.unusedSectionVars false
namespace Go.Awp
set_option linter.unusedSectionVars false
set_option linter.unusedSimpArgs false
set_option linter.unusedVariables false
set_option maxRecDepth 10000
variable [Fx]
/-- So many equal cells. -/
def zs (n : Nat) (x : AV) : List AV := List.replicate n x
abbrev I (n : Int) : AV := .int .i64 n
theorem out_bool {H : AHeap} {b : Bool} : Out H (.bool b) (.bool b) := out_of (d := 1) rfl
theorem out_int {H : AHeap} {n : Int} : Out H (I n) (I n) := out_of (d := 1) rfl
theorem wrap_id {x : Int} (h1 : -9223372036854775808 ≤ x) (h2 : x ≤ 9223372036854775807) : IntKind.i64.wrap x = x := by
  simp only [IntKind.wrap, IntKind.signed, IntKind.bits]
  simp
  split <;> omega
abbrev Df := Int × Int × Int
def dc (d : Df) : List AV := [I d.1, I d.2.1, I d.2.2]
def rows (ds : List Df) : List (List AV) := ds.map dc
theorem rows_simple (ds : List Df) : Simple (rows ds) := by
  intro el hel x hx
  obtain ⟨d, _, rfl⟩ := List.mem_map.1 hel
  simp [dc] at hx
  rcases hx with rfl | rfl | rfl <;> rfl
theorem rows_length (ds : List Df) : (rows ds).length = ds.length := List.length_map ..
theorem rows_get {ds : List Df} {k : Nat} (h : k < ds.length) : (rows ds)[k]? = some [I (ds[k]).1, I (ds[k]).2.1, I (ds[k]).2.2] := by
  simp [rows, h, dc]
theorem all_take {α : Type} {p : α → Bool} {l : List α} {k : Nat} (h : (l.take k).all p = true) (hk : k < l.length) (h2 : p l[k] = true) : (l.take (k + 1)).all p = true := by
  rw [List.take_succ_eq_append_getElem hk, List.all_append, h]
  simp [h2]
def ic (xs : List Int) : List (List AV) := xs.map fun x => [I x]
theorem ic_simple (xs : List Int) : Simple (ic xs) := by
  intro el hel x hx
  obtain ⟨d, _, rfl⟩ := List.mem_map.1 hel
  simp at hx
  subst hx; rfl
theorem ic_length (xs : List Int) : (ic xs).length = xs.length := List.length_map ..
theorem ic_get {xs : List Int} {k : Nat} (h : k < xs.length) : (ic xs)[k]? = some [I xs[k]] := by simp [ic, h]
theorem out_nilSlice {H : AHeap} : Out H .nilSlice .nilSlice := out_of (d := 1) rfl
theorem nout_push {H : AHeap} {e s : Nat} {els : List (List AV)} : NOut (H ++ [some ⟨e, s, els⟩]) (.own H.length els.length 0 els.length) e s els := ⟨_, rfl, AHeap.obj_push_eq⟩
theorem rows_sim (ds : List Df) : ∀ el, el ∈ rows ds → el.length = 3 ∧ ∀ x, x ∈ el → x.simple = true := by
  intro el hel
  refine ⟨?_, rows_simple ds el hel⟩
  obtain ⟨d, _, rfl⟩ := List.mem_map.1 hel
  rfl
theorem rows_all (ds : List Df) : ((rows ds).all fun e => e.length == 3) = true := by
  rw [List.all_eq_true]; intro el hel; simp [(rows_sim ds el hel).1]
theorem out_nil {H : AHeap} {b : Bool} : Out H .nilSlice (.ro b []) := fun w m B v st hv m' H' B' _ _ => by
  cases hv with
  | nilSlice a => exact .roNil _ _ _ fun _ => rfl
theorem out_two {H : AHeap} {x y x' y' : AV} (hx : Out H x x') (hy : Out H y y') : Out H (.tuple [x, y]) (.tuple [x', y']) := fun w m B v st hv m' H' B' hB hm => by
  cases hv with
  | tuple _ vs hl hh =>
    refine .tuple _ _ hl fun i z v' e1 e2 => ?_
    rcases i with _ | _ | i
    · cases e1; exact hx w m B v' st (hh 0 x v' rfl e2) m' H' B' hB hm
    · cases e1; exact hy w m B v' st (hh 1 y v' rfl e2) m' H' B' hB hm
    · simp at e1
def Acc (lo : Nat) (H : AHeap) (a : AV) (e s : Nat) (els : List (List AV)) : Prop := (els = [] ∧ a = .nilSlice) ∨ ∃ h, lo ≤ h ∧ a = .own h els.length 0 els.length ∧ AHeap.obj H h = some ⟨e, s, els⟩
theorem Acc.push {lo : Nat} {H : AHeap} {a : AV} {e s : Nat} {els : List (List AV)} (h : Acc lo H a e s els) (X : AHeap) : Acc lo (H ++ X) a e s els := by
  rcases h with h | ⟨k, h1, h2, h3⟩
  · exact .inl h
  · exact .inr ⟨k, h1, h2, by rw [AHeap.obj_push_lt (AHeap.obj_lt h3)]; exact h3⟩
theorem Acc.out {lo : Nat} {H : AHeap} {a : AV} {e s : Nat} {els : List (List AV)} (h : Acc lo H a e s els) (hs : Simple els) : Out H a (.ro true els) := by
  rcases h with ⟨rfl, rfl⟩ | ⟨k, h1, rfl, h3⟩
  · exact out_nil
  · exact out_of (car_own (d := 0) (o := ⟨e, s, els⟩) h3 hs)
theorem Acc.frz {lo : Nat} {H : AHeap} {a : AV} {e s : Nat} {els : List (List AV)} (h : Acc lo H a e s els) (hs : Simple els) (X : AHeap) : Frz (H ++ X) a (.ro false els) := by
  rcases h with ⟨rfl, rfl⟩ | ⟨k, h1, rfl, h3⟩
  · exact frz_nil
  · exact frz_of (car_own (d := 0) (o := ⟨e, s, els⟩) h3 hs) X
theorem acc_append {lo : Nat} {H : AHeap} {a : AV} {e s bytes hl : Nat} {els : List (List AV)} {r : List AV} {env : AEnv} {x y : Operand} {K : AV → AHeap → Prop} (hlo : lo ≤ H.length) (hacc : Acc lo H a e s els) (hx : ev env x = some a) (hy : ev env y = some (.own hl 1 0 1)) (hobj : AHeap.obj H hl = some ⟨e, s, [r]⟩)
    (hb : els.length + 1 ≤ 140737488355328 ∧ (els.length + 1) * bytes ≤ 140737488355328) (hk : ∀ a' H', H.length ≤ H'.length → Acc lo H' a' e s (els ++ [r]) → (∀ i, i < lo → AHeap.obj H' i = AHeap.obj H i) → K a' H') : withRes (sstep (.append e s bytes x y) env H) K := by
  have hs : asrc H s (.own hl 1 0 1) = some [r] := by
    simp only [asrc, hobj, List.length_cons, List.length_nil, and_self, if_true]
    rfl
  have hb1 : bytes ≤ 140737488355328 := by
    have := hb.2
    rw [Nat.add_mul] at this; omega
  rcases hacc with ⟨rfl, rfl⟩ | ⟨h, h1, rfl, h3⟩
  · simp only [sstep, hx, hy, hs]
    rw [if_neg (by simp), if_pos ⟨by simp, by simpa using hb1⟩]
    refine hk _ _ (by simp) (.inr ⟨H.length, hlo, rfl, AHeap.obj_push_eq⟩) fun i hi => AHeap.obj_push_lt (by omega)
  · simp only [sstep, hx, hy, hs, h3]
    rw [if_pos ⟨trivial, trivial, trivial, trivial, trivial, by simpa using hb.1, by simpa using hb.2⟩]
    refine hk _ _ (by simp) (.inr ⟨h, h1, by simp, AHeap.obj_set_eq (AHeap.obj_lt h3)⟩) fun i hi => AHeap.obj_set_ne (by omega)
def bc (bs : List Bool) : List (List AV) := bs.map fun b => [.bool b]
theorem bc_length (bs : List Bool) : (bc bs).length = bs.length := List.length_map ..
theorem bc_get {bs : List Bool} {k : Nat} (h : k < bs.length) : (bc bs)[k]? = some [.bool bs[k]] := by simp [bc, h]
theorem obj_keep {H X : AHeap} {i : Nat} {o : AObj} (h : AHeap.obj H i = some o) : AHeap.obj (H ++ X) i = some o := by
  rw [AHeap.obj_push_lt (AHeap.obj_lt h)]; exact h
theorem rows_snoc (ds : List Df) (d : Df) : rows (ds ++ [d]) = rows ds ++ [dc d] := by simp [rows, dc]
theorem ic_set {xs : List Int} {k : Nat} {v : Int} : (ic xs).set k [I v] = ic (xs.set k v) := by simp [ic, List.map_set]
theorem ic_snoc (xs : List Int) (x : Int) : ic (xs ++ [x]) = ic xs ++ [[I x]] := by simp [ic]
theorem walkS : type_of% walk.2 := walk.2
theorem store_gen {s : Nat} {g : Bool} {x v : Operand} {env : AEnv} {H : AHeap} {h ver i j : Nat} {o : AObj} {e : List AV} {y : AV} {K : AHeap → Prop} (hx : ev env x = some (.ptr h ver i j)) (hv : ev env v = some y) (ho : AHeap.obj H h = some o) (he : o.elems[i]? = some e)
    (hok : ver = o.elems.length ∧ y.cells.length = s ∧ y.isTuple = false ∧ j + s ≤ e.length) (hk : ∀ H' : AHeap, H'.length = H.length → AHeap.obj H' h = some { o with elems := o.elems.set i (setMany e j y.cells) } → (∀ q, q ≠ h → AHeap.obj H' q = AHeap.obj H q) → K H') :
    ∃ H', sstep (.store s g x v) env H = some (none, H') ∧ K H' := by
  refine ⟨H.set h (some { o with elems := o.elems.set i (setMany e j y.cells) }), ?_, hk _ (by simp) (AHeap.obj_set_eq (AHeap.obj_lt ho)) fun q hq => AHeap.obj_set_ne (Ne.symm hq)⟩
  rw [sstep_store, hx, hv]
  simp only [ho, he]
  rw [if_pos hok]
theorem storeR {s : Nat} {g : Bool} {x v : Operand} {env : AEnv} {H : AHeap} {h ver i j : Nat} {o : AObj} {e : List AV} {y : AV} {K : AV → AHeap → Prop} (hx : ev env x = some (.ptr h ver i j)) (hv : ev env v = some y) (ho : AHeap.obj H h = some o) (he : o.elems[i]? = some e)
    (hok : ver = o.elems.length ∧ y.cells.length = s ∧ y.isTuple = false ∧ j + s ≤ e.length) (hk : ∀ H' : AHeap, H'.length = H.length → AHeap.obj H' h = some { o with elems := o.elems.set i (setMany e j y.cells) } → (∀ q, q ≠ h → AHeap.obj H' q = AHeap.obj H q) → K (.tuple []) H') :
    withRes (sstep (.store s g x v) env H) K := by
  obtain ⟨H', e1, e2⟩ := store_gen (K := fun H' => K (.tuple []) H') hx hv ho he hok hk
  rw [e1]; exact e2
theorem storeW {s : Nat} {g : Bool} {x v : Operand} {env : AEnv} {H : AHeap} {h ver i j : Nat} {o : AObj} {e : List AV} {y : AV} {K : AV → AHeap → Prop} (hx : ev env x = some (.ptr h ver i j)) (hv : ev env v = some y) (ho : AHeap.obj H h = some o) (he : o.elems[i]? = some e)
    (hok : ver = o.elems.length ∧ y.cells.length = s ∧ y.isTuple = false ∧ j + s ≤ e.length) (hk : ∀ H' : AHeap, H'.length = H.length → AHeap.obj H' h = some { o with elems := o.elems.set i (setMany e j y.cells) } → (∀ q, q ≠ h → AHeap.obj H' q = AHeap.obj H q) → K (.tuple []) H') :
    withW (sstep (.store s g x v) env H) K := by
  obtain ⟨H', e1, e2⟩ := store_gen (K := fun H' => K (.tuple []) H') hx hv ho he hok hk
  rw [e1]; exact e2
inductive OutL (H : AHeap) : List AV → List AV → Prop
  | nil : OutL H [] []
  | cons {x y : AV} {xs ys : List AV} (h : Out H x y) (t : OutL H xs ys) : OutL H (x :: xs) (y :: ys)
theorem OutL.length {H : AHeap} {xs ys : List AV} (h : OutL H xs ys) : ys.length = xs.length := by
  induction h with
  | nil => rfl
  | cons _ _ ih => simp [ih]
theorem OutL.get {H : AHeap} {xs ys : List AV} (h : OutL H xs ys) : ∀ {i : Nat} {y : AV}, ys[i]? = some y → ∃ x, xs[i]? = some x ∧ Out H x y := by
  induction h with
  | nil => intro i y h; simp at h
  | cons h _ ih =>
    intro i y hy
    cases i with
    | zero => cases hy; exact ⟨_, rfl, h⟩
    | succ i => exact ih hy
theorem out_tuple {H : AHeap} {xs ys : List AV} (h : OutL H xs ys) : Out H (.tuple xs) (.tuple ys) := fun w m B v st hv m' H' B' hB hm => by
  cases hv with
  | tuple _ vs hl hh =>
    refine .tuple _ _ (by rw [h.length]; exact hl) fun i z v' e1 e2 => ?_
    obtain ⟨x, hx, ho⟩ := h.get e1
    exact ho w m B v' st (hh i x v' hx e2) m' H' B' hB hm
theorem abnds_h {len a b : Nat} (h2 : b ≤ len) (h1 : a ≤ b) : abnds len (some (I a)) (some (I b)) = some (a, b) := by
  simp [abnds, abnd1, h1, h2]
theorem abnds_lo {len a : Nat} (h1 : a ≤ len) : abnds len (some (I a)) none = some (a, len) := by
  simp [abnds, abnd1, h1]
theorem abnds_hi {len b : Nat} (h1 : b ≤ len) : abnds len none (some (I b)) = some (0, b) := by
  simp [abnds, abnd1, h1]
theorem aslice_own {H : AHeap} {h n e s l r len : Nat} {els : List (List AV)} {lo hi : Option AV} (ho : AHeap.obj H h = some ⟨e, s, els⟩) (hn : els.length = n) (hb : abnds len lo hi = some (l, r)) : aslice H s (.own h n 0 len) lo hi = some (.own h n l (r - l)) := by
  unfold aslice
  simp only [ho]
  rw [if_pos ⟨hn.symm, trivial⟩]
  simp only [hb, Nat.zero_add]
theorem aslice_own2 {H : AHeap} {h n e s l r len : Nat} {els : List (List AV)} {lo hi : Option AV} (ho : AHeap.obj H h = some ⟨e, s, els⟩) (hn : els.length = n) (hs : 0 < s) (h0 : abnds len lo hi = none) (hb : abndX n lo hi = some (l, r)) : aslice H s (.own h n 0 len) lo hi = some (.own h n l (r - l)) := by
  unfold aslice
  simp only [ho]
  rw [if_pos ⟨hn.symm, trivial⟩]
  simp only [h0, if_pos hs, Nat.sub_zero, hb, Nat.zero_add]
theorem abnds_far {len a b : Nat} (h : len < b) : abnds len (some (I a)) (some (I b)) = none := by
  have : ¬ ((b : Int) ≤ len) := by omega
  simp [abnds, abnd1, this, h]
theorem asrc_part {H : AHeap} {h n i len e s : Nat} {els : List (List AV)} (ho : AHeap.obj H h = some ⟨e, s, els⟩) (hn : els.length = n) : asrc H s (.own h n i len) = some ((els.drop i).take len) := by
  simp [asrc, ho, hn]
theorem app_inR {env : AEnv} {x y : Operand} {H : AHeap} {h n len e s bytes : Nat} {els rs : List (List AV)} {src : AV} {K : AV → AHeap → Prop} (hx : ev env x = some (.own h n 0 len)) (hy : ev env y = some src) (hsrc : asrc H s src = some rs) (ho : AHeap.obj H h = some ⟨e, s, els⟩)
    (hn : els.length = n) (hs : 0 < s) (hlt : len < n) (hle : len + rs.length ≤ n)
    (hk : ∀ H' : AHeap, H'.length = H.length → AHeap.obj H' h = some ⟨e, s, els.take len ++ rs ++ els.drop (len + rs.length)⟩ → (∀ q, q ≠ h → AHeap.obj H' q = AHeap.obj H q) → K (.own h n 0 (len + rs.length)) H') :
    withRes (sstep (.append e s bytes x y) env H) K := by
  have h1 : sstep (.append e s bytes x y) env H = some (some (.own h n 0 (len + rs.length)), H.set h (some ⟨e, s, els.take len ++ rs ++ els.drop (len + rs.length)⟩)) := by
    simp only [sstep, hx, hy, hsrc, ho]
    rw [if_neg (by omega), if_pos ⟨hn.symm, trivial, trivial, trivial, hs, hle⟩]
  rw [h1]
  exact hk _ (by simp) (AHeap.obj_set_eq (AHeap.obj_lt ho)) fun q hq => AHeap.obj_set_ne (Ne.symm hq)
theorem clearR {env : AEnv} {x : Operand} {H : AHeap} {h n i len e s : Nat} {els : List (List AV)} {z : List AV} {K : AV → AHeap → Prop} (hx : ev env x = some (.own h n i len)) (ho : AHeap.obj H h = some ⟨e, s, els⟩)
    (hn : els.length = n) (hle : i + len ≤ n)
    (hk : ∀ H' : AHeap, H'.length = H.length → AHeap.obj H' h = some ⟨e, s, els.take i ++ List.replicate len z ++ els.drop (i + len)⟩ → (∀ q, q ≠ h → AHeap.obj H' q = AHeap.obj H q) → K (.tuple []) H') :
    withRes (sstep (.clear s z x) env H) K := by
  have h1 : sstep (.clear s z x) env H = some (some (.tuple []), H.set h (some ⟨e, s, els.take i ++ List.replicate len z ++ els.drop (i + len)⟩)) := by
    simp only [sstep, hx, ho]
    rw [if_pos ⟨hn.symm, trivial, hle⟩]
  rw [h1]
  exact hk _ (by simp) (AHeap.obj_set_eq (AHeap.obj_lt ho)) fun q hq => AHeap.obj_set_ne (Ne.symm hq)
theorem car_cut {out : Bool} {H : AHeap} {d h n e s : Nat} {els r : List (List AV)} (ho : AHeap.obj H h = some ⟨e, s, els ++ r⟩) (hn : (els ++ r).length = n) (hl : Simple els) : carry out H (d + 2) (.own h n 0 els.length) = some (.ro out els) := by
  have e1 : (els ++ r).take els.length = els := by simp
  rw [show carry out H (d + 2) (.own h n 0 els.length) = (match AHeap.obj H h with | some p => if n = p.elems.length then (match carR (carry out H (d + 1)) ((p.elems.drop 0).take els.length) with | some l' => some (.ro out l') | none => none) else none | none => none) from rfl, ho]
  simp only [hn, if_true, List.drop_zero, e1, carR_simple hl]
end Go.Awp
/- Small rules for walks: appending lists, functions that are handed over. Generic in the program. -/
namespace Go.Awp
set_option linter.unusedSectionVars false
set_option linter.unusedSimpArgs false
set_option linter.unusedVariables false
set_option maxRecDepth 10000
variable [Fx]
theorem Acc.src {lo : Nat} {H : AHeap} {a : AV} {e s : Nat} {els : List (List AV)} (h : Acc lo H a e s els) : asrc H s a = some els := by
  rcases h with ⟨rfl, rfl⟩ | ⟨k, h1, rfl, h3⟩
  · rfl
  · simp [asrc, h3]
theorem asrc_ro {H : AHeap} {s : Nat} {b : Bool} {els : List (List AV)} (h : (els.all fun e => e.length == s) = true) : asrc H s (.ro b els) = some els := by
  simp only [asrc, h, if_true]
theorem Acc.weaken {lo lo' : Nat} {H : AHeap} {a : AV} {e s : Nat} {els : List (List AV)} (h : Acc lo H a e s els) (hl : lo' ≤ lo) : Acc lo' H a e s els := by
  rcases h with h | ⟨k, h1, h2, h3⟩
  · exact .inl h
  · exact .inr ⟨k, by omega, h2, h3⟩
theorem Acc.keep {lo : Nat} {H H' : AHeap} {a : AV} {e s : Nat} {els : List (List AV)} (h : Acc lo H a e s els) (hk : ∀ i, lo ≤ i → i < H.length → AHeap.obj H' i = AHeap.obj H i) : Acc lo H' a e s els := by
  rcases h with h | ⟨k, h1, h2, h3⟩
  · exact .inl h
  · exact .inr ⟨k, h1, h2, by rw [hk k h1 (AHeap.obj_lt h3)]; exact h3⟩
theorem Acc.one {lo : Nat} {H : AHeap} {a : AV} {e s : Nat} {els : List (List AV)} (h : Acc lo H a e s els) : a.cells = [a] ∧ a.isTuple = false := by
  rcases h with ⟨rfl, rfl⟩ | ⟨k, h1, rfl, h3⟩ <;> exact ⟨rfl, rfl⟩
theorem Acc.form {lo : Nat} {H : AHeap} {a : AV} {e s : Nat} {els : List (List AV)} (h : Acc lo H a e s els) : a = .nilSlice ∨ ∃ q n, a = .own q n 0 n := by
  rcases h with ⟨rfl, rfl⟩ | ⟨k, h1, rfl, h3⟩
  · exact .inl rfl
  · exact .inr ⟨k, _, rfl⟩
theorem Acc.len {lo : Nat} {H : AHeap} {a : AV} {e s : Nat} {els : List (List AV)} (h : Acc lo H a e s els) : alen H a = some (.int .i64 els.length) := by
  rcases h with ⟨rfl, rfl⟩ | ⟨k, h1, rfl, h3⟩
  · rfl
  · simp [alen, h3]
theorem Acc.carF {lo : Nat} {H : AHeap} {a : AV} {e s d : Nat} {els : List (List AV)} (h : Acc lo H a e s els) (hs : Simple els) : Frz H a (.ro false els) := by
  have := h.frz hs []
  rwa [List.append_nil] at this
theorem acc_appendL {lo : Nat} {H : AHeap} {a src : AV} {e s bytes : Nat} {els rs : List (List AV)} {env : AEnv} {x y : Operand} {K : AV → AHeap → Prop} (hlo : lo ≤ H.length) (hacc : Acc lo H a e s els) (hx : ev env x = some a) (hy : ev env y = some src) (hs : asrc H s src = some rs)
    (hb : els.length + rs.length ≤ 140737488355328 ∧ (els.length + rs.length) * bytes ≤ 140737488355328) (hk : ∀ a' H', H.length ≤ H'.length → Acc lo H' a' e s (els ++ rs) → (∀ i, i < lo → AHeap.obj H' i = AHeap.obj H i) → K a' H') : withRes (sstep (.append e s bytes x y) env H) K := by
  rcases hacc with ⟨rfl, rfl⟩ | ⟨h, h1, rfl, h3⟩
  · simp only [sstep, hx, hy, hs]
    by_cases h0 : rs.length = 0
    · rw [if_pos h0]
      have : rs = [] := List.eq_nil_of_length_eq_zero h0
      subst this
      exact hk _ _ (Nat.le_refl _) (.inl ⟨rfl, rfl⟩) fun _ _ => rfl
    · rw [if_neg h0, if_pos ⟨by simpa using hb.1, by simpa using hb.2⟩]
      exact hk _ _ (by simp) (.inr ⟨H.length, hlo, rfl, AHeap.obj_push_eq⟩) fun i hi => AHeap.obj_push_lt (by omega)
  · simp only [sstep, hx, hy, hs, h3]
    rw [if_pos ⟨trivial, trivial, trivial, trivial, trivial, hb.1, hb.2⟩]
    exact hk _ _ (by simp) (.inr ⟨h, h1, by simp, AHeap.obj_set_eq (AHeap.obj_lt h3)⟩) fun i hi => AHeap.obj_set_ne (by omega)
theorem copyR {s : Nat} {x y : Operand} {env : AEnv} {H : AHeap} {h ver i j s' len : Nat} {src : AV} {els : List (List AV)} {o : AObj} {e : List AV} {K : AV → AHeap → Prop} (hx : ev env x = some (.sub h ver i j s' len)) (hy : ev env y = some src) (hs : asrc H s src = some els) (ho : AHeap.obj H h = some o) (he : o.elems[i]? = some e)
    (hv : ver = o.elems.length ∧ s = s' ∧ j + els.length * s ≤ e.length) (hle : els.length ≤ len)
    (hk : ∀ H' : AHeap, H'.length = H.length → AHeap.obj H' h = some { o with elems := o.elems.set i (setMany e j els.flatten) } → (∀ q, q ≠ h → AHeap.obj H' q = AHeap.obj H q) → K (.int .i64 els.length) H') :
    withRes (sstep (.copy s x y) env H) K := by
  have hm : Nat.min els.length len = els.length := Nat.min_eq_left hle
  have h1 : sstep (.copy s x y) env H = some (some (.int .i64 els.length), H.set h (some { o with elems := o.elems.set i (setMany e j els.flatten) })) := by
    simp only [sstep, hx, hy, hs, ho, he, hm, List.take_length]
    rw [if_pos hv]
  rw [h1]
  exact hk _ (by simp) (AHeap.obj_set_eq (AHeap.obj_lt ho)) fun q hq => AHeap.obj_set_ne (Ne.symm hq)
end Go.Awp
/- The walk's plain lemmas in one bundle. -/
namespace Go.Awp
set_option linter.unusedSectionVars false
variable [Fx]
theorem wl : (type_of% @Bool.not_true) ∧ (type_of% @Bool.not_false) ∧ (type_of% @true_and) ∧ (type_of% @and_true) ∧ (type_of% @List.nil_append.{0}) ∧ (type_of% @List.cons_append.{0}) ∧ (type_of% @List.drop_zero.{0}) ∧ (type_of% @List.drop_succ_cons.{0}) ∧ (type_of% @List.drop_nil.{0}) ∧ (type_of% @List.take_succ_cons.{0}) ∧ (type_of% @List.take_zero.{0}) ∧ (type_of% @List.take_nil.{0}) ∧ (type_of% @List.getElem?_cons_zero.{0}) ∧ (type_of% @List.getElem?_cons_succ.{0}) ∧ (type_of% @List.getElem?_nil.{0}) ∧ (type_of% @List.length_cons.{0}) ∧ (type_of% @List.length_nil.{0}) ∧ (type_of% @Bool.false_eq_true) ∧ (type_of% @List.set_cons_zero.{0}) ∧ (type_of% @List.set_cons_succ.{0}) ∧ (type_of% @Nat.zero_add) ∧ (type_of% @Option.getD_some.{0}) ∧ (type_of% @Option.getD_none.{0}) ∧ (type_of% @Int.toNat_natCast) ∧ (type_of% @Int.natCast_nonneg) ∧ (type_of% @List.append_assoc.{0}) ∧ (type_of% @List.length_append.{0}) ∧ (type_of% @and_self) :=
  ⟨@Bool.not_true, @Bool.not_false, @true_and, @and_true, @List.nil_append.{0}, @List.cons_append.{0}, @List.drop_zero.{0}, @List.drop_succ_cons.{0}, @List.drop_nil.{0}, @List.take_succ_cons.{0}, @List.take_zero.{0}, @List.take_nil.{0}, @List.getElem?_cons_zero.{0}, @List.getElem?_cons_succ.{0}, @List.getElem?_nil.{0}, @List.length_cons.{0}, @List.length_nil.{0}, @Bool.false_eq_true, @List.set_cons_zero.{0}, @List.set_cons_succ.{0}, @Nat.zero_add, @Option.getD_some.{0}, @Option.getD_none.{0}, @Int.toNat_natCast, @Int.natCast_nonneg, @List.append_assoc.{0}, @List.length_append.{0}, @and_self⟩
end Go.Awp
/- From a contract on plain data to a given statement about a function that answers one bool. -/
namespace Go.Awp
set_option linter.unusedSectionVars false
variable [Fx]
open Go.ChangeShapes Go.WideShapes Go.ChangeAt Go.RowKit Go.Deep
inductive LFits : List Cs → List AV → Prop
  | nil : LFits [] []
  | cons {c : Cs} {x : AV} {l : List Cs} {r : List AV} (h : Fits c x) (t : LFits l r) : LFits (c :: l) (x :: r)
theorem lfits_of : ∀ {l : List Cs} {ys : List AV}, ys.length = l.length → (∀ (i : Nat) c y, l[i]? = some c → ys[i]? = some y → Fits c y) → LFits l ys
  | [], [], _, _ => .nil
  | [], _ :: _, h, _ => by simp at h
  | _ :: _, [], h, _ => by simp at h
  | c :: l, y :: ys, h, hh => .cons (hh 0 c y rfl rfl) (lfits_of (by simpa using h) fun i c' y' h1 h2 => hh (i + 1) c' y' h1 h2)
def shape (P : Program) (t : TypeId) : Option (Bool × List Cs) :=
  match P.underlying t with
  | some (.struct _) | some (.array _ _) => (flat P 9 t).map (true, ·)
  | _ => (match flat P 9 t with
    | some [c] => some (false, [c])
    | _ => none)
inductive PFits : Bool × List Cs → AV → Prop
  | agg {l : List Cs} {ys : List AV} (h : LFits l ys) : PFits (true, l) (.agg ys)
  | one {c : Cs} {x : AV} (h : Fits c x) : PFits (false, [c]) x
inductive PFitsL : List (Bool × List Cs) → List AV → Prop
  | nil : PFitsL [] []
  | cons {q : Bool × List Cs} {x : AV} {l : List (Bool × List Cs)} {r : List AV} (h : PFits q x) (t : PFitsL l r) : PFitsL (q :: l) (x :: r)
section
variable {H : Type} {enc : TypeId × Value → H} {P : Program} {w : World}
theorem open_param {t : TypeId} {q : Bool × List Cs} (hs : shape P t = some q) {b0 : Nat} {v : Value} (hv : Value.okWide P w .any b0 t v) {d : DataW H} {ps : List MemPlace} (hd : DataW.Trod enc P w 0 (fun _ => true) true t v d ps) (hsl : Slim P t d) :
    ∃ x, PFits q x ∧ RV w (fun _ => none) [] w.heap.size x v := by
  have agg : (∃ cs, v = .agg cs) → ∀ l, flat P 9 t = some l → ∃ x, PFits (true, l) x ∧ RV w (fun _ => none) [] w.heap.size x v := by
    rintro ⟨cs, rfl⟩ l hl
    obtain ⟨xs, h1, h2, h3⟩ := open_agg hl hd hsl
    exact ⟨_, .agg (lfits_of h1 h2), h3⟩
  have cell : v.cells.toList = [v] → ∀ c, flat P 9 t = some [c] → ∃ x, PFits (false, [c]) x ∧ RV w (fun _ => none) [] w.heap.size x v := by
    intro hv c hl
    obtain ⟨x, h1, h2⟩ := open_cell hl hv hd hsl
    exact ⟨_, .one h1, h2⟩
  unfold shape at hs
  split at hs
  · rename_i fs hu
    obtain ⟨cs, h1, _⟩ := okWide_struct hu hv
    cases hl : flat P 9 t with
    | none => rw [hl] at hs; cases hs
    | some l => rw [hl] at hs; cases hs; exact agg ⟨cs, h1⟩ l hl
  · rename_i n e hu
    have : ∃ cs, v = .agg cs := by
      simp only [Value.okWide, hu] at hv
      obtain ⟨cs, h1, _⟩ := hv
      exact ⟨cs, h1⟩
    cases hl : flat P 9 t with
    | none => rw [hl] at hs; cases hs
    | some l => rw [hl] at hs; cases hs; exact agg this l hl
  · rename_i g1 g2
    split at hs
    · rename_i c hl
      cases hs
      refine cell ?_ c hl
      unfold flat at hl
      split at hl
      · rename_i hu; obtain ⟨n, rfl⟩ := okWide_int hu hv; rfl
      · rename_i hu; obtain ⟨n, rfl⟩ := okWide_bool hu hv; rfl
      · rename_i hu; obtain ⟨n, rfl⟩ := okWide_string hu hv; rfl
      · rename_i hu; obtain ⟨a, n, k, rfl⟩ := okWide_slice hu hv; rfl
      · rename_i fs hu; exact absurd hu (g1 fs)
      · rename_i n e hu; exact absurd hu (g2 n e)
      · cases hl
    · cases hs
theorem open_params : ∀ {ts : List TypeId} {qs : List (Bool × List Cs)} {vs : List Value} {ds : List (DataW H)} {ps : List MemPlace} {b0 : Nat}, ts.map (shape P) = qs.map some → (∀ (j : Nat) t v, ts[j]? = some t → vs[j]? = some v → Value.okWide P w .any b0 t v) → (∀ x, x ∈ DataW.weightsEach P ts ds → x ≤ reachBytes) → DataW.TrodAll enc P w 0 (fun _ => true) true ts vs ds ps →
    ∃ xs, PFitsL qs xs ∧ xs.length = vs.length ∧ ∀ (i : Nat) x v, xs[i]? = some x → vs[i]? = some v → RV w (fun _ => none) [] w.heap.size x v
  | [], qs, vs, ds, ps, b0, hq, hv, hw, h => by
    obtain ⟨rfl, rfl, rfl⟩ := trodAll_nil h
    cases qs with
    | nil => exact ⟨[], .nil, rfl, fun i x v h => by simp at h⟩
    | cons q l => simp at hq
  | t :: ts, qs, vs, ds, ps, b0, hq, hv, hw, h => by
    obtain ⟨v, vs, d, ds, p, q, rfl, rfl, rfl, h1, h2⟩ := trodAll_cons h
    cases qs with
    | nil => simp at hq
    | cons q0 l =>
      simp only [List.map_cons, List.cons.injEq] at hq
      obtain ⟨x, x1, x2⟩ := open_param hq.1 (hv 0 t v rfl rfl) h1 (fun x hx => hw x (List.mem_append_left _ hx))
      obtain ⟨xs, y1, y2, y3⟩ := open_params hq.2 (fun j t' v' a b => hv (j + 1) t' v' a b) (fun x hx => hw x (List.mem_append_right _ hx)) h2
      refine ⟨x :: xs, .cons x1 y1, by simp [y2], fun i x' v' a b => ?_⟩
      cases i with
      | zero => cases a; cases b; exact x2
      | succ i => exact y3 i x' v' a b
theorem trodAll_stays (hl : laidOutB P = true) {W' : World} (hb : Below w.heap.size w W') : ∀ {ts : List TypeId} {vs : List Value} {ds : List (DataW H)} {ps : List MemPlace}, (ts.all fun t => P.readableRec t && decide (t < P.types.size)) = true →
    DataW.TrodAll enc P w 0 (fun _ => true) true ts vs ds ps → DataW.TrodAll enc P W' 0 (fun b => decide (b < w.heap.size)) true ts vs ds ps
  | [], vs, ds, ps, _, h => by
    obtain ⟨rfl, rfl, rfl⟩ := trodAll_nil h
    exact trodAll_mk0
  | t :: ts, vs, ds, ps, hr, h => by
    obtain ⟨v, vs, d, ds, p, q, rfl, rfl, rfl, h1, h2⟩ := trodAll_cons h
    simp only [List.all_cons, Bool.and_eq_true, decide_eq_true_eq] at hr
    have lt0 : ∀ x ∈ p, x.block < w.heap.size := by
      obtain ⟨m, hm⟩ := h1; exact DataW.trod_lt m _ _ _ hm
    exact trodAll_cons_mk (Below.trod hl hr.1.1 hr.1.2 h1 hb lt0) (trodAll_stays hl hb hr.2 h2)
end
end Go.Awp
/- From a contract on plain data to a given statement whose row lists laid variables. -/
namespace Go.Awp
set_option linter.unusedSectionVars false
variable [Fx]
open Go.RowKit Go.ChangeShapes Go.WideShapes Go.ChangeAt
end Go.Awp
/- The walk as a reckoner: what a call of the program on values that are wholly known comes to. Generic in the program. -/
namespace Go.Awp
set_option linter.unusedSectionVars false
variable [Fx]
abbrev XC := FuncId → List AV → AHeap → Option (AV × AHeap)
abbrev XM := TypeId → String → Option FuncId
def XC.Ok (P : Program) (C : XC) : Prop := ∀ f xs H x H', C f xs H = some (x, H') → ACall P f xs H fun y K => y = x ∧ K = H'
def XM.Ok (P : Program) (M : XM) : Prop := ∀ t s f, M t s = some f → amethod P t s = some f
def xtarget (M : XM) (io : IOp) (env : AEnv) : Option (FuncId × List AV) :=
  match io with
  | .call f args => match evs env args with
    | some vs => some (f, vs)
    | none => none
  | .callv x args => match ev env x, evs env args with
    | some (.func (.func f) first caps), some vs => some (f, first ++ vs ++ caps)
    | _, _ => none
  | .invoke x name args => match ev env x, evs env args with
    | some (.iface t v), some vs => (match M t name with
      | some f => some (f, v :: vs)
      | none => none)
    | _, _ => none
  | _ => none
def xop (M : XM) (C : XC) (io : IOp) (env : AEnv) (H : AHeap) : Option (AV × AHeap) :=
  match xtarget M io env with
  | some (f, vs) => C f vs H
  | none => match io with
    | .mknil => some (.nilSlice, H)
    | .isnil neg x => (match ev env x with
      | some v => (match alen H v with
        | some (.int _ n) => if 0 < n then some (.bool neg, H) else none
        | _ => none)
      | none => none)
    | io => (match sstep io env H with
      | some (some x, H') => some (x, H')
      | some (none, H') => some (.tuple [], H')
      | none => none)
section
variable {P : Program} {M : XM} {C : XC}
def xops (M : XM) (C : XC) : List IStmt → AEnv → AHeap → Option (AEnv × AHeap)
  | [], env, H => some (env, H)
  | s :: rest, env, H => match s.guard with
    | none => (match xop M C s.op env H with
      | some (x, H') => xops M C rest (envput s.dst x env) H'
      | none => none)
    | some (g, want) => (match AEnv.get env g with
      | some (.bool c) => if c = want then (match xop M C s.op ((g, .bool want) :: env) H with
          | some (x, H') => xops M C rest (envput s.dst x ((g, .bool want) :: env)) H'
          | none => none) else xops M C rest (envput s.dst (.tuple []) ((g, .bool (!want)) :: env)) H
      | some (.tuple []) => xops M C rest (envput s.dst (.tuple []) env) H
      | _ => none)
/-- What a new slice of simple values is. -/
def xnew (H : AHeap) : AV → Option (TypeId × Nat × List (List AV))
  | .own h ver 0 len => (match AHeap.obj H h with
    | some o => if ver = o.elems.length ∧ len = o.elems.length ∧ (o.elems.all fun el => el.length == o.s && el.all AV.simple) = true then some (o.e, o.s, o.elems) else none
    | none => none)
  | _ => none
/-- A call in a region. -/
def xdcall (C : XC) (f : FuncId) (vs : List AV) (H : AHeap) : Option (AV × AHeap) :=
  match carL (carry false H 12) vs with
  | some ys => (match C f ys [] with
    | some (x, H1) => (match xnew H1 x with
      | some (e, sz, els) => some (.own H.length els.length 0 els.length, H ++ [some ⟨e, sz, els⟩])
      | none => (match carry true H1 12 x with
        | some r => some (r, H)
        | none => none))
    | none => none)
  | none => none
def xstep1 (M : XM) (C : XC) (s : IStmt) (L : List (IOp × AEnv × AV)) (env : AEnv) (H : AHeap) : Option (List (IOp × AEnv × AV) × AEnv × AHeap) :=
  match cls s.op with
  | .pure => (match qstep s.op (AEnv.trim env s.uses) H with
    | some (.val v) => some (L, envput s.dst v env, H)
    | _ => none)
  | .load => (match qstep s.op (AEnv.trim env s.uses) H with
    | some (.val v) => some (if s.late then (s.op, AEnv.trim env s.uses, v) :: L else L, envput s.dst v env, H)
    | _ => none)
  | .alloc => (match qstep s.op (AEnv.trim env s.uses) H with
    | some (.box e sz cells) => some (L, envput s.dst (.ptr H.length 1 0 0) env, H ++ [some ⟨e, sz, [cells]⟩])
    | some (.arr e sz els) => some (L, envput s.dst (.own H.length els.length 0 els.length) env, H ++ [some ⟨e, sz, els⟩])
    | _ => none)
  | .call => (match xtarget M s.op (AEnv.trim env s.uses) with
    | some (f, vs) => (match xdcall C f vs H with
      | some (r, H') => some (L, envput s.dst r env, H')
      | none => none)
    | none => none)
  | .write => none
def xD1 (M : XM) (C : XC) : List IStmt → List (IOp × AEnv × AV) → AEnv → AHeap → Option (List (IOp × AEnv × AV) × AEnv × AHeap)
  | [], L, env, H => some (L, env, H)
  | s :: rest, L, env, H => match s.guard with
    | none => (match xstep1 M C s L env H with
      | some (L', env', H') => xD1 M C rest L' env' H'
      | none => none)
    | some (g, want) => (match AEnv.get env g with
      | some (.bool c) => if c = want then (match xstep1 M C s L ((g, .bool want) :: env) H with
          | some (L', env', H') => xD1 M C rest L' env' H'
          | none => none) else xD1 M C rest L (envput s.dst (.tuple []) ((g, .bool (!want)) :: env)) H
      | some (.tuple []) => xD1 M C rest L (envput s.dst (.tuple []) env) H
      | _ => none)
def atomEq : AV → AV → Bool
  | .bool a, .bool b => a == b
  | .int k a, .int k' b => decide (k = k') && decide (a = b)
  | .ptr a b c d, .ptr a' b' c' d' => a == a' && b == b' && c == c' && d == d'
  | .own a b c d, .own a' b' c' d' => a == a' && b == b' && c == c' && d == d'
  | .nilSlice, .nilSlice => true
  | _, _ => false
def cellsEq : List AV → List AV → Bool
  | [], [] => true
  | x :: r, y :: s => atomEq x y && cellsEq r s
  | _, _ => false
def rowsEq : List (List AV) → List (List AV) → Bool
  | [], [] => true
  | x :: r, y :: s => cellsEq x y && rowsEq r s
  | _, _ => false
def valEq : AV → AV → Bool
  | .agg a, .agg b => cellsEq a b
  | .rop a, .rop b => cellsEq a b
  | .ro f a, .ro g b => f == g && rowsEq a b
  | a, b => atomEq a b
def xsame (H : AHeap) : List (IOp × AEnv × AV) → Bool
  | [] => true
  | (io, env, v) :: r => (match qstep io env H with | some (.val x) => valEq x v | _ => false) && xsame H r
def xpast (io : IOp) (env : AEnv) (v : AV) : List AHeap → Bool
  | [] => true
  | G :: r => (match qstep io env G with | some (.val x) => valEq x v | _ => false) && xpast io env v r
def xD2 : List IStmt → List (IOp × AEnv × AV) → List AHeap → AEnv → AHeap → Option (AEnv × AHeap)
  | [], _, _, env, H => some (env, H)
  | s :: rest, L, Ps, env, H => match s.guard, cls s.op with
    | none, .pure => (match qstep s.op (AEnv.trim env s.uses) H with
      | some (.val v) => xD2 rest L Ps (envput s.dst v env) H
      | _ => none)
    | none, .load => (match qstep s.op (AEnv.trim env s.uses) H with
      | some (.val v) => if xpast s.op (AEnv.trim env s.uses) v Ps then xD2 rest ((s.op, AEnv.trim env s.uses, v) :: L) Ps (envput s.dst v env) H else none
      | _ => none)
    | none, .write => (match sstep s.op (AEnv.trim env s.uses) H with
      | some (x, H') => if xsame H' L then xD2 rest L (H :: Ps) (envput s.dst (x.getD (.tuple [])) env) H' else none
      | none => none)
    | _, _ => none
abbrev XR := Option (AX × AEnv × AHeap)
def xiter (step : AEnv → AHeap → XR) : Nat → AEnv → AHeap → XR
  | 0, _, _ => none
  | k + 1, env, H => match step env H with
    | some (.normal, env', H') => xiter step k env' H'
    | r => r
def xscope (step : AEnv → AHeap → XR) (l : Nat) : Nat → AEnv → AHeap → XR
  | 0, _, _ => none
  | k + 1, env, H => match step env H with
    | some (.goto l', env', H') => if l' = l then xscope step l k env' H' else some (.goto l', env', H')
    | r => r
def xrun (M : XM) (C : XC) (N : Nat) : IR → AEnv → AHeap → XR
  | .skip, env, H => some (.normal, env, H)
  | .ops l, env, H => (match xops M C l env H with | some (e, h) => some (.normal, e, h) | none => none)
  | .opsD pre post tl, env, H => (match xD1 M C pre [] env H with
    | some (L, e, h) => (match xD2 post L [] e h with
      | some (e, h) => (match xops M C tl e h with | some (e, h) => some (.normal, e, h) | none => none)
      | none => none)
    | none => none)
  | .opsA _ _, _, _ => none
  | .trim k, env, H => some (.normal, AEnv.trim env k, H)
  | .seq a b, env, H => (match xrun M C N a env H with
    | some (.normal, e, h) => xrun M C N b e h
    | r => r)
  | .cond c a b, env, H => (match ev env c with
    | some (.bool true) => xrun M C N a env H
    | some (.bool false) => xrun M C N b env H
    | _ => none)
  | .block id a, env, H => (match xrun M C N a env H with
    | some (.exit i, e, h) => if i = id then some (.normal, e, h) else some (.exit i, e, h)
    | r => r)
  | .loop a, env, H => xiter (xrun M C N a) N env H
  | .exit id, env, H => some (.exit id, env, H)
  | .ret, env, H => some (.ret, env, H)
  | .label _, env, H => some (.normal, env, H)
  | .goto l, env, H => some (.goto l, env, H)
  | .scope a l r, env, H => (match xrun M C N a env H with
    | some (.goto l', e, h) => if l' = l then xscope (xrun M C N r) l N e h else some (.goto l', e, h)
    | r => r)
  | .fail, _, _ => none
structure XFn where
  n : Nat
  ir : IR
  rs : List RV1
abbrev XT := List (FuncId × XFn)
def xlook : XT → FuncId → Option XFn
  | [], _ => none
  | (g, x) :: r, f => if Nat.beq g f then some x else xlook r f
def XT.Ok (P : Program) : XT → Prop
  | [] => True
  | (f, x) :: r => Text P f x.n x.ir x.rs ∧ XT.Ok P r
def xret (rs : List RV1) (H : AHeap) (env : AEnv) : Option (AV × AHeap) :=
  match rgets env H rs with
  | some l => some (retv l, H)
  | none => none
def xcall (T : XT) (M : XM) (N : Nat) : Nat → XC
  | 0, _, _, _ => none
  | k + 1, f, xs, H => match xlook T f with
    | some fn => if xs.length ≤ fn.n then (match xrun M (xcall T M N k) N fn.ir (argsEnv 0 xs) H with
        | some (.normal, env, H') => xret fn.rs H' env
        | some (.ret, env, H') => xret fn.rs H' env
        | _ => none) else none
    | none => none
def xtrue : Option (AV × AHeap) → Bool
  | some (.bool true, _) => true
  | _ => false
end
end Go.Awp
/- Reckoning that leans on given contracts: a table of what some functions hand back. -/
namespace Go.Awp
set_option linter.unusedSectionVars false
variable [Fx]
variable {P : Program}
def xcallB (C0 : XC) (T : XT) (M : XM) (N : Nat) : Nat → XC
  | 0, f, xs, H => C0 f xs H
  | k + 1, f, xs, H => match C0 f xs H with
    | some r => some r
    | none => (match xlook T f with
      | some fn => if xs.length ≤ fn.n then (match xrun M (xcallB C0 T M N k) N fn.ir (argsEnv 0 xs) H with
          | some (.normal, env, H') => xret fn.rs H' env
          | some (.ret, env, H') => xret fn.rs H' env
          | _ => none) else none
      | none => none)
end Go.Awp
/- Texts: decimal numerals and lists of strings, as reckoning wants them. Generic in the program. -/
namespace Go.Awp
set_option linter.unusedSectionVars false
set_option linter.unusedSimpArgs false
set_option linter.unusedVariables false
set_option maxRecDepth 10000
variable [Fx]
/-- The digits of a number of at most so many ones. -/
def dgs : Nat → Nat → List UInt8
  | 0, _ => []
  | f + 1, u => if u < 10 then [UInt8.ofNat (48 + u)] else dgs f (u / 10) ++ [UInt8.ofNat (48 + u % 10)]
theorem dgs_eq : ∀ (f u : Nat), u < 10 ^ (f + 1) → dgs (f + 1) u = Lib.decDigits u
  | 0, u, h => by
    rw [Lib.decDigits, dif_pos (by simpa using h)]
    have : u < 10 := by simpa using h
    simp [dgs, this]
  | f + 1, u, h => by
    rw [Lib.decDigits]
    by_cases h1 : u < 10
    · rw [dif_pos h1]; simp [dgs, h1]
    · rw [dif_neg h1]
      have h2 : u / 10 < 10 ^ (f + 1) := by
        rw [Nat.pow_succ] at h
        omega
      rw [← dgs_eq f (u / 10) h2]
      show (if u < 10 then _ else _) = _
      rw [if_neg h1]
def itoaB (n : Int) : ByteArray := ⟨(Lib.itoa n).toArray⟩
/-- The numeral of a number, where it is short. -/
def itoaT (n : Int) : Option ByteArray := if 0 ≤ n ∧ n.toNat < 10 ^ 12 then some ⟨(dgs 12 n.toNat).toArray⟩ else if n < 0 ∧ n.natAbs < 10 ^ 12 then some ⟨(45 :: dgs 12 n.natAbs).toArray⟩ else none
theorem itoaT_eq {n : Int} {s : ByteArray} (h : itoaT n = some s) : s = itoaB n ∧ -9223372036854775808 ≤ n ∧ n ≤ 9223372036854775807 := by
  unfold itoaT at h
  split at h
  · rename_i hc
    cases h
    have : ¬ n < 0 := by omega
    rw [dgs_eq 11 _ hc.2]
    refine ⟨by simp only [itoaB, Lib.itoa, this, if_false], ?_, ?_⟩ <;> have := hc.2 <;> simp at this <;> omega
  · split at h
    · rename_i hc
      cases h
      rw [dgs_eq 11 _ hc.2]
      refine ⟨by simp only [itoaB, Lib.itoa, hc.1, if_true], ?_, ?_⟩ <;> have := hc.2 <;> simp at this <;> omega
    · cases h
/-- Strings, as rows. -/
def sc (xs : List ByteArray) : List (List AV) := xs.map fun s => [.str s]
theorem sc_simple (xs : List ByteArray) : Simple (sc xs) := by
  intro el hel x hx
  obtain ⟨d, _, rfl⟩ := List.mem_map.1 hel
  simp at hx
  subst hx; rfl
theorem sc_length (xs : List ByteArray) : (sc xs).length = xs.length := List.length_map ..
theorem sc_get {xs : List ByteArray} {k : Nat} (h : k < xs.length) : (sc xs)[k]? = some [.str xs[k]] := by simp [sc, h]
theorem sc_snoc (xs : List ByteArray) (x : ByteArray) : sc (xs ++ [x]) = sc xs ++ [[.str x]] := by simp [sc]
def strs : List (List AV) → Option (List ByteArray)
  | [] => some []
  | [.str s] :: r => (match strs r with | some l => some (s :: l) | none => none)
  | _ => none
def joinB (xs : List ByteArray) (sep : ByteArray) : ByteArray := ⟨(Lib.join (xs.map (·.data.toList)) sep.data.toList).toArray⟩
/-- What a call of a function that prints a number, and of one that joins strings, come to. -/
def tx0 (fi fj : FuncId) : XC := fun f xs H => if Nat.beq f fi then (match xs with
    | [.int .i64 n] => (match itoaT n with | some s => some (.str s, H) | none => none)
    | _ => none) else if Nat.beq f fj then (match carL (carry false H 4) xs with
    | some [.ro false l, .str sep] => (match strs l with
      | some ys => if ys.length ≤ 100000 ∧ (joinB ys sep).size ≤ 100000 then some (.str (joinB ys sep), H) else none
      | none => none)
    | _ => none) else none
/-- Joining, from what the library says of it. -/
theorem join_pcall {P : Program} {fj : FuncId} (hc : callable P fj = true) {xs : List ByteArray} {sep : ByteArray} (hN : xs.length ≤ 140737488355328) (hl : (joinB xs sep).size ≤ 140737488355328)
    (h0 : ∀ (a : Option Addr) (c : Nat) (w : World), xs = [] → Calls P fj #[.slice a 0 c, .string sep] w fun e w' => e = .returned (.string ⟨#[]⟩) ∧ w' = w)
    (h : ∀ (bk o c : Nat) (w : World), (∀ (j : Nat) x, xs[j]? = some x → w.cell? ⟨bk, o + j, none⟩ = some (.string x)) → bk < w.heap.size → xs.length ≤ c → Calls P fj #[.slice (some ⟨bk, o, none⟩) xs.length c, .string sep] w fun e w' => e = .returned (.string (joinB xs sep)) ∧ RowKit.Below w.heap.size w w') :
    PCall P fj [.ro false (sc xs), .str sep] (.str (joinB xs sep)) := by
  refine ⟨hc, fun w vs fx ⟨hl, ha⟩ => ?_⟩
  match vs, hl with
  | ⟨[u, v]⟩, _ =>
    have hu := ha 0 _ u rfl rfl
    have hv := ha 1 _ v rfl rfl
    cases hv
    obtain ⟨l, el⟩ : ∃ l, l = sc xs := ⟨_, rfl⟩
    rw [← el] at hu
    cases hu with
    | roNil _ a cap hcap =>
      have hx : xs = [] := by
        cases xs with
        | nil => rfl
        | cons x r => cases el
      refine (h0 a cap w hx).mono fun e w' ⟨he, hw⟩ => ?_
      subst hw hx
      exact ⟨_, he, RowKit.Below.refl _ _, fun m H B _ _ => by show RV _ _ _ _ (.str ⟨#[]⟩) _; exact .str _⟩
    | ro _ _ s b off cap us hne hb hfr hlt hs hcap hcc hvv =>
      have hlen : l.length = xs.length := by rw [el, sc_length]
      have h1 : s = 1 := by
        cases xs with
        | nil => subst el; exact absurd rfl hne
        | cons x r => have := hs [.str x] (by rw [el]; simp [sc]); simpa using this.symm
      subst h1
      have hcells : ∀ (j : Nat) x, xs[j]? = some x → w.cell? ⟨b, off + j, none⟩ = some (.string x) := by
        intro j x hj
        have hjl : j < xs.length := (List.getElem?_eq_some_iff.1 hj).1
        have hx : xs[j] = x := by rw [List.getElem?_eq_getElem hjl] at hj; exact Option.some.inj hj
        have hg : l[j]? = some [.str x] := by rw [el, sc_get hjl, hx]
        obtain ⟨q1, q2⟩ := hcc j [.str x] 0 (.str x) hg rfl
        have q3 := hvv j [.str x] 0 (.str x) hg rfl
        rw [show off + j * 1 + 0 = off + j by omega] at q1
        rw [q1]
        generalize us j 0 = u2 at q3 ⊢
        cases q3
        rfl
      rw [hlen] at hcap
      have hh := h b off cap w hcells hlt hcap
      rw [← hlen] at hh
      refine hh.mono fun e w' ⟨he, hw⟩ => ?_
      exact ⟨_, he, hw, fun m H B _ _ => .str _⟩
/-- The numeral, from what the library says of it. -/
theorem itoa_pcall {P : Program} {fi : FuncId} (hc : callable P fi = true) {n : Int} (h : ∀ w : World, Fx.Ok w w.heap.size → Calls P fi #[.int .i64 n] w fun e w' => e = .returned (.string (itoaB n)) ∧ RowKit.Below w.heap.size w w') : PCall P fi [.int .i64 n] (.str (itoaB n)) := by
  refine ⟨hc, fun w vs fx ⟨hl, ha⟩ => ?_⟩
  match vs, hl with
  | ⟨[u]⟩, _ =>
    have hu := ha 0 _ u rfl rfl
    cases hu
    exact (h w fx).mono fun e w' ⟨he, hw⟩ => ⟨_, he, hw, fun m H B _ _ => .str _⟩
end Go.Awp
