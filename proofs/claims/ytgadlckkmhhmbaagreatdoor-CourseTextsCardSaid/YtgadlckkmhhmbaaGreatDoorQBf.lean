/- strings.Builder within a line: its methods' runs at this program. -/
import Derived.Test.YtgadlckkmhhmbaaGreatDoorProg
import Derived.WalkKit
import Derived.Lib.Builder
import Derived.Lib.UnsafeStr
import Derived.Laws.Externs
import Derived.KernelRfl
import Derived.Shelf.RegionOpenPlain
import Derived.Test.YtgadlckkmhhmbaaGreatDoorQFx
import Derived.Test.YtgadlckkmhhmbaaGreatDoorA7
import Derived.Shelf.Strconv.Itoa3
import Derived.Lib.AppendIntMem
import Derived.Test.YtgadlckkmhhmbaaGreatDoorQC2
set_option linter.unusedVariables false
set_option linter.unusedSimpArgs false
set_option linter.unusedSectionVars false
namespace Go.Proofs.YtgadlckkmhhmbaaGreatDoor
open Go.RowKit
set_option linter.unusedVariables false
set_option linter.unusedSimpArgs false
set_option maxRecDepth 100000
theorem cc_used (b : Nat) (w : World) (h0 : w.cell? ⟨b, 0, none⟩ = some (.pointer (some ⟨b, 0, none⟩))) :
    Calls Tryz.prog 50 #[.pointer (some ⟨b, 0, none⟩)] w fun e w' => e = .returned (.tuple #[]) ∧ w' = w := by
  obtain ⟨j, hj⟩ : ∃ j, Tryz.prog.info? 59 = some j := Option.isSome_iff_exists.1 (by kernel_rfl)
  go_enter Tryz.func50, Tryz.ntmps50
  go_wp2
  rw [Lib.run_neq_ptr_same w _ Tryz.underlying56 hj]
  go_wp2
  go_end0
  exact ⟨rfl, rfl⟩
set_option maxHeartbeats 1000000 in
theorem cc_fresh {T : TypeId} {n : Nat} (hn : 0 < n) (hl : liesAt Tryz.prog Tryz.prog.depth T (n / Tryz.prog.cellsOf T) 0 59 1 = true) (b : Nat) (w : World) (h0 : w.cell? ⟨b, 0, none⟩ = some (.pointer none)) (hsh : w.shape? b = some (T, n)) (hfz : w.frozen? ⟨b, 0, none⟩ = false) :
    Calls Tryz.prog 50 #[.pointer (some ⟨b, 0, none⟩)] w fun e w' => e = .returned (.tuple #[]) ∧ w' = w.setCell ⟨b, 0, none⟩ (.pointer (some ⟨b, 0, none⟩)) := by
  obtain ⟨j, hj, hjs⟩ : ∃ j, Tryz.prog.info? 59 = some j ∧ j.size = 2 := Option.map_eq_some_iff.1 (by kernel_rfl : (Tryz.prog.info? 59).map (·.size) = some 2)
  go_enter Tryz.func50, Tryz.ntmps50
  go_wp2
  rw [Lib.run_to_unsafe w ⟨b, 0, none⟩ Tryz.underlying56 Tryz.underlying109 hj (by rw [hjs]; decide) hsh hn]
  simp only [Result.andThen]
  rw [Oper.upon_value]
  go_wp2
  rw [run_callFunc_extern Tryz.func70 (by kernel_rfl) (by kernel_rfl) (by kernel_rfl) (e := Extern.AbiNoEscape.same) (by kernel_rfl)]
  rw [Lib.run_noEscape]
  simp only [Result.andThen]
  rw [Oper.upon_value]
  go_wp2
  rw [Lib.run_from_unsafe w ⟨b, 0, none⟩ Tryz.underlying109 Tryz.underlying56 hj hsh hl]
  simp only [Result.andThen]
  rw [Oper.upon_value]
  go_wp2
  go_end0
  exact ⟨rfl, rfl⟩
set_option maxHeartbeats 1000000 in
theorem bd_string (b g cap cells : Nat) (l : List UInt8) (w : World) (h1 : w.cell? ⟨b, 1, none⟩ = some (.slice (some ⟨g, 0, none⟩) l.length cap)) (hsh : w.shape? g = some (5, cells)) (hn : l.length ≤ cells) (h63 : l.length ≤ 9223372036854775807) (hc0 : cap ≠ 0) (h0 : l ≠ [])
    (hc : ∀ j x, l[j]? = some x → w.cell? ((⟨g, 0, none⟩ : Addr).add j) = some (.int .u8 x.toNat)) :
    Calls Tryz.prog 27 #[.pointer (some ⟨b, 0, none⟩)] w fun e w' => e = .returned (.string ⟨l.toArray⟩) ∧ w' = w.drew.freeze ⟨g, 0, none⟩ l.length := by
  have mixed : Tryz.prog.follows .mixedOrders = true := by kernel_rfl
  have c1 : w.drew.cell? ⟨b, 1, none⟩ = some (.slice (some ⟨g, 0, none⟩) l.length cap) := h1
  have hSD : (Builtin.unsafeSliceData_ #[57] 95 #[.slice (some ⟨g, 0, none⟩) l.length cap]).run Tryz.prog w.drew = .ok (.pointer (some ⟨g, 0, none⟩)) w.drew :=
    Lib.run_unsafeSliceData_row _ _ _ _ _ _ hc0
  have hUS : (Builtin.unsafeString_ #[95, 3] 9 #[.pointer (some ⟨g, 0, none⟩), .int .i64 l.length]).run Tryz.prog w.drew = .ok (.string ⟨l.toArray⟩) (w.drew.freeze ⟨g, 0, none⟩ l.length) :=
    Lib.run_unsafeString_row w.drew 95 3 9 5 Tryz.underlying95 (by kernel_rfl) g cells hsh l h0 hn h63 hc
  go_enter Tryz.func27, Tryz.ntmps27
  go_wp2
  go_region_o
  all_goals (go_wp2; go_ret; exact ⟨rfl, rfl⟩)
end Go.Proofs.YtgadlckkmhhmbaaGreatDoor
/- strings.Builder within a line, in the midst of a walk's objects: copyCheck, String. -/
namespace Go.Proofs.YtgadlckkmhhmbaaGreatDoor
open Go.Awp Go.RowKit
set_option linter.unusedSimpArgs false
set_option linter.unusedVariables false
set_option linter.unusedSectionVars false
set_option maxRecDepth 10000
theorem rowAt_more {P : Program} {fits : TypeId → Bool} {d : Nat} {e : TypeId} {count : Nat} (hc : 1 ≤ count) : rowAt P fits d e count 0 1 = rowAt P fits d e 1 0 1 := by
  cases d with
  | zero => rfl
  | succ d =>
    unfold rowAt
    simp only [Nat.zero_div, Nat.zero_mod, Nat.zero_add]
    have h1 : decide (1 ≤ count) = decide (1 ≤ 1) := by simp [hc]
    have h2 : decide (0 < count) = decide (0 < 1) := by simp; omega
    rw [h1, h2]
theorem liesAt_more {P : Program} {d : Nat} {e u : TypeId} {fs : Array Field} (hu : P.underlying u = some (.struct fs)) {count : Nat} (hc : 1 ≤ count) : liesAt P d e count 0 u 1 = liesAt P d e 1 0 u 1 := by
  cases d with
  | zero => rfl
  | succ d =>
    unfold liesAt
    rw [hu, rowAt_more hc]
theorem lies1 : liesAt Tryz.prog Tryz.prog.depth 61 1 0 59 1 = true := by kernel_rfl
theorem u134 : ∃ fs, Tryz.prog.underlying 59 = some (.struct fs) := ⟨_, Tryz.underlying59⟩
theorem cells136 : Tryz.prog.cellsOf 61 = 2 := by kernel_rfl
/-- copyCheck of a line of the activation's own. -/
theorem copyCheck_a {H : AHeap} {h : Nat} {x0 buf : AV} (ho : AHeap.obj H h = some ⟨61, 2, [[x0, buf]]⟩) (hx : x0 = .nilPtr ∨ x0 = .ptr h 1 0 0) :
    ACall Tryz.prog 50 [.ptr h 1 0 0] H fun x H' => x = .tuple [] ∧ H' = H.set h (some ⟨61, 2, [[.ptr h 1 0 0, buf]]⟩) := by
  refine ⟨by kernel_rfl, fun w m B vs st ha => ?_⟩
  obtain ⟨hl, hv⟩ := ha
  match vs, hl with
  | ⟨[v]⟩, _ =>
    have h0 := hv 0 _ _ rfl rfl
    cases h0 with
    | ptr _ _ _ _ a hh hva =>
      obtain ⟨b, q1, q2⟩ := (hva _ ho).2 rfl
      subst q2
      have hlt := AHeap.obj_lt ho
      obtain ⟨g1, g2, o, cs, e1, e2, e3, e4⟩ := st.dom h b q1
      rw [ho] at e1; cases e1
      obtain ⟨v0, c0, r0, _⟩ := e4 0 _ 0 _ rfl rfl
      obtain ⟨v1, c1, r1, s1⟩ := e4 0 _ 1 _ rfl rfl
      simp only [Nat.zero_mul, Nat.zero_add] at c0 c1
      have hsz : 2 ≤ cs.size := by
        have := (Array.getElem?_eq_some_iff.1 c1).1
        omega
      have hcell : w.cell? ⟨b, 0, none⟩ = some v0 := by simp [World.cell?, e2, c0]
      have hset : H.set h (some ⟨61, 2, [[.ptr h 1 0 0, buf]]⟩) = H.set h (some { (⟨61, 2, [[x0, buf]]⟩ : AObj) with elems := [[.ptr h 1 0 0, buf]] }) := rfl
      have fin : ∀ w', w' = w.setCell ⟨b, 0, none⟩ (.pointer (some ⟨b, 0, none⟩)) → ∃ m', St w' m' (H.set h (some ⟨61, 2, [[.ptr h 1 0 0, buf]]⟩)) B ∧ Adv w m H w' m' (H.set h (some ⟨61, 2, [[.ptr h 1 0 0, buf]]⟩)) := by
        rintro w' rfl
        refine ⟨m, st.upd ho q1 (o' := ⟨61, 2, [[.ptr h 1 0 0, buf]]⟩) rfl rfl (Nat.le_refl _) rfl rfl rfl (by simp [World.setCell]) (fun k hk => Below.heap_setCell _ _ _ _ (by simpa using hk)) e2 (cs' := cs.setIfInBounds 0 (.pointer (some ⟨b, 0, none⟩))) ?_ (by simp) (by simp) ?_⟩
        · simp [World.setCell, Array.getElem?_modify, e2]
        · intro i e j x a1 a2
          match i with
          | 0 =>
            simp at a1; subst a1
            match j with
            | 0 =>
              simp at a2; subst a2
              refine ⟨.pointer (some ⟨b, 0, none⟩), by simp [show 0 < cs.size by omega], .ptr _ _ _ _ _ hlt fun o' ho' => ?_, rfl⟩
              rw [ho] at ho'; cases ho'
              exact ⟨Nat.le_refl _, fun _ => ⟨b, q1, by simp⟩⟩
            | 1 =>
              simp at a2; subst a2
              refine ⟨v1, ?_, r1, s1⟩
              simp [c1]
            | j + 2 => simp at a2
          | i + 1 => simp at a1
      rcases hx with rfl | rfl
      · cases r0
        have hs : w.shape? b = some (61, cs.size) := by simp [World.shape?, e2]
        have hlies : liesAt Tryz.prog Tryz.prog.depth 61 (cs.size / Tryz.prog.cellsOf 61) 0 59 1 = true := by
          obtain ⟨fs, hfs⟩ := u134
          rw [cells136, liesAt_more hfs (by omega)]; exact lies1
        refine (cc_fresh (by omega) hlies b w (by simpa using hcell) hs (by simp [World.frozen?, e2])).mono fun e w' ⟨he, hw⟩ => ?_
        obtain ⟨m', p1, p2⟩ := fin w' hw
        exact ⟨.tuple #[], .tuple [], m', _, he, ⟨rfl, rfl⟩, p1, p2, .tuple [] #[] rfl (by simp)⟩
      · cases r0 with
        | ptr _ _ _ _ a' hh' hva' =>
          obtain ⟨b', p1, p2⟩ := (hva' _ ho).2 rfl
          rw [q1] at p1; cases p1
          subst p2
          refine (cc_used b w (by simpa using hcell)).mono fun e w' ⟨he, hw⟩ => ?_
          subst hw
          have hself : H.set h (some ⟨61, 2, [[.ptr h 1 0 0, buf]]⟩) = H := obj_set_self ho
          refine ⟨.tuple #[], .tuple [], m, H, he, ⟨rfl, hself.symm⟩, st, Adv.refl _ _ _, .tuple [] #[] rfl (by simp)⟩
/-- String of a line that holds a byte: its buffer is of no use any more. -/
theorem String_a {H : AHeap} {h q : Nat} {x0 : AV} {s : ByteArray} (ho : AHeap.obj H h = some ⟨61, 2, [[x0, .own q s.size 0 s.size]]⟩) (hq : AHeap.obj H q = some ⟨5, 1, bys s⟩) (h0 : s.size ≠ 0) :
    ACall Tryz.prog 27 [.ptr h 1 0 0] H fun x H' => x = .str s ∧ H' = H.set q none := by
  refine ⟨by kernel_rfl, fun w m B vs st ha => ?_⟩
  obtain ⟨hl, hv⟩ := ha
  match vs, hl with
  | ⟨[v]⟩, _ =>
    have hp := hv 0 _ _ rfl rfl
    cases hp with
    | ptr _ _ _ _ a hh hva =>
      obtain ⟨b, q1, q2⟩ := (hva _ ho).2 rfl
      subst q2
      obtain ⟨g1, g2, o, cs, e1, e2, e3, e4⟩ := st.dom h b q1
      rw [ho] at e1; cases e1
      obtain ⟨v1, c1, r1, s1⟩ := e4 0 _ 1 _ rfl rfl
      simp only [Nat.zero_mul, Nat.zero_add] at c1
      cases r1 with
      | own _ _ _ _ ad n cap hh2 hvo =>
        have hlen := bys_length s
        obtain ⟨g, p1, p2, p3, p4, p5, p6, p7⟩ := (hvo _ hq).2 hlen.symm
        subst p3
        have hc0 : 0 < cap := by omega
        have hap := p2 (.inl hc0)
        subst hap
        simp only [Nat.zero_mul, Nat.zero_add, Nat.mul_one] at *
        obtain ⟨k1, k2, o', cs', f1, f2, f3, f4⟩ := st.dom q g p1
        rw [hq] at f1; cases f1
        have hl0 : s.data.toList ≠ [] := by
          intro e
          apply h0
          rw [ByteArray.size, ← Array.length_toList, e]; rfl
        have hls : s.data.toList.length = s.size := by rw [Array.length_toList]; rfl
        have hcells : ∀ j x, s.data.toList[j]? = some x → w.cell? ((⟨g, 0, none⟩ : Addr).add j) = some (.int .u8 x.toNat) := by
          intro j x hj
          have hb : (bys s)[j]? = some [.int .u8 x.toNat] := by simp only [bys, List.getElem?_map, hj, Option.map_some]
          obtain ⟨v, d1, d2, _⟩ := f4 j _ 0 _ hb rfl
          cases d2
          rw [add_none]
          simpa [World.cell?, f2] using d1
        have key := bd_string b g cap cap s.data.toList w (by simp [World.cell?, e2, c1, hls]) (by simpa using p7) (by rw [hls]; exact p5) (by unfold maxLen at p6; omega) (by omega) hl0 hcells
        refine key.mono fun e w' ⟨he, hw⟩ => ?_
        have hqh : q ≠ h := by intro e; subst e; rw [ho] at hq; cases hq
        obtain ⟨t1, t2⟩ := st.drop hq none (fun o1 e => by cases e) (st.noP p1)
        have hheap : ∀ k, k ≠ g → w'.heap[k]? = w.heap[k]? := by
          intro k hk
          subst hw
          unfold World.freeze
          split
          · rfl
          · show (w.heap.modify _ _)[k]? = _
            rw [Array.getElem?_modify, if_neg (by simpa using Ne.symm hk)]
        have hsize : w'.heap.size = w.heap.size := by
          subst hw
          unfold World.freeze
          split
          · rfl
          · show (w.heap.modify _ _).size = _
            simp
        have hos : w'.os = w.os ∧ w'.tape = w.tape ∧ w'.output = w.output := by
          subst hw
          unfold World.freeze
          split <;> exact ⟨rfl, rfl, rfl⟩
        have hne : ∀ k, AMap.without m q k ≠ some g := by
          intro k e
          unfold AMap.without at e
          split at e
          · cases e
          · rename_i hk
            exact hk (st.inj _ _ _ e p1)
        have ad : Adv w m H w' (AMap.without m q) (H.set q none) := by
          refine ⟨hos.1, hos.2.1, hos.2.2, by omega, fun k hk hn => hheap k (fun e => hn q (by rw [e]; exact p1)), t2.newb, t2.len, fun k o1 hk e => ?_⟩
          obtain ⟨o2, z1, z2, z3, z4, z5, z6⟩ := t2.obj k o1 hk e
          refine ⟨o2, z1, z2, z3, z4, fun hl b' hb' => ?_, z6⟩
          have := (z5 hl b' hb').1
          exact ⟨this, by simp only [World.shape?, hheap b' (fun e => hne _ (by rw [← e]; exact this))]⟩
        have st' : St w' (AMap.without m q) (H.set q none) B := by
          have hun : ∀ k b', AMap.without m q k = some b' → m k = some b' := by
            intro k b' e
            unfold AMap.without at e
            split at e
            · cases e
            · exact e
          refine ⟨by have := t1.base; omega, fun k b' e => ?_, fun k b' e => ?_, t1.inj, st.fxa ad⟩
          · obtain ⟨z1, z2, z3, z4, z5, z6, z7, z8⟩ := t1.dom k b' e
            have hkq : k ≠ q := by
              intro e'; subst e'
              simp [AMap.without] at e
            obtain ⟨-, -, oy, cy, y5, y6, y7, y8⟩ := st.dom k b' (hun _ _ e)
            rw [AHeap.obj_set_ne (Ne.symm hkq), y5] at z5
            cases z5
            rw [y6] at z6; cases z6
            refine ⟨z1, by omega, _, _, by rw [AHeap.obj_set_ne (Ne.symm hkq)]; exact y5, by rw [hheap b' (fun e' => hne _ (by rw [← e']; exact e))]; exact y6, y7, fun i el j x a1 a2 => ?_⟩
            obtain ⟨v, y1, y2, y3⟩ := y8 i el j x a1 a2
            exact ⟨v, y1, y2.mono ad, y3⟩
          · obtain ⟨z1, z2, z3, z4, z5, z6⟩ := t1.domP k b' e
            exact ⟨z1, by omega, z3, z4, z5, by rw [hheap b' (fun e' => hne _ (by rw [← e']; exact e))]; exact z6⟩
        refine ⟨.string s, .str s, _, _, ?_, ⟨rfl, rfl⟩, st', ad, .str s⟩
        rw [he]
end Go.Proofs.YtgadlckkmhhmbaaGreatDoor
/- The library's contract of strconv.Itoa at this program: the bodies are compared. -/
namespace Go.Proofs.YtgadlckkmhhmbaaGreatDoor
open Go.Shelf Go.Awp
set_option maxRecDepth 100000
def laysmn171_ren : Go.Shelf.Ren := ⟨fun | 171 => 32 | 243 => 59 | 246 => 71 | 283 => 77 | 284 => 78 | 285 => 79 | 286 => 80 | 129 => 88 | 317 => 87 | 318 => 89 | 319 => 90 | 320 => 91 | 337 => 102 | 338 => 103 | n => n, fun | 3 => 3 | 9 => 9 | 2 => 2 | 4 => 4 | 171 => 114 | 0 => 0 | 53 => 115 | 37 => 57 | 5 => 5 | 173 => 118 | 212 => 127 | 51 => 128 | 20 => 20 | 213 => 129 | 46 => 130 | 232 => 151 | 233 => 152 | n => n, fun | 17 => 0 | 18 => 6 | 19 => 7 | n => n⟩
theorem laysmn171 : Go.Proofs.LaysM.n171 Tryz.prog laysmn171_ren := {
  mixed := by kernel_rfl
  f129 := Tryz.func88.trans (congrArg some (by kernel_rfl))
  f171 := Tryz.func32.trans (congrArg some (by kernel_rfl))
  f243 := Tryz.func59.trans (congrArg some (by kernel_rfl))
  f246 := Tryz.func71.trans (congrArg some (by kernel_rfl))
  f283 := Tryz.func77.trans (congrArg some (by kernel_rfl))
  f284 := Tryz.func78.trans (congrArg some (by kernel_rfl))
  f285 := Tryz.func79.trans (congrArg some (by kernel_rfl))
  f286 := Tryz.func80.trans (congrArg some (by kernel_rfl))
  f317 := Tryz.func87.trans (congrArg some (by kernel_rfl))
  f318 := Tryz.func89.trans (congrArg some (by kernel_rfl))
  f319 := Tryz.func90.trans (congrArg some (by kernel_rfl))
  f320 := Tryz.func91.trans (congrArg some (by kernel_rfl))
  f337 := Tryz.func102.trans (congrArg some (by kernel_rfl))
  f338 := Tryz.func103.trans (congrArg some (by kernel_rfl))
  t0 := Tryz.underlying0
  a0 := Tryz.isAgg0
  z0 := Tryz.sizeOf0
  v0 := Tryz.zeroValue0
  t2 := Tryz.underlying2
  a2 := Tryz.isAgg2
  z2 := Tryz.sizeOf2
  v2 := Tryz.zeroValue2
  t3 := Tryz.underlying3
  a3 := Tryz.isAgg3
  z3 := Tryz.sizeOf3
  v3 := Tryz.zeroValue3
  t4 := Tryz.underlying4
  a4 := Tryz.isAgg4
  z4 := Tryz.sizeOf4
  v4 := Tryz.zeroValue4
  t5 := Tryz.underlying5
  a5 := Tryz.isAgg5
  z5 := Tryz.sizeOf5
  v5 := Tryz.zeroValue5
  t9 := Tryz.underlying9
  a9 := Tryz.isAgg9
  z9 := Tryz.sizeOf9
  v9 := Tryz.zeroValue9
  t20 := Tryz.underlying20
  a20 := Tryz.isAgg20
  z20 := Tryz.sizeOf20
  v20 := Tryz.zeroValue20
  t37 := Tryz.underlying57
  a37 := Tryz.isAgg57
  z37 := Tryz.sizeOf57
  v37 := Tryz.zeroValue57
  t46 := Tryz.underlying130
  a46 := Tryz.isAgg130
  z46 := Tryz.sizeOf130
  v46 := Tryz.zeroValue130
  t51 := Tryz.underlying128
  a51 := Tryz.isAgg128
  z51 := Tryz.sizeOf128
  v51 := Tryz.zeroValue128
  t53 := Tryz.underlying115
  a53 := Tryz.isAgg115
  z53 := Tryz.sizeOf115
  v53 := Tryz.zeroValue115
  t171 := Tryz.underlying114
  a171 := Tryz.isAgg114
  z171 := Tryz.sizeOf114
  v171 := Tryz.zeroValue114
  t173 := Tryz.underlying118
  a173 := Tryz.isAgg118
  z173 := Tryz.sizeOf118
  v173 := Tryz.zeroValue118
  t212 := Tryz.underlying127
  a212 := Tryz.isAgg127
  z212 := Tryz.sizeOf127
  v212 := Tryz.zeroValue127
  t213 := Tryz.underlying129
  a213 := Tryz.isAgg129
  z213 := Tryz.sizeOf129
  t232 := Tryz.underlying151
  a232 := Tryz.isAgg151
  z232 := Tryz.sizeOf151
  v232 := Tryz.zeroValue151
  t233 := Tryz.underlying152
  a233 := Tryz.isAgg152
  z233 := Tryz.sizeOf152
  v233 := Tryz.zeroValue152
  g17 := by kernel_rfl
  g18 := by kernel_rfl
  g19 := by kernel_rfl
  i0 := by kernel_rfl
  i2 := by kernel_rfl
  i3 := by kernel_rfl
  i4 := by kernel_rfl
  i5 := by kernel_rfl
  i9 := by kernel_rfl
  i20 := by kernel_rfl
  i37 := by kernel_rfl
  i46 := by kernel_rfl
  i51 := by kernel_rfl
  i53 := by kernel_rfl
  i171 := by kernel_rfl
  i173 := by kernel_rfl
  i212 := by kernel_rfl
  i232 := by kernel_rfl
  i233 := by kernel_rfl
  m17 := by kernel_rfl
  m18 := by kernel_rfl
  m19 := by kernel_rfl }
theorem gname : Tryz.prog.globalNamed "internal/strconv.uint64pow10" = some 0 := by kernel_rfl
theorem tab_of {w : World} {B : Nat} (h : Fx.Ok w B) : Lib.TabIs Tryz.prog w "internal/strconv.uint64pow10" .u64 Lib.pow10Tab := by
  obtain ⟨_, cs, t, q, h2, h3⟩ := h 0 _ (List.mem_cons_self ..)
  subst h3
  unfold Lib.TabIs World.var?
  rw [gname]
  simp only [Option.bind_some, h2]
  rfl
theorem Itoa_ok (n : Int) (h0 : -9223372036854775808 ≤ n) (h1 : n ≤ 9223372036854775807) : PCall Tryz.prog 32 [.int .i64 n] (.str (itoaB n)) :=
  itoa_pcall (by kernel_rfl) fun w fx => (Any.strconv_Itoa laysmn171 n h0 h1 w (tab_of fx)).mono fun e w' ⟨he, k, os, hw⟩ => ⟨he, by rw [hw]; exact Lib.below_grow _ _ (Nat.le_refl _) k os⟩
end Go.Proofs.YtgadlckkmhhmbaaGreatDoor
/- Contracts: texts that are written word by word. -/
namespace Go.Proofs.YtgadlckkmhhmbaaGreatDoor
open Go.Awp
set_option linter.unusedSimpArgs false
set_option linter.unusedVariables false
set_option linter.unusedSectionVars false
set_option maxRecDepth 10000
theorem bys_app (a b : ByteArray) : bys (a ++ b) = bys a ++ bys b := by
  unfold bys; rw [ByteArray.data_append, Array.toList_append, List.map_append]
theorem bys_nil {a : ByteArray} (h : a.size = 0) : bys a = [] := List.eq_nil_of_length_eq_zero (by rw [bys_length]; exact h)
theorem size_app (a b : ByteArray) : (a ++ b).size = a.size + b.size := ByteArray.size_append
/-- A line of the activation's own that holds a text; q: where its bytes lie. -/
def Bld (H : AHeap) (h : Nat) (q : Option Nat) (s : ByteArray) : Prop :=
  ∃ x0 a, AHeap.obj H h = some ⟨61, 2, [[x0, a]]⟩ ∧ (x0 = .nilPtr ∨ x0 = .ptr h 1 0 0) ∧
    ((q = none ∧ s.size = 0 ∧ a = .nilSlice) ∨ ∃ i, q = some i ∧ i ≠ h ∧ a = .own i s.size 0 s.size ∧ AHeap.obj H i = some ⟨5, 1, bys s⟩)
/-- All but the line is as it was. -/
def Kp (H H' : AHeap) (h : Nat) (q : Option Nat) : Prop := H.length ≤ H'.length ∧ ∀ i, i < H.length → i ≠ h → q ≠ some i → AHeap.obj H' i = AHeap.obj H i
def Nx (H : AHeap) (q q' : Option Nat) : Prop := q' = q ∨ ∃ j, q' = some j ∧ H.length ≤ j
theorem Kp.trans {H H1 H2 : AHeap} {h : Nat} {q q1 : Option Nat} (a : Kp H H1 h q) (n : Nx H q q1) (b : Kp H1 H2 h q1) : Kp H H2 h q := by
  refine ⟨Nat.le_trans a.1 b.1, fun i hi hh hq => ?_⟩
  rw [b.2 i (Nat.lt_of_lt_of_le hi a.1) hh ?_, a.2 i hi hh hq]
  rcases n with rfl | ⟨j, rfl, hj⟩
  · exact hq
  · intro e; cases e; omega
theorem Nx.trans {H H1 : AHeap} {q q1 q2 : Option Nat} (h : H.length ≤ H1.length) (a : Nx H q q1) (b : Nx H1 q1 q2) : Nx H q q2 := by
  rcases b with rfl | ⟨j, rfl, hj⟩
  · exact a
  · exact .inr ⟨j, rfl, by omega⟩
theorem Bld.lt {H : AHeap} {h : Nat} {q : Option Nat} {s : ByteArray} (b : Bld H h q s) : h < H.length := by
  obtain ⟨x0, a, ho, _⟩ := b; exact AHeap.obj_lt ho
/-- Where the bytes of a line lie. -/
def Buf (H : AHeap) (q : Option Nat) (s : ByteArray) (a : AV) : Prop := (q = none ∧ s.size = 0 ∧ a = .nilSlice) ∨ ∃ i, q = some i ∧ a = .own i s.size 0 s.size ∧ AHeap.obj H i = some ⟨5, 1, bys s⟩
theorem buf_app {env : AEnv} {x y : Operand} {H : AHeap} {q : Option Nat} {b s : ByteArray} {a : AV} {K : AV → AHeap → Prop} (hx : ev env x = some a) (hy : ev env y = some (.str s)) (hq : Buf H q b a) (hl : b.size + s.size ≤ 140737488355328)
    (hk : ∀ a' H2 q', Buf H2 q' (b ++ s) a' → H.length ≤ H2.length → (∀ i, i < H.length → q ≠ some i → AHeap.obj H2 i = AHeap.obj H i) → Nx H q q' → a'.cells = [a'] → a'.isTuple = false → K a' H2) : withRes (sstep (.appS 5 x y) env H) K := by
  rcases hq with ⟨rfl, hb, rfl⟩ | ⟨i, rfl, rfl, ho⟩
  · have hbn := bys_nil hb
    simp only [sstep, hx, hy]
    by_cases h0 : s.size = 0
    · rw [if_pos h0]
      exact hk _ _ none (.inl ⟨rfl, by rw [size_app]; omega, rfl⟩) (Nat.le_refl _) (fun _ _ _ => rfl) (.inl rfl) rfl rfl
    · rw [if_neg h0, if_pos (by omega)]
      refine hk _ _ (some H.length) (.inr ⟨H.length, rfl, ?_, ?_⟩) (by simp) (fun i hi _ => AHeap.obj_push_lt hi) (.inr ⟨_, rfl, Nat.le_refl _⟩) rfl rfl
      · rw [size_app, hb, Nat.zero_add]
      · rw [AHeap.obj_push_eq, bys_app, hbn]; rfl
  · have hlt := AHeap.obj_lt ho
    have hlen := bys_length b
    simp only [sstep, hx, hy, ho]
    rw [if_pos ⟨by rw [hlen], trivial, trivial, trivial, trivial, hl⟩]
    refine hk _ _ (some i) (.inr ⟨i, rfl, ?_, ?_⟩) (by simp) (fun j hj hn => AHeap.obj_set_ne fun e => hn (by rw [e])) (.inl rfl) rfl rfl
    · rw [size_app]
    · rw [AHeap.obj_set_eq hlt, bys_app]
theorem WriteString_a {H : AHeap} {h : Nat} {q : Option Nat} {b s : ByteArray} (hb : Bld H h q b) (hl : b.size + s.size ≤ 140737488355328) :
    ACall Tryz.prog 25 [.ptr h 1 0 0, .str s] H fun x H' => x = .tuple [I s.size, .nilIface] ∧ ∃ q', Bld H' h q' (b ++ s) ∧ Kp H H' h q ∧ Nx H q q' := by
  refine ACall.intro text25 (by simp) ?_
  unfold ir25
  obtain ⟨x0, a, ho, hx, hq⟩ := hb
  have hlt := AHeap.obj_lt ho
  simp only [walk, wl, rgets, retv, argsEnv, ev, cst, cst1, cstL, AEnv.get, AEnv.trim, envput, qstep, abin, aun, evs, evo, deref, qload, target, if_true, if_false, Nat.reduceEqDiff, reduceIte, Nat.reduceAdd, AV.cells, AV.isTuple, setMany, alen, aiaddr, afill, Nat.reduceLeDiff, Nat.reduceMul, Nat.reduceLT, afillE, List.replicate]
  refine (copyCheck_a ho hx).mono ?_
  rintro x H1 ⟨rfl, rfl⟩
  have ho1 : AHeap.obj (H.set h (some ⟨61, 2, [[.ptr h 1 0 0, a]]⟩)) h = some ⟨61, 2, [[.ptr h 1 0 0, a]]⟩ := AHeap.obj_set_eq hlt
  obtain ⟨H1, hH1⟩ : ∃ H1, H1 = H.set h (some ⟨61, 2, [[.ptr h 1 0 0, a]]⟩) := ⟨_, rfl⟩
  have hlen1 : H1.length = H.length := by rw [hH1]; simp
  have hk1 : ∀ i, i ≠ h → AHeap.obj H1 i = AHeap.obj H i := fun i hi => by rw [hH1]; exact AHeap.obj_set_ne (Ne.symm hi)
  rw [← hH1] at ho1 ⊢
  simp only [walkS, wl, rgets, retv, argsEnv, ev, cst, cst1, cstL, AEnv.get, AEnv.trim, envput, qstep, abin, aun, evs, evo, deref, qload, target, if_true, if_false, Nat.reduceEqDiff, reduceIte, Nat.reduceAdd, AV.cells, AV.isTuple, setMany, alen, aiaddr, afill, Nat.reduceLeDiff, Nat.reduceMul, Nat.reduceLT, afillE, List.replicate, ho1]
  rw [a_appS]
  have hbuf : Buf H1 q b a := by
    rcases hq with h1 | ⟨i, h1, h2, h3, h4⟩
    · exact .inl h1
    · exact .inr ⟨i, h1, h3, by rw [hk1 i h2]; exact h4⟩
  have hqh : q ≠ some h := by
    rcases hq with h1 | ⟨i, h1, h2, h3, h4⟩
    · rw [h1.1]; exact fun e => by cases e
    · rw [h1]; exact fun e => h2 (by cases e; rfl)
  refine buf_app rfl rfl hbuf hl fun a' H2 q' hb' hl2 hk2 hn hc ht => ?_
  have ho2 := (hk2 h (by omega) hqh).trans ho1
  have hq'h : q' ≠ some h := by
    rcases hn with rfl | ⟨j, rfl, hj⟩
    · exact hqh
    · intro e; cases e; omega
  simp only [walkS, wl, rgets, retv, argsEnv, ev, cst, cst1, cstL, AEnv.get, AEnv.trim, envput, qstep, abin, aun, evs, evo, deref, qload, target, if_true, if_false, Nat.reduceEqDiff, reduceIte, Nat.reduceAdd, AV.cells, AV.isTuple, setMany, alen, aiaddr, afill, Nat.reduceLeDiff, Nat.reduceMul, Nat.reduceLT, afillE, List.replicate, ho2]
  refine storeR rfl rfl ho2 rfl ⟨rfl, by rw [hc]; rfl, ht, by simp⟩ fun H3 y1 y2 y3 => ?_
  simp only [hc, setMany, List.set_cons_zero, List.set_cons_succ] at y2
  simp only [walkS, wl, rgets, retv, argsEnv, ev, cst, cst1, cstL, AEnv.get, AEnv.trim, envput, qstep, abin, aun, evs, evo, deref, qload, target, if_true, if_false, Nat.reduceEqDiff, reduceIte, Nat.reduceAdd, AV.cells, AV.isTuple, setMany, alen, aiaddr, afill, Nat.reduceLeDiff, Nat.reduceMul, Nat.reduceLT, afillE, List.replicate]
  refine ⟨q', ⟨.ptr h 1 0 0, a', y2, .inr rfl, ?_⟩, ⟨by omega, fun i hi hih hiq => ?_⟩, ?_⟩
  · rcases hb' with h1 | ⟨i, h1, h2, h3⟩
    · exact .inl h1
    · have hih : i ≠ h := fun e => hq'h (by rw [h1, e])
      exact .inr ⟨i, h1, hih, h2, by rw [y3 i hih]; exact h3⟩
  · rw [y3 i hih, hk2 i (by omega) hiq, hk1 i hih]
  · rcases hn with rfl | ⟨j, rfl, hj⟩
    · exact .inl rfl
    · exact .inr ⟨j, rfl, by omega⟩
theorem dgs_le : ∀ (f u : Nat), (dgs f u).length ≤ f
  | 0, u => by simp [dgs]
  | f + 1, u => by
    have := dgs_le f (u / 10)
    unfold dgs
    split <;> simp <;> omega
/-- Numbers of few digits. -/
abbrev Few (n : Int) : Prop := -1000000000 ≤ n ∧ n ≤ 1000000000
theorem itoaB_size {n : Int} (h : Few n) : (itoaB n).size ≤ 20 := by
  have hs : ∃ s, itoaT n = some s ∧ s.size ≤ 20 := by
    unfold itoaT
    by_cases h0 : 0 ≤ n ∧ n.toNat < 10 ^ 12
    · rw [if_pos h0]
      refine ⟨_, rfl, ?_⟩
      have := dgs_le 12 n.toNat
      simp only [ByteArray.size, List.size_toArray]; omega
    · rw [if_neg h0, if_pos (by omega)]
      refine ⟨_, rfl, ?_⟩
      have := dgs_le 12 n.natAbs
      simp only [ByteArray.size, List.size_toArray, List.length_cons]; omega
  obtain ⟨s, h1, h2⟩ := hs
  rw [← (itoaT_eq h1).1]; exact h2
/-- A text with numbers behind it, each behind a separator. -/
def putB (sep : ByteArray) (xs : List Int) (b : ByteArray) : ByteArray := xs.foldl (fun acc x => acc ++ sep ++ itoaB x) b
theorem putB_take {sep b : ByteArray} {xs : List Int} {k : Nat} (h : k < xs.length) : putB sep (xs.take (k + 1)) b = putB sep (xs.take k) b ++ sep ++ itoaB xs[k] := by
  unfold putB; rw [List.take_succ_eq_append_getElem h, List.foldl_append]; rfl
theorem putB_size {sep : ByteArray} (hs : sep.size ≤ 10) : ∀ (xs : List Int) (b : ByteArray), (∀ x, x ∈ xs → Few x) → (putB sep xs b).size ≤ b.size + 30 * xs.length
  | [], b, _ => by simp [putB]
  | x :: r, b, h => by
    have h1 := putB_size hs r (b ++ sep ++ itoaB x) fun y hy => h y (by simp [hy])
    have h2 := itoaB_size (h x (by simp))
    rw [size_app, size_app] at h1
    show (putB sep r (b ++ sep ++ itoaB x)).size ≤ _
    rw [List.length_cons]; omega
theorem put_a {H : AHeap} {h v : Nat} {q : Option Nat} {b sep : ByteArray} {xs : List Int} (hb : Bld H h q b) (hv : AHeap.obj H v = some ⟨3, 1, ic xs⟩) (hvh : v ≠ h) (hvq : q ≠ some v) (hs : sep.size ≤ 10) (hx : ∀ x, x ∈ xs → Few x) (hl : b.size + 30 * xs.length ≤ 100000000000000) :
    ACall Tryz.prog 26 [.ptr h 1 0 0, .str sep, .own v xs.length 0 xs.length] H fun x H' => x = .tuple [] ∧ ∃ q', Bld H' h q' (putB sep xs b) ∧ Kp H H' h q ∧ Nx H q q' := by
  refine ACall.intro text26 (by simp) ?_
  unfold ir26
  have hvl := AHeap.obj_lt hv
  simp only [walkS, wl, rgets, retv, argsEnv, ev, cst, cst1, cstL, AEnv.get, AEnv.trim, envput, qstep, abin, aun, evs, evo, deref, qload, target, if_true, if_false, Nat.reduceEqDiff, reduceIte, Nat.reduceAdd, AV.cells, AV.isTuple, setMany, alen, aiaddr, afill, Nat.reduceLeDiff, Nat.reduceMul, Nat.reduceLT, afillE, List.replicate, hv, ic_length]
  refine awp_loop (σ := Nat) (fun k => [(0, .ptr h 1 0 0), (1, .str sep), (8, .own v xs.length 0 xs.length), (9, I xs.length), (10, I k)]) (fun k H1 => ∃ q', Bld H1 h q' (putB sep (xs.take k) b) ∧ Kp H H1 h q ∧ Nx H q q') (fun k => k ≤ xs.length) (fun k => xs.length - k) 0 (Nat.zero_le _) rfl ⟨q, hb, ⟨Nat.le_refl _, fun _ _ _ _ => rfl⟩, .inl rfl⟩ ?_
  rintro k H1 hk ⟨q1, hb1, hk1, hn1⟩
  have hv1 := (hk1.2 v hvl hvh hvq).trans hv
  simp only [walkS, wl, rgets, retv, argsEnv, ev, cst, cst1, cstL, AEnv.get, AEnv.trim, envput, qstep, abin, aun, evs, evo, deref, qload, target, if_true, if_false, Nat.reduceEqDiff, reduceIte, Nat.reduceAdd, AV.cells, AV.isTuple, setMany, alen, aiaddr, afill, Nat.reduceLeDiff, Nat.reduceMul, Nat.reduceLT, afillE, List.replicate]
  refine withBool_intro ?_ ?_ <;> intro hbb <;> simp only [walkS, wl, rgets, retv, argsEnv, ev, cst, cst1, cstL, AEnv.get, AEnv.trim, envput, qstep, abin, aun, evs, evo, deref, qload, target, if_true, if_false, Nat.reduceEqDiff, reduceIte, Nat.reduceAdd, AV.cells, AV.isTuple, setMany, alen, aiaddr, afill, Nat.reduceLeDiff, Nat.reduceMul, Nat.reduceLT, afillE, List.replicate]
  · have hlt : k < xs.length := by simpa using hbb
    have w1 := w_succ (k := k) (by omega)
    have hx0 := hx xs[k] (List.getElem_mem hlt)
    have hsz := putB_size hs (xs.take k) b fun x hm => hx x (List.mem_of_mem_take hm)
    rw [List.length_take, Nat.min_eq_left (by omega)] at hsz
    have hi := itoaB_size hx0
    have hci : (k : Int) < (xs.length : Int) := by omega
    simp only [walkS, wl, rgets, retv, argsEnv, ev, cst, cst1, cstL, AEnv.get, AEnv.trim, envput, qstep, abin, aun, evs, evo, deref, qload, target, if_true, if_false, Nat.reduceEqDiff, reduceIte, Nat.reduceAdd, AV.cells, AV.isTuple, setMany, alen, aiaddr, afill, Nat.reduceLeDiff, Nat.reduceMul, Nat.reduceLT, afillE, List.replicate, hv1, ic_length, ic_get hlt, hci]
    refine (WriteString_a (s := sep) hb1 (by omega)).mono ?_
    rintro x H2 ⟨rfl, q2, hb2, hk2, hn2⟩
    simp only [walkS, wl, rgets, retv, argsEnv, ev, cst, cst1, cstL, AEnv.get, AEnv.trim, envput, qstep, abin, aun, evs, evo, deref, qload, target, if_true, if_false, Nat.reduceEqDiff, reduceIte, Nat.reduceAdd, AV.cells, AV.isTuple, setMany, alen, aiaddr, afill, Nat.reduceLeDiff, Nat.reduceMul, Nat.reduceLT, afillE, List.replicate]
    refine dcall_pure (Itoa_ok xs[k] (by omega) (by omega)) (frzL_of (d := 1) rfl) ?_
    simp only [walkS, wl, rgets, retv, argsEnv, ev, cst, cst1, cstL, AEnv.get, AEnv.trim, envput, qstep, abin, aun, evs, evo, deref, qload, target, if_true, if_false, Nat.reduceEqDiff, reduceIte, Nat.reduceAdd, AV.cells, AV.isTuple, setMany, alen, aiaddr, afill, Nat.reduceLeDiff, Nat.reduceMul, Nat.reduceLT, afillE, List.replicate]
    refine (WriteString_a (s := itoaB xs[k]) hb2 (by rw [size_app]; omega)).mono ?_
    rintro x H3 ⟨rfl, q3, hb3, hk3, hn3⟩
    simp only [walkS, wl, rgets, retv, argsEnv, ev, cst, cst1, cstL, AEnv.get, AEnv.trim, envput, qstep, abin, aun, evs, evo, deref, qload, target, if_true, if_false, Nat.reduceEqDiff, reduceIte, Nat.reduceAdd, AV.cells, AV.isTuple, setMany, alen, aiaddr, afill, Nat.reduceLeDiff, Nat.reduceMul, Nat.reduceLT, afillE, List.replicate, w1]
    refine loop_end (k + 1) hlt (by omega) rfl ⟨q3, ?_, ?_, ?_⟩
    · rw [putB_take hlt]; exact hb3
    · exact (hk1.trans hn1 hk2).trans (hn1.trans hk1.1 hn2) hk3
    · exact (hn1.trans hk1.1 hn2).trans (Nat.le_trans hk1.1 hk2.1) hn3
  · have hk' : k = xs.length := by simp at hbb; omega
    subst hk'
    rw [List.take_length] at hb1
    exact ⟨q1, hb1, hk1, hn1⟩
end Go.Proofs.YtgadlckkmhhmbaaGreatDoor
