/- A use of differences: one walk more. -/
import Derived.Test.YtepnijjgdhldeaaQV1
namespace Go.Proofs.Ytepnijjgdhldeaa
open Go.Awp
set_option linter.unusedSimpArgs false
set_option linter.unusedVariables false
set_option maxRecDepth 10000
set_option maxHeartbeats 8000000
theorem growP {n : Nat} {ds : List Df} {F W : Nat → Int} {l : List Int} (hg : Good n (lns ds F)) (hl : ds.length ≤ 2048) (hw : ∀ d, d ∈ ds → -1073741824 ≤ d.2.2 ∧ d.2.2 ≤ 1073741824) (hin : ∀ i, i ∈ l → 0 ≤ i ∧ i < n) (hll : l.length ≤ 1048576) :
    PCall Try.prog 101 [.iface 91 (.rop (useC n ds F W)), .ro false (ic l)] (.tuple [treeV true n (grown n (lns ds F) (marksOf l)).1, I (grown n (lns ds F) (marksOf l)).2]) := by
  refine ACall.pcall ((grow_at hg (use_graph hl hw) hin hll (.inl ⟨_, rfl⟩)).mono fun x H' hx => ?_)
  obtain ⟨h1, h2, h3, rfl, g1, g2, g3, o1, o2, o3, hl2, kp⟩ := hx
  exact out_tuple (.cons (out_of (d := 6) (car_tree o1 o2 o3)) (.cons out_int .nil))
structure UF (hu hf hw n : Nat) (ds : List Df) (F W : Nat → Int) (H : AHeap) : Prop where
  ou : AHeap.obj H hu = some ⟨96, 4, [[I n, .ro false (rows ds), .own hf ds.length 0 ds.length, .own hw n 0 n]]⟩
  of : AHeap.obj H hf = some ⟨3, 1, ic (li ds.length F)⟩
  ow : AHeap.obj H hw = some ⟨3, 1, ic (li n W)⟩
theorem UF.car {hu hf hw n : Nat} {ds : List Df} {F W : Nat → Int} {H : AHeap} (h : UF hu hf hw n ds F W H) : carry false H 5 (.ptr hu 1 0 0) = some (.rop (useC n ds F W)) :=
  car_ptr (d := 4) (cells := [I n, .ro false (rows ds), .own hf ds.length 0 ds.length, .own hw n 0 n]) (by simp [deref, h.ou]) (carL_cons rfl (carL_cons (car_rowsF (d := 2)) (carL_cons (car_ownN (d := 2) h.of (by rw [ic_length, li_length]) (ic_simple _)) (carL_cons (car_ownN (d := 2) h.ow (by rw [ic_length, li_length]) (ic_simple _)) rfl))))
theorem UF.keep {hu hf hw n : Nat} {ds : List Df} {F W : Nat → Int} {H H' : AHeap} (h : UF hu hf hw n ds F W H) (hk : ∀ q, q < H.length → AHeap.obj H' q = AHeap.obj H q) : UF hu hf hw n ds F W H' :=
  ⟨(hk _ (AHeap.obj_lt h.ou)).trans h.ou, (hk _ (AHeap.obj_lt h.of)).trans h.of, (hk _ (AHeap.obj_lt h.ow)).trans h.ow⟩
structure Stepped (hu hf hw n : Nat) (ds : List Df) (w : Nat → Int) (T : Int) (F W : Nat → Int) (no : Bool) (H0 : AHeap) (x : AV) (H' : AHeap) : Prop where
  len : H0.length ≤ H'.length
  same : ∀ i, i < H0.length → i ≠ hf → i ≠ hw → AHeap.obj H' i = AHeap.obj H0 i
  cas : (x = .bool false ∧ no = true ∧ UF hu hf hw n ds F W H') ∨ (x = .bool true ∧ ∃ F' W', UF hu hf hw n ds F' W' H' ∧ Inv n ds w T F' W' ∧ phi n W' < phi n W ∧ ∀ v, 0 < v → (W v ≤ 0 → W' v ≤ 0) ∧ (W v = 0 → W' v = 0))
end Go.Proofs.Ytepnijjgdhldeaa
/- A use of differences: one walk more, part 2. -/
namespace Go.Proofs.Ytepnijjgdhldeaa
open Go.Awp
set_option linter.unusedSimpArgs false
set_option linter.unusedVariables false
set_option maxRecDepth 10000
set_option maxHeartbeats 8000000
def ir126r : IR := (.seq (.seq (.seq (.ops [⟨(some 80), (.mv (.tmp 11)), none, [], false⟩, ⟨(some 81), (.len (.tmp 80)), none, [], false⟩, ⟨(some 82), (.mv (.const (.int .i64 0))), none, [], false⟩]) (.trim [0, 1, 8, 11, 12, 13, 80, 81, 82])) (.block 2 (.loop (.seq (.seq (.ops [⟨(some 83), (.bin .lss (.tmp 82) (.tmp 81)), none, [], false⟩]) (.trim [0, 1, 8, 11, 12, 13, 80, 81, 82, 83])) (.seq (.cond (.tmp 83) .skip (.exit 2)) (.seq (.block 3 (.seq (.seq (.ops [⟨(some 84), (.iaddr 1 (.tmp 80) (.tmp 82)), none, [], false⟩, ⟨(some 85), (.load 1 false (.tmp 84)), none, [], false⟩, ⟨(some 15), (.mv (.tmp 85)), none, [], false⟩]) (.trim [0, 1, 8, 11, 12, 13, 15, 80, 81, 82])) (.seq (.seq (.ops [⟨(some 86), (.mv (.tmp 15)), none, [], false⟩, ⟨(some 87), (.mv (.tmp 0)), none, [], false⟩, ⟨(some 88), (.nilchk (.tmp 87)), none, [], false⟩, ⟨(some 89), (.faddr 0 (.tmp 88)), none, [], false⟩, ⟨(some 90), (.faddr 1 (.tmp 89)), none, [], false⟩, ⟨(some 91), (.load 1 false (.tmp 90)), none, [], false⟩, ⟨(some 92), (.len (.tmp 91)), none, [], false⟩, ⟨(some 93), (.bin .geq (.tmp 86) (.tmp 92)), none, [], false⟩]) (.trim [0, 1, 8, 11, 12, 13, 15, 80, 81, 82, 93])) (.cond (.tmp 93) (.seq (.opsD [⟨(some 94), (.mv (.tmp 13)), none, [13], false⟩, ⟨(some 95), (.mv (.tmp 0)), none, [0], false⟩, ⟨(some 96), (.nilchk (.tmp 95)), none, [95], false⟩, ⟨(some 97), (.faddr 2 (.tmp 96)), none, [96], false⟩, ⟨(some 98), (.load 1 false (.tmp 97)), none, [97], false⟩, ⟨(some 99), (.mv (.tmp 8)), none, [8], false⟩, ⟨(some 100), (.mv (.tmp 15)), none, [15], false⟩, ⟨(some 101), (.mv (.tmp 0)), none, [0], false⟩, ⟨(some 102), (.nilchk (.tmp 101)), none, [101], false⟩, ⟨(some 103), (.faddr 0 (.tmp 102)), none, [102], false⟩, ⟨(some 104), (.faddr 1 (.tmp 103)), none, [103], false⟩, ⟨(some 105), (.load 1 false (.tmp 104)), none, [104], false⟩, ⟨(some 106), (.len (.tmp 105)), none, [105], false⟩, ⟨(some 107), (.bin .sub (.tmp 100) (.tmp 106)), none, [100, 106], false⟩, ⟨(some 108), (.iaddr 1 (.tmp 99) (.tmp 107)), none, [99, 107], false⟩, ⟨(some 109), (.load 1 false (.tmp 108)), none, [108], false⟩, ⟨(some 110), (.iaddr 1 (.tmp 98) (.tmp 109)), none, [98, 109], false⟩, ⟨(some 111), (.load 1 false (.tmp 110)), none, [110], false⟩] [] [⟨(some 112), (.mm false [(.tmp 94), (.tmp 111)]), none, [], false⟩, ⟨(some 13), (.mv (.tmp 112)), none, [], false⟩]) (.trim [0, 1, 8, 11, 12, 13, 80, 81, 82])) .skip)))) (.seq (.ops [⟨(some 113), (.bin .add (.tmp 82) (.const (.int .i64 1))), none, [], false⟩, ⟨(some 82), (.mv (.tmp 113)), none, [], false⟩]) (.trim [0, 1, 8, 11, 12, 13, 80, 81, 82])))))))) (.seq (.seq (.seq (.ops [⟨(some 114), (.mv (.tmp 11)), none, [], false⟩, ⟨(some 115), (.len (.tmp 114)), none, [], false⟩, ⟨(some 116), (.mv (.const (.int .i64 0))), none, [], false⟩]) (.trim [0, 1, 8, 12, 13, 114, 115, 116])) (.block 4 (.loop (.seq (.seq (.ops [⟨(some 117), (.bin .lss (.tmp 116) (.tmp 115)), none, [], false⟩]) (.trim [0, 1, 8, 12, 13, 114, 115, 116, 117])) (.seq (.cond (.tmp 117) .skip (.exit 4)) (.seq (.block 5 (.seq (.seq (.ops [⟨(some 118), (.iaddr 1 (.tmp 114) (.tmp 116)), none, [], false⟩, ⟨(some 119), (.load 1 false (.tmp 118)), none, [], false⟩, ⟨(some 17), (.mv (.tmp 119)), none, [], false⟩]) (.trim [0, 1, 8, 12, 13, 17, 114, 115, 116])) (.seq (.seq (.ops [⟨(some 120), (.mv (.tmp 17)), none, [], false⟩, ⟨(some 121), (.mv (.tmp 0)), none, [], false⟩, ⟨(some 122), (.nilchk (.tmp 121)), none, [], false⟩, ⟨(some 123), (.faddr 0 (.tmp 122)), none, [], false⟩, ⟨(some 124), (.faddr 1 (.tmp 123)), none, [], false⟩, ⟨(some 125), (.load 1 false (.tmp 124)), none, [], false⟩, ⟨(some 126), (.len (.tmp 125)), none, [], false⟩, ⟨(some 127), (.bin .geq (.tmp 120) (.tmp 126)), none, [], false⟩]) (.trim [0, 1, 8, 12, 13, 17, 114, 115, 116, 127])) (.cond (.tmp 127) (.seq (.opsD [⟨(some 128), (.mv (.tmp 0)), none, [0], false⟩, ⟨(some 129), (.nilchk (.tmp 128)), none, [128], false⟩, ⟨(some 130), (.faddr 2 (.tmp 129)), none, [129], false⟩, ⟨(some 131), (.load 1 false (.tmp 130)), none, [130], false⟩, ⟨(some 132), (.mv (.tmp 8)), none, [8], false⟩, ⟨(some 133), (.mv (.tmp 17)), none, [17], false⟩, ⟨(some 134), (.mv (.tmp 0)), none, [0], false⟩, ⟨(some 135), (.nilchk (.tmp 134)), none, [134], false⟩, ⟨(some 136), (.faddr 0 (.tmp 135)), none, [135], false⟩, ⟨(some 137), (.faddr 1 (.tmp 136)), none, [136], false⟩, ⟨(some 138), (.load 1 false (.tmp 137)), none, [137], false⟩, ⟨(some 139), (.len (.tmp 138)), none, [138], false⟩, ⟨(some 140), (.bin .sub (.tmp 133) (.tmp 139)), none, [133, 139], false⟩, ⟨(some 141), (.iaddr 1 (.tmp 132) (.tmp 140)), none, [132, 140], false⟩, ⟨(some 142), (.load 1 false (.tmp 141)), none, [141], false⟩, ⟨(some 143), (.iaddr 1 (.tmp 131) (.tmp 142)), none, [131, 142], false⟩, ⟨(some 144), (.load 1 false (.tmp 143)), none, [143], false⟩, ⟨(some 145), (.mv (.tmp 13)), none, [13], false⟩] [] [⟨(some 146), (.bin .sub (.tmp 144) (.tmp 145)), none, [], false⟩, ⟨(some 147), (.iaddr 1 (.tmp 131) (.tmp 142)), none, [], false⟩, ⟨none, (.store 1 false (.tmp 147) (.tmp 146)), none, [], false⟩]) (.trim [0, 1, 8, 12, 13, 114, 115, 116])) (.seq (.ops [⟨(some 148), (.mv (.tmp 0)), none, [], false⟩, ⟨(some 149), (.nilchk (.tmp 148)), none, [], false⟩, ⟨(some 150), (.faddr 2 (.tmp 149)), none, [], false⟩, ⟨(some 151), (.load 1 false (.tmp 150)), none, [], false⟩, ⟨(some 152), (.mv (.tmp 17)), none, [], false⟩, ⟨(some 153), (.iaddr 1 (.tmp 151) (.tmp 152)), none, [], false⟩, ⟨(some 154), (.load 1 false (.tmp 153)), none, [], false⟩, ⟨(some 155), (.mv (.tmp 13)), none, [], false⟩, ⟨(some 156), (.bin .add (.tmp 154) (.tmp 155)), none, [], false⟩, ⟨(some 157), (.iaddr 1 (.tmp 151) (.tmp 152)), none, [], false⟩, ⟨none, (.store 1 false (.tmp 157) (.tmp 156)), none, [], false⟩]) (.trim [0, 1, 8, 12, 13, 114, 115, 116])))))) (.seq (.ops [⟨(some 158), (.bin .add (.tmp 116) (.const (.int .i64 1))), none, [], false⟩, ⟨(some 116), (.mv (.tmp 158)), none, [], false⟩]) (.trim [0, 1, 8, 12, 13, 114, 115, 116])))))))) (.seq (.seq (.seq (.ops [⟨(some 159), (.mv (.tmp 1)), none, [], false⟩, ⟨(some 160), (.bin .neq (.tmp 159) (.const (.int .i64 0))), none, [], false⟩]) (.trim [0, 1, 12, 13, 160])) (.cond (.tmp 160) (.seq (.ops [⟨(some 161), (.mv (.tmp 0)), none, [], false⟩, ⟨(some 162), (.nilchk (.tmp 161)), none, [], false⟩, ⟨(some 163), (.faddr 3 (.tmp 162)), none, [], false⟩, ⟨(some 164), (.load 1 false (.tmp 163)), none, [], false⟩, ⟨(some 165), (.mv (.tmp 1)), none, [], false⟩, ⟨(some 166), (.iaddr 1 (.tmp 164) (.tmp 165)), none, [], false⟩, ⟨(some 167), (.load 1 false (.tmp 166)), none, [], false⟩, ⟨(some 168), (.mv (.tmp 13)), none, [], false⟩, ⟨(some 169), (.bin .sub (.tmp 167) (.tmp 168)), none, [], false⟩, ⟨(some 170), (.iaddr 1 (.tmp 164) (.tmp 165)), none, [], false⟩, ⟨none, (.store 1 false (.tmp 170) (.tmp 169)), none, [], false⟩]) (.trim [0, 12, 13])) .skip)) (.seq (.seq (.seq (.ops [⟨(some 171), (.mv (.tmp 12)), none, [], false⟩, ⟨(some 172), (.bin .neq (.tmp 171) (.const (.int .i64 0))), none, [], false⟩]) (.trim [0, 12, 13, 172])) (.cond (.tmp 172) (.seq (.ops [⟨(some 173), (.mv (.tmp 0)), none, [], false⟩, ⟨(some 174), (.nilchk (.tmp 173)), none, [], false⟩, ⟨(some 175), (.faddr 3 (.tmp 174)), none, [], false⟩, ⟨(some 176), (.load 1 false (.tmp 175)), none, [], false⟩, ⟨(some 177), (.mv (.tmp 12)), none, [], false⟩, ⟨(some 178), (.iaddr 1 (.tmp 176) (.tmp 177)), none, [], false⟩, ⟨(some 179), (.load 1 false (.tmp 178)), none, [], false⟩, ⟨(some 180), (.mv (.tmp 13)), none, [], false⟩, ⟨(some 181), (.bin .add (.tmp 179) (.tmp 180)), none, [], false⟩, ⟨(some 182), (.iaddr 1 (.tmp 176) (.tmp 177)), none, [], false⟩, ⟨none, (.store 1 false (.tmp 182) (.tmp 181)), none, [], false⟩]) (.trim [])) .skip)) (.seq (.seq (.ops [⟨(some 6), (.mv (.const (.bool true))), none, [], false⟩]) (.trim [6])) .ret)))))
theorem ir126_eq : ir126 = (.seq (.seq (.ops [⟨(some 6), (.mv (.const (.bool false))), none, [], false⟩]) (.trim [0, 1, 2])) (.seq (.seq (.ops [⟨(some 18), (.mv (.tmp 0)), none, [], false⟩, ⟨(some 19), (.call 130 [(.tmp 18)]), none, [], false⟩, ⟨(some 20), (.mv (.tmp 0)), none, [], false⟩, ⟨(some 21), (.call 131 [(.tmp 20)]), none, [], false⟩, ⟨(some 7), (.mv (.tmp 19)), none, [], false⟩, ⟨(some 8), (.mv (.tmp 21)), none, [], false⟩]) (.trim [0, 1, 2, 7, 8])) (.seq (.seq (.ops [⟨(some 23), (.mv (.tmp 0)), none, [], false⟩, ⟨(some 24), (.iface 91 (.tmp 23)), none, [], false⟩, ⟨(some 25), (.mv (.tmp 2)), none, [], false⟩, ⟨(some 26), (.call 101 [(.tmp 24), (.tmp 25)]), none, [], false⟩, ⟨(some 22), (.mv (.tmp 26)), none, [], false⟩, ⟨(some 27), (.extract 0 (.tmp 22)), none, [], false⟩, ⟨(some 28), (.extract 1 (.tmp 22)), none, [], false⟩, ⟨(some 9), (.zero 88 3 [.nilSlice, .nilSlice, .nilSlice]), none, [], false⟩, ⟨none, (.store 3 true (.tmp 9) (.tmp 27)), none, [], false⟩, ⟨(some 10), (.mv (.tmp 28)), none, [], false⟩]) (.trim [0, 1, 7, 8, 9])) (.seq (.seq (.seq (.ops [⟨(some 29), (.faddr 1 (.tmp 9)), none, [], false⟩, ⟨(some 30), (.load 1 false (.tmp 29)), none, [], false⟩, ⟨(some 31), (.mv (.tmp 1)), none, [], false⟩, ⟨(some 32), (.iaddr 1 (.tmp 30) (.tmp 31)), none, [], false⟩, ⟨(some 33), (.load 1 false (.tmp 32)), none, [], false⟩, ⟨(some 34), (.un .not (.tmp 33)), none, [], false⟩]) (.trim [0, 1, 7, 8, 9, 34])) (.cond (.tmp 34) (.seq (.seq (.ops [⟨(some 6), (.mv (.const (.bool false))), none, [], false⟩]) (.trim [6])) .ret) .skip)) (.seq (.seq (.ops [⟨(some 11), (.mv (.const (.slice none 0 0))), none, [], false⟩]) (.trim [0, 1, 7, 8, 9, 11])) (.seq (.seq (.ops [⟨(some 35), (.mv (.tmp 1)), none, [], false⟩, ⟨(some 12), (.mv (.tmp 35)), none, [], false⟩]) (.trim [0, 1, 7, 8, 9, 11, 12])) (.seq (.block 0 (.loop (.seq (.seq (.seq (.ops [⟨(some 36), (.faddr 2 (.tmp 9)), none, [], false⟩, ⟨(some 37), (.load 1 false (.tmp 36)), none, [], false⟩, ⟨(some 38), (.mv (.tmp 12)), none, [], false⟩, ⟨(some 39), (.iaddr 1 (.tmp 37) (.tmp 38)), none, [], false⟩, ⟨(some 40), (.load 1 false (.tmp 39)), none, [], false⟩, ⟨(some 41), (.bin .geq (.tmp 40) (.const (.int .i64 0))), none, [], false⟩]) (.trim [0, 1, 7, 8, 9, 11, 12, 41])) (.cond (.tmp 41) .skip (.exit 0))) (.seq (.block 1 (.seq (.ops [⟨(some 51), (.mv (.tmp 11)), none, [], false⟩, ⟨(some 52), (.faddr 2 (.tmp 9)), none, [], false⟩, ⟨(some 53), (.load 1 false (.tmp 52)), none, [], false⟩, ⟨(some 54), (.mv (.tmp 12)), none, [], false⟩, ⟨(some 55), (.iaddr 1 (.tmp 53) (.tmp 54)), none, [], false⟩, ⟨(some 56), (.load 1 false (.tmp 55)), none, [], false⟩, ⟨(some 57), (.mklit 3 1 1 [(.int .i64 0)] [(0, (.tmp 56))]), none, [], false⟩, ⟨(some 58), (.append 3 1 8 (.tmp 51) (.tmp 57)), none, [], false⟩, ⟨(some 11), (.mv (.tmp 58)), none, [], false⟩]) (.trim [0, 1, 7, 8, 9, 11, 12]))) (.seq (.ops [⟨(some 42), (.mv (.tmp 7)), none, [], false⟩, ⟨(some 43), (.faddr 2 (.tmp 9)), none, [], false⟩, ⟨(some 44), (.load 1 false (.tmp 43)), none, [], false⟩, ⟨(some 45), (.mv (.tmp 12)), none, [], false⟩, ⟨(some 46), (.iaddr 1 (.tmp 44) (.tmp 45)), none, [], false⟩, ⟨(some 47), (.load 1 false (.tmp 46)), none, [], false⟩, ⟨(some 48), (.iaddr 3 (.tmp 42) (.tmp 47)), none, [], false⟩, ⟨(some 49), (.faddr 0 (.tmp 48)), none, [], false⟩, ⟨(some 50), (.load 1 false (.tmp 49)), none, [], false⟩, ⟨(some 12), (.mv (.tmp 50)), none, [], false⟩]) (.trim [0, 1, 7, 8, 9, 11, 12])))))) (.seq (.seq (.ops [⟨(some 13), (.mv (.const (.int .i64 1152921504606846976))), none, [], false⟩]) (.trim [0, 1, 8, 11, 12, 13])) (.seq (.seq (.seq (.ops [⟨(some 59), (.mv (.tmp 1)), none, [], false⟩, ⟨(some 60), (.bin .neq (.tmp 59) (.const (.int .i64 0))), none, [], false⟩]) (.trim [0, 1, 8, 11, 12, 13, 60])) (.cond (.tmp 60) (.seq (.ops [⟨(some 61), (.mv (.tmp 0)), none, [], false⟩, ⟨(some 62), (.nilchk (.tmp 61)), none, [], false⟩, ⟨(some 63), (.faddr 3 (.tmp 62)), none, [], false⟩, ⟨(some 64), (.load 1 false (.tmp 63)), none, [], false⟩, ⟨(some 65), (.mv (.tmp 1)), none, [], false⟩, ⟨(some 66), (.iaddr 1 (.tmp 64) (.tmp 65)), none, [], false⟩, ⟨(some 67), (.load 1 false (.tmp 66)), none, [], false⟩, ⟨(some 13), (.mv (.tmp 67)), none, [], false⟩]) (.trim [0, 1, 8, 11, 12, 13])) .skip)) (.seq (.seq (.seq (.ops [⟨(some 68), (.mv (.tmp 12)), none, [], false⟩, ⟨(some 69), (.bin .neq (.tmp 68) (.const (.int .i64 0))), none, [], false⟩]) (.trim [0, 1, 8, 11, 12, 13, 69])) (.cond (.tmp 69) (.seq (.ops [⟨(some 70), (.mv (.tmp 13)), none, [], false⟩, ⟨(some 71), (.mv (.tmp 0)), none, [], false⟩, ⟨(some 72), (.nilchk (.tmp 71)), none, [], false⟩, ⟨(some 73), (.faddr 3 (.tmp 72)), none, [], false⟩, ⟨(some 74), (.load 1 false (.tmp 73)), none, [], false⟩, ⟨(some 75), (.mv (.tmp 12)), none, [], false⟩, ⟨(some 76), (.iaddr 1 (.tmp 74) (.tmp 75)), none, [], false⟩, ⟨(some 77), (.load 1 false (.tmp 76)), none, [], false⟩, ⟨(some 78), (.un .neg (.tmp 77)), none, [], false⟩, ⟨(some 79), (.mm false [(.tmp 70), (.tmp 78)]), none, [], false⟩, ⟨(some 13), (.mv (.tmp 79)), none, [], false⟩]) (.trim [0, 1, 8, 11, 12, 13])) .skip)) ir126r)))))))))) := rfl
def mmin (ds : List Df) (F : Nat → Int) (s : Gs) (a : Nat) (c : Int) : Nat → Int
  | 0 => c
  | t + 1 => if pth (lns ds F) s a t < ds.length then mmin ds F s a c t else min (mmin ds F s a c t) (F (jx ds F (pth (lns ds F) s a t)))
section
variable {n : Nat} {ds : List Df} {F : Nat → Int} {s : Gs} {S : Nat → Bool} {a q : Nat} {c : Int}
theorem mmin_le : ∀ t, mmin ds F s a c t ≤ c
  | 0 => Int.le_refl _
  | t + 1 => by
    have := mmin_le t
    unfold mmin
    split <;> omega
theorem mmin_back : ∀ t u, u < t → ¬ pth (lns ds F) s a u < ds.length → mmin ds F s a c t ≤ F (jx ds F (pth (lns ds F) s a u))
  | 0, u, h, _ => by omega
  | t + 1, u, h, hb => by
    unfold mmin
    by_cases e : u = t
    · subst e; rw [if_neg hb]; omega
    · have := mmin_back t u (by omega) hb
      split <;> omega
theorem mmin_pos (h : Way n (lns ds F) s S a q) (hc : 0 < c) : ∀ t, t ≤ q → 0 < mmin ds F s a c t
  | 0, _ => hc
  | t + 1, ht => by
    have := mmin_pos h hc t (by omega)
    unfold mmin
    split
    · exact this
    · rename_i hb
      rcases (h.hop (show t < q by omega)).cas with k | k
      · exact absurd k.1 hb
      · have := k.2.2.2.1; omega
end
theorem absI_le {n : Nat} {W : Nat → Int} {v : Nat} (hv : v < n) (h0 : 0 < v) : absI (W v) ≤ phi n W := by
  have e : ∀ i, i < n → (0 : Int) ≤ (fun i => (if i = 0 then 0 else absI (W i)) - (if i = v then absI (W v) else 0)) i := fun i _ => by
    simp only
    by_cases h : i = v
    · subst h; rw [if_neg (by omega), if_pos rfl]; omega
    · rw [if_neg h]
      simp only [absI]
      split
      · omega
      · split <;> omega
  have h1 := sumN_le (f := fun _ => 0) n e
  rw [sumN_zero n fun _ _ => rfl] at h1
  have h2 : phi n W = sumN n (fun i => (if i = 0 then 0 else absI (W i)) - (if i = v then absI (W v) else 0)) + sumN n (fun i => if i = v then absI (W v) else 0) := by
    rw [← sumN_add]
    exact sumN_congr n fun i _ => by omega
  have h3 : sumN n (fun i => if i = v then absI (W v) else 0) = absI (W v) := by
    have : ∀ i, i < n → (if i = v then absI (W v) else 0) = upd (fun _ => 0) v (absI (W v)) i := fun i _ => rfl
    rw [sumN_congr n this, sumN_upd, if_pos hv, sumN_zero n fun _ _ => rfl]; omega
  omega
theorem W_bound {n : Nat} {W : Nat → Int} {v : Nat} (hv : v < n) (h0 : 0 < v) : -(phi n W) ≤ W v ∧ W v ≤ phi n W := by
  have := absI_le (W := W) hv h0
  simp only [absI] at this
  split at this <;> omega
theorem step_rest {hu hf hw n : Nat} {ds : List Df} {F W w : Nat → Int} {T : Int} (hg : Good n ds) (hl : ds.length ≤ 60) (inv : Inv n ds w T F W) (hT : T ≤ 1048576) (hphi : phi n W ≤ 1048576) {H0 : AHeap} (d1 : hu ≠ hf) (d2 : hu ≠ hw) (d3 : hf ≠ hw) (b1 : hu < H0.length) (b2 : hf < H0.length) (b3 : hw < H0.length)
    {S : Nat → Bool} {a q hl' : Nat} {s : Gs} (hs : s = (lens n (lns ds F) S).1) (hcalm : Calm (lns ds F) (fun v => s.has v = true) s.long) (hq : Way n (lns ds F) s S a q) {no : Bool} {m1 : Int} (hm : Much W a (itp (lns ds F) s q a) m1) (hm1 : m1 ≤ 1152921504606846976) (bl : H0.length ≤ hl')
    {H : AHeap} (uf : UF hu hf hw n ds F W H) (ol : AHeap.obj H hl' = some ⟨3, 1, ic (li q fun u => s.last (itp (lns ds F) s u a))⟩) (kp : ∀ i, i < H0.length → AHeap.obj H i = AHeap.obj H0 i) (hlen : H0.length ≤ H.length) :
    awp Try.prog ir126r (fnPost [(.tmp 6)] (Stepped hu hf hw n ds w T F W no H0)) [(0, .ptr hu 1 0 0), (1, I a), (8, .ro true (ic (usedL F ds.length))), (11, .own hl' q 0 q), (12, I (itp (lns ds F) s q a)), (13, I m1)] H := by
  have hwt := hg.w
  have hul := usedL_length (F := F) ds.length
  have hgl := lns_good (F := F) hg (by omega)
  have hqn := hq.lt
  have hn20 := hg.small
  have hsm : s.last = s.last := rfl
  unfold ir126r
  simp only [walkS, wl, rgets, retv, argsEnv, ev, cst, cst1, cstL, AEnv.get, AEnv.trim, envput, qstep, abin, aun, evs, evo, deref, qload, target, if_true, if_false, Nat.reduceEqDiff, reduceIte, Nat.reduceAdd, AV.cells, AV.isTuple, setMany, alen, aiaddr, afill, Nat.reduceLeDiff, Nat.reduceMul, Nat.reduceLT, afillE, List.replicate, ol, ic_length, li_length]
  refine awp_loop (σ := Nat) (fun t => [(0, .ptr hu 1 0 0), (1, I a), (8, .ro true (ic (usedL F ds.length))), (11, .own hl' q 0 q), (12, I (itp (lns ds F) s q a)), (13, I (mmin ds F s a m1 t)), (80, .own hl' q 0 q), (81, I q), (82, I t)]) (fun _ H => UF hu hf hw n ds F W H ∧ AHeap.obj H hl' = some ⟨3, 1, ic (li q fun u => s.last (itp (lns ds F) s u a))⟩ ∧ (∀ i, i < H0.length → AHeap.obj H i = AHeap.obj H0 i) ∧ H0.length ≤ H.length) (fun t => t ≤ q) (fun t => q - t) 0 (Nat.zero_le _) rfl ⟨uf, ol, kp, hlen⟩ ?_
  clear uf ol kp hlen H
  rintro t H ht ⟨uf, ol, kp, hlen⟩
  simp only [walkS, wl, rgets, retv, argsEnv, ev, cst, cst1, cstL, AEnv.get, AEnv.trim, envput, qstep, abin, aun, evs, evo, deref, qload, target, if_true, if_false, Nat.reduceEqDiff, reduceIte, Nat.reduceAdd, AV.cells, AV.isTuple, setMany, alen, aiaddr, afill, Nat.reduceLeDiff, Nat.reduceMul, Nat.reduceLT, afillE, List.replicate]
  refine withBool_intro ?_ ?_ <;> intro hb <;> simp only [walkS, wl, rgets, retv, argsEnv, ev, cst, cst1, cstL, AEnv.get, AEnv.trim, envput, qstep, abin, aun, evs, evo, deref, qload, target, if_true, if_false, Nat.reduceEqDiff, reduceIte, Nat.reduceAdd, AV.cells, AV.isTuple, setMany, alen, aiaddr, afill, Nat.reduceLeDiff, Nat.reduceMul, Nat.reduceLT, afillE, List.replicate]
  · have hlt : t < q := by simpa using hb
    have hop := hq.hop hlt
    have hplt := hop.lt
    rw [lns_length] at hplt
    simp only [walkS, wl, rgets, retv, argsEnv, ev, cst, cst1, cstL, AEnv.get, AEnv.trim, envput, qstep, abin, aun, evs, evo, deref, qload, target, if_true, if_false, Nat.reduceEqDiff, reduceIte, Nat.reduceAdd, AV.cells, AV.isTuple, setMany, alen, aiaddr, afill, Nat.reduceLeDiff, Nat.reduceMul, Nat.reduceLT, afillE, List.replicate, ol, li_get hlt, ic_length, li_length, if_pos (show (t : Int) < q by omega), hop.last, uf.ou, rows_length]
    by_cases hk : pth (lns ds F) s a t < ds.length
    · have e1 : decide (((pth (lns ds F) s a t : Nat) : Int) ≥ (ds.length : Int)) = false := decide_eq_false (by omega)
      simp only [walkS, wl, rgets, retv, argsEnv, ev, cst, cst1, cstL, AEnv.get, AEnv.trim, envput, qstep, abin, aun, evs, evo, deref, qload, target, if_true, if_false, Nat.reduceEqDiff, reduceIte, Nat.reduceAdd, AV.cells, AV.isTuple, setMany, alen, aiaddr, afill, Nat.reduceLeDiff, Nat.reduceMul, Nat.reduceLT, afillE, List.replicate, e1]
      rw [wrap_id (by omega) (by omega)]
      refine loop_end (t + 1) hlt (by omega) (by simp only [mmin, if_pos hk]; rfl) ⟨uf, ol, kp, hlen⟩
    · have e1 : decide (((pth (lns ds F) s a t : Nat) : Int) ≥ (ds.length : Int)) = true := decide_eq_true (by omega)
      have hc := hop.cas.resolve_left (fun h => hk h.1)
      have hjl := hop.jlt
      have e2 : ((pth (lns ds F) s a t : Nat) : Int) - (ds.length : Int) = ((pth (lns ds F) s a t - ds.length : Nat) : Int) := by omega
      have e3 : (ic (usedL F ds.length))[pth (lns ds F) s a t - ds.length]? = some [I (jx ds F (pth (lns ds F) s a t))] := by simp [ic, hc.2.2.2.2]
      have e4 : pth (lns ds F) s a t - ds.length < (usedL F ds.length).length := by omega
      simp only [walkS, wl, rgets, retv, argsEnv, ev, cst, cst1, cstL, AEnv.get, AEnv.trim, envput, qstep, abin, aun, evs, evo, deref, qload, target, if_true, if_false, Nat.reduceEqDiff, reduceIte, Nat.reduceAdd, AV.cells, AV.isTuple, setMany, alen, aiaddr, afill, Nat.reduceLeDiff, Nat.reduceMul, Nat.reduceLT, afillE, List.replicate, e1, uf.ou, uf.of, rows_length, e2, wrap_id (x := ((pth (lns ds F) s a t - ds.length : Nat) : Int)) (by omega) (by omega), ic_length, li_length, e3, if_pos (show ((pth (lns ds F) s a t - ds.length : Nat) : Int) < ((usedL F ds.length).length : Int) by omega), if_pos (show ((jx ds F (pth (lns ds F) s a t) : Nat) : Int) < ds.length by omega), li_get hjl]
      simp only [walkS, wl, rgets, retv, argsEnv, ev, cst, cst1, cstL, AEnv.get, AEnv.trim, envput, qstep, abin, aun, evs, evo, deref, qload, target, if_true, if_false, Nat.reduceEqDiff, reduceIte, Nat.reduceAdd, AV.cells, AV.isTuple, setMany, alen, aiaddr, afill, Nat.reduceLeDiff, Nat.reduceMul, Nat.reduceLT, afillE, List.replicate, amm_min]
      rw [wrap_id (by omega) (by omega)]
      refine loop_end (t + 1) hlt (by omega) (by simp only [mmin, if_neg hk]; rfl) ⟨uf, ol, kp, hlen⟩
  · have htq : t = q := by simp at hb; omega
    subst htq
    have hcp := mmin_pos hq hm.pos t (Nat.le_refl _)
    have hcl := mmin_le (ds := ds) (F := F) (s := s) (a := a) (c := m1) t
    have hcb := fun u => mmin_back (ds := ds) (F := F) (s := s) (a := a) (c := m1) t u
    obtain ⟨c, hce⟩ : ∃ c, c = mmin ds F s a m1 t := ⟨_, rfl⟩
    rw [← hce] at hcp hcl hcb ⊢
    have hmc : Much W a (itp (lns ds F) s t a) c := ⟨hcp, hm.ne, fun h => by have := hm.to h; omega, fun h => by have := hm.frm h; omega, hm.some⟩
    simp only [walkS, wl, rgets, retv, argsEnv, ev, cst, cst1, cstL, AEnv.get, AEnv.trim, envput, qstep, abin, aun, evs, evo, deref, qload, target, if_true, if_false, Nat.reduceEqDiff, reduceIte, Nat.reduceAdd, AV.cells, AV.isTuple, setMany, alen, aiaddr, afill, Nat.reduceLeDiff, Nat.reduceMul, Nat.reduceLT, afillE, List.replicate, ol, ic_length, li_length]
    refine awp_loop (σ := Nat) (fun u => [(0, .ptr hu 1 0 0), (1, I a), (8, .ro true (ic (usedL F ds.length))), (12, I (itp (lns ds F) s t a)), (13, I c), (114, .own hl' t 0 t), (115, I t), (116, I u)]) (fun u H => UF hu hf hw n ds (augs ds F s a c u) W H ∧ AHeap.obj H hl' = some ⟨3, 1, ic (li t fun u => s.last (itp (lns ds F) s u a))⟩ ∧ (∀ i, i < H0.length → i ≠ hf → AHeap.obj H i = AHeap.obj H0 i) ∧ H0.length ≤ H.length) (fun u => u ≤ t) (fun u => t - u) 0 (Nat.zero_le _) rfl ⟨uf, ol, fun i hi _ => kp i hi, hlen⟩ ?_
    clear uf ol kp hlen H
    rintro u H hut ⟨uf, ol, kp, hlen⟩
    simp only [walkS, wl, rgets, retv, argsEnv, ev, cst, cst1, cstL, AEnv.get, AEnv.trim, envput, qstep, abin, aun, evs, evo, deref, qload, target, if_true, if_false, Nat.reduceEqDiff, reduceIte, Nat.reduceAdd, AV.cells, AV.isTuple, setMany, alen, aiaddr, afill, Nat.reduceLeDiff, Nat.reduceMul, Nat.reduceLT, afillE, List.replicate]
    refine withBool_intro ?_ ?_ <;> intro hb <;> simp only [walkS, wl, rgets, retv, argsEnv, ev, cst, cst1, cstL, AEnv.get, AEnv.trim, envput, qstep, abin, aun, evs, evo, deref, qload, target, if_true, if_false, Nat.reduceEqDiff, reduceIte, Nat.reduceAdd, AV.cells, AV.isTuple, setMany, alen, aiaddr, afill, Nat.reduceLeDiff, Nat.reduceMul, Nat.reduceLT, afillE, List.replicate]
    · have hlt : u < t := by simpa using hb
      have hop := hq.hop hlt
      have hplt := hop.lt
      rw [lns_length] at hplt
      have hjl := hop.jlt
      obtain ⟨bb1, bb2, bb3, bb4⟩ := augs_bound hq (by omega : 0 ≤ c) (jx ds F (pth (lns ds F) s a u)) u hut
      have hF0 := inv.nonneg _ hjl
      have hFT := inv.cap _ hjl
      have hph := phi_nonneg (n := n) (W := W)
      simp only [walkS, wl, rgets, retv, argsEnv, ev, cst, cst1, cstL, AEnv.get, AEnv.trim, envput, qstep, abin, aun, evs, evo, deref, qload, target, if_true, if_false, Nat.reduceEqDiff, reduceIte, Nat.reduceAdd, AV.cells, AV.isTuple, setMany, alen, aiaddr, afill, Nat.reduceLeDiff, Nat.reduceMul, Nat.reduceLT, afillE, List.replicate, ol, li_get hlt, ic_length, li_length, if_pos (show (u : Int) < t by omega), hop.last, uf.ou, rows_length]
      by_cases hk : pth (lns ds F) s a u < ds.length
      · have e1 : decide (((pth (lns ds F) s a u : Nat) : Int) ≥ (ds.length : Int)) = false := decide_eq_false (by omega)
        have hj : jx ds F (pth (lns ds F) s a u) = pth (lns ds F) s a u := if_pos hk
        rw [hj] at bb1 bb2 bb3 bb4 hjl hF0 hFT
        simp only [walkS, wl, rgets, retv, argsEnv, ev, cst, cst1, cstL, AEnv.get, AEnv.trim, envput, qstep, abin, aun, evs, evo, deref, qload, target, if_true, if_false, Nat.reduceEqDiff, reduceIte, Nat.reduceAdd, AV.cells, AV.isTuple, setMany, alen, aiaddr, afill, Nat.reduceLeDiff, Nat.reduceMul, Nat.reduceLT, afillE, List.replicate, e1, uf.ou, uf.of, ic_length, li_length, if_pos (show ((pth (lns ds F) s a u : Nat) : Int) < ds.length by omega), li_get hjl]
        rw [wrap_id (x := augs ds F s a c u (pth (lns ds F) s a u) + c) (by omega) (by omega)]
        refine storeR rfl rfl uf.of (li_get hjl) ⟨by simp [ic_length, li_length], rfl, rfl, by simp⟩ fun H3 y1 y2 y3 => ?_
        simp only [AV.cells, setMany, List.set_cons_zero, li_set] at y2
        have ea : augs ds F s a c (u + 1) = upd (augs ds F s a c u) (pth (lns ds F) s a u) (augs ds F s a c u (pth (lns ds F) s a u) + c) := by
          show upd _ (jx ds F (pth (lns ds F) s a u)) (_ + if _ then _ else _) = _
          rw [if_pos hk, hj]
        simp only [walkS, wl, rgets, retv, argsEnv, ev, cst, cst1, cstL, AEnv.get, AEnv.trim, envput, qstep, abin, aun, evs, evo, deref, qload, target, if_true, if_false, Nat.reduceEqDiff, reduceIte, Nat.reduceAdd, AV.cells, AV.isTuple, setMany, alen, aiaddr, afill, Nat.reduceLeDiff, Nat.reduceMul, Nat.reduceLT, afillE, List.replicate]
        rw [wrap_id (by omega) (by omega)]
        refine loop_end (u + 1) hlt (by omega) rfl ⟨⟨(y3 _ d1).trans uf.ou, by rw [ea]; exact y2, (y3 _ (Ne.symm d3)).trans uf.ow⟩, (y3 _ (by omega)).trans ol, fun i hi hne => (y3 i hne).trans (kp i hi hne), by omega⟩
      · have e1 : decide (((pth (lns ds F) s a u : Nat) : Int) ≥ (ds.length : Int)) = true := decide_eq_true (by omega)
        have hc := hop.cas.resolve_left (fun h => hk h.1)
        have e2 : ((pth (lns ds F) s a u : Nat) : Int) - (ds.length : Int) = ((pth (lns ds F) s a u - ds.length : Nat) : Int) := by omega
        have e3 : (ic (usedL F ds.length))[pth (lns ds F) s a u - ds.length]? = some [I (jx ds F (pth (lns ds F) s a u))] := by simp [ic, hc.2.2.2.2]
        simp only [walkS, wl, rgets, retv, argsEnv, ev, cst, cst1, cstL, AEnv.get, AEnv.trim, envput, qstep, abin, aun, evs, evo, deref, qload, target, if_true, if_false, Nat.reduceEqDiff, reduceIte, Nat.reduceAdd, AV.cells, AV.isTuple, setMany, alen, aiaddr, afill, Nat.reduceLeDiff, Nat.reduceMul, Nat.reduceLT, afillE, List.replicate, e1, uf.ou, uf.of, rows_length, e2, wrap_id (x := ((pth (lns ds F) s a u - ds.length : Nat) : Int)) (by omega) (by omega), ic_length, li_length, e3, if_pos (show ((pth (lns ds F) s a u - ds.length : Nat) : Int) < ((usedL F ds.length).length : Int) by omega), if_pos (show ((jx ds F (pth (lns ds F) s a u) : Nat) : Int) < ds.length by omega), li_get hjl]
        rw [wrap_id (x := augs ds F s a c u (jx ds F (pth (lns ds F) s a u)) - c) (by omega) (by omega)]
        refine storeR rfl rfl uf.of (li_get hjl) ⟨by simp [ic_length, li_length], rfl, rfl, by simp⟩ fun H3 y1 y2 y3 => ?_
        simp only [AV.cells, setMany, List.set_cons_zero, li_set] at y2
        have ea : augs ds F s a c (u + 1) = upd (augs ds F s a c u) (jx ds F (pth (lns ds F) s a u)) (augs ds F s a c u (jx ds F (pth (lns ds F) s a u)) - c) := by
          show upd _ (jx ds F (pth (lns ds F) s a u)) (_ + if _ then _ else _) = _
          rw [if_neg hk]; rfl
        simp only [walkS, wl, rgets, retv, argsEnv, ev, cst, cst1, cstL, AEnv.get, AEnv.trim, envput, qstep, abin, aun, evs, evo, deref, qload, target, if_true, if_false, Nat.reduceEqDiff, reduceIte, Nat.reduceAdd, AV.cells, AV.isTuple, setMany, alen, aiaddr, afill, Nat.reduceLeDiff, Nat.reduceMul, Nat.reduceLT, afillE, List.replicate]
        rw [wrap_id (by omega) (by omega)]
        refine loop_end (u + 1) hlt (by omega) rfl ⟨⟨(y3 _ d1).trans uf.ou, by rw [ea]; exact y2, (y3 _ (Ne.symm d3)).trans uf.ow⟩, (y3 _ (by omega)).trans ol, fun i hi hne => (y3 i hne).trans (kp i hi hne), by omega⟩
    · have hue : u = t := by simp at hb; omega
      subst hue
      have ha := hq.node
      have hr : itp (lns ds F) s u a < n := hq.itp_lt hgl u (Nat.le_refl _)
      have mv := move hg (by omega) inv (S := S) (a := a) (q := u) (c := c) (by rw [← hs]; exact hcalm) (by rw [← hs]; exact hq) (by rw [← hs]; exact hmc) (by rw [← hs]; exact hcb)
      rw [← hs] at mv
      have mp := shiftW_phi (n := n) hmc ha hr
      have ms := fun v => shiftW_signs hmc (v := v)
      generalize itp (lns ds F) s u a = r at hr hmc mv mp ms ⊢
      have hne := hmc.ne
      have fin : ∀ H', UF hu hf hw n ds (augs ds F s a c u) (shiftW W a r c) H' → H0.length ≤ H'.length → (∀ i, i < H0.length → i ≠ hf → i ≠ hw → AHeap.obj H' i = AHeap.obj H0 i) → Stepped hu hf hw n ds w T F W no H0 (.bool true) H' := fun H' g1 g2 g3 =>
        ⟨g2, g3, .inr ⟨rfl, _, _, g1, mv, by omega, fun v hv => ms v hv⟩⟩
      by_cases h1 : a = 0
      · have e1 : ((a : Int) != 0) = false := by simp [h1]
        have h2 : r ≠ 0 := by omega
        have e2 : ((r : Int) != 0) = true := by simp [h2]
        have hb1 := W_bound (W := W) hr (by omega)
        simp only [walkS, wl, rgets, retv, argsEnv, ev, cst, cst1, cstL, AEnv.get, AEnv.trim, envput, qstep, abin, aun, evs, evo, deref, qload, target, if_true, if_false, Nat.reduceEqDiff, reduceIte, Nat.reduceAdd, AV.cells, AV.isTuple, setMany, alen, aiaddr, afill, Nat.reduceLeDiff, Nat.reduceMul, Nat.reduceLT, afillE, List.replicate, e1, e2, uf.ou, uf.ow, ic_length, li_length, li_get hr, if_pos (show (r : Int) < n by omega)]
        rw [wrap_id (x := W r + c) (by omega) (by omega)]
        refine storeR rfl rfl uf.ow (li_get hr) ⟨by simp [ic_length, li_length], rfl, rfl, by simp⟩ fun H3 y1 y2 y3 => ?_
        simp only [AV.cells, setMany, List.set_cons_zero, li_set] at y2
        simp only [walkS, wl, rgets, retv, argsEnv, ev, cst, cst1, cstL, AEnv.get, AEnv.trim, envput, qstep, abin, aun, evs, evo, deref, qload, target, if_true, if_false, Nat.reduceEqDiff, reduceIte, Nat.reduceAdd, AV.cells, AV.isTuple, setMany, alen, aiaddr, afill, Nat.reduceLeDiff, Nat.reduceMul, Nat.reduceLT, afillE, List.replicate]
        have ew : shiftW W a r c = upd W r (W r + c) := by simp only [shiftW, if_pos h1, if_neg h2]
        exact fin _ ⟨(y3 _ d2).trans uf.ou, (y3 _ d3).trans uf.of, by rw [ew]; exact y2⟩ (by omega) fun i hi k1 k2 => (y3 i k2).trans (kp i hi k1)
      · have e1 : ((a : Int) != 0) = true := by simp [h1]
        have hb1 := W_bound (W := W) ha (by omega)
        have hta := hmc.to h1
        simp only [walkS, wl, rgets, retv, argsEnv, ev, cst, cst1, cstL, AEnv.get, AEnv.trim, envput, qstep, abin, aun, evs, evo, deref, qload, target, if_true, if_false, Nat.reduceEqDiff, reduceIte, Nat.reduceAdd, AV.cells, AV.isTuple, setMany, alen, aiaddr, afill, Nat.reduceLeDiff, Nat.reduceMul, Nat.reduceLT, afillE, List.replicate, e1, uf.ou, uf.ow, ic_length, li_length, li_get ha, if_pos (show (a : Int) < n by omega)]
        rw [wrap_id (x := W a - c) (by omega) (by omega)]
        refine storeR rfl rfl uf.ow (li_get ha) ⟨by simp [ic_length, li_length], rfl, rfl, by simp⟩ fun H3 y1 y2 y3 => ?_
        simp only [AV.cells, setMany, List.set_cons_zero, li_set] at y2
        have uf3 : UF hu hf hw n ds (augs ds F s a c u) (upd W a (W a - c)) H3 := ⟨(y3 _ d2).trans uf.ou, (y3 _ d3).trans uf.of, y2⟩
        by_cases h2 : r = 0
        · have e2 : ((r : Int) != 0) = false := by simp [h2]
          simp only [walkS, wl, rgets, retv, argsEnv, ev, cst, cst1, cstL, AEnv.get, AEnv.trim, envput, qstep, abin, aun, evs, evo, deref, qload, target, if_true, if_false, Nat.reduceEqDiff, reduceIte, Nat.reduceAdd, AV.cells, AV.isTuple, setMany, alen, aiaddr, afill, Nat.reduceLeDiff, Nat.reduceMul, Nat.reduceLT, afillE, List.replicate, e2]
          have ew : shiftW W a r c = upd W a (W a - c) := by simp only [shiftW, if_pos h2, if_neg h1]
          exact fin _ (by rw [ew]; exact uf3) (by omega) fun i hi k1 k2 => (y3 i k2).trans (kp i hi k1)
        · have e2 : ((r : Int) != 0) = true := by simp [h2]
          have hb2 := W_bound (W := W) hr (by omega)
          have evr : upd W a (W a - c) r = W r := upd_ne (Ne.symm hne)
          simp only [walkS, wl, rgets, retv, argsEnv, ev, cst, cst1, cstL, AEnv.get, AEnv.trim, envput, qstep, abin, aun, evs, evo, deref, qload, target, if_true, if_false, Nat.reduceEqDiff, reduceIte, Nat.reduceAdd, AV.cells, AV.isTuple, setMany, alen, aiaddr, afill, Nat.reduceLeDiff, Nat.reduceMul, Nat.reduceLT, afillE, List.replicate, e2, uf3.ou, uf3.ow, ic_length, li_length, li_get hr, if_pos (show (r : Int) < n by omega), evr]
          rw [wrap_id (x := W r + c) (by omega) (by omega)]
          refine storeR rfl rfl uf3.ow (li_get hr) ⟨by simp [ic_length, li_length], rfl, rfl, by simp⟩ fun H4 z1 z2 z3 => ?_
          simp only [AV.cells, setMany, List.set_cons_zero, li_set] at z2
          simp only [walkS, wl, rgets, retv, argsEnv, ev, cst, cst1, cstL, AEnv.get, AEnv.trim, envput, qstep, abin, aun, evs, evo, deref, qload, target, if_true, if_false, Nat.reduceEqDiff, reduceIte, Nat.reduceAdd, AV.cells, AV.isTuple, setMany, alen, aiaddr, afill, Nat.reduceLeDiff, Nat.reduceMul, Nat.reduceLT, afillE, List.replicate]
          have ew : shiftW W a r c = upd (upd W a (W a - c)) r (W r + c) := by simp only [shiftW, if_neg h1, if_neg h2, evr]
          exact fin _ ⟨(z3 _ d2).trans uf3.ou, (z3 _ d3).trans uf3.of, by rw [ew]; exact z2⟩ (by omega) fun i hi k1 k2 => by rw [z3 i k2, y3 i k2, kp i hi k1]
end Go.Proofs.Ytepnijjgdhldeaa
/- A use of differences: one walk more, part 3. -/
namespace Go.Proofs.Ytepnijjgdhldeaa
open Go.Awp
set_option linter.unusedSimpArgs false
set_option linter.unusedVariables false
set_option maxRecDepth 10000
set_option maxHeartbeats 8000000
theorem step_at {hu hf hw n : Nat} {ds : List Df} {F W w : Nat → Int} {T : Int} (hg : Good n ds) (hl : ds.length ≤ 60) (inv : Inv n ds w T F W) (hT : T ≤ 1048576) (hphi : phi n W ≤ 1048576) {H0 : AHeap} (uf0 : UF hu hf hw n ds F W H0) (d1 : hu ≠ hf) (d2 : hu ≠ hw) (d3 : hf ≠ hw)
    {a : Nat} (ha : a < n) {l : List Int} (hin : ∀ i, i ∈ l → 0 ≤ i ∧ i < n) (hll : l.length ≤ 1048576) {fa : AV} (hfa : ∀ H, (∀ i, i < H0.length → AHeap.obj H i = AHeap.obj H0 i) → carry false H 6 fa = some (.ro false (ic l)))
    (hS : marksOf l a = false) (ok : a ≠ 0 → 0 < W a) (okr : ∀ r, marksOf l r = true → r ≠ 0 → W r < 0) (oks : a ≠ 0 ∨ marksOf l 0 = false) :
    ACall Try.prog 126 [.ptr hu 1 0 0, I a, fa] H0 (Stepped hu hf hw n ds w T F W (!(lens n (lns ds F) (marksOf l)).1.has a) H0) := by
  have hwt := hg.w
  have hgl := lns_good (F := F) hg (by omega)
  obtain ⟨hgr, hcalm⟩ := inv.grown hg (by omega) (marksOf l)
  refine ACall.intro text126 (by simp) ?_
  rw [ir126_eq]
  simp only [walkS, wl, rgets, retv, argsEnv, ev, cst, cst1, cstL, AEnv.get, AEnv.trim, envput, qstep, abin, aun, evs, evo, deref, qload, target, if_true, if_false, Nat.reduceEqDiff, reduceIte, Nat.reduceAdd, AV.cells, AV.isTuple, setMany, alen, aiaddr, afill, Nat.reduceLeDiff, Nat.reduceMul, Nat.reduceLT, afillE, List.replicate]
  refine call_pure (lines130 (by omega) hwt) (frzL_of' (d := 5) (carL_cons uf0.car rfl)) ?_
  simp only [walkS, wl, rgets, retv, argsEnv, ev, cst, cst1, cstL, AEnv.get, AEnv.trim, envput, qstep, abin, aun, evs, evo, deref, qload, target, if_true, if_false, Nat.reduceEqDiff, reduceIte, Nat.reduceAdd, AV.cells, AV.isTuple, setMany, alen, aiaddr, afill, Nat.reduceLeDiff, Nat.reduceMul, Nat.reduceLT, afillE, List.replicate]
  refine call_pure (used131 (by omega)) (frzL_of' (d := 5) (carL_cons uf0.car rfl)) ?_
  simp only [walkS, wl, rgets, retv, argsEnv, ev, cst, cst1, cstL, AEnv.get, AEnv.trim, envput, qstep, abin, aun, evs, evo, deref, qload, target, if_true, if_false, Nat.reduceEqDiff, reduceIte, Nat.reduceAdd, AV.cells, AV.isTuple, setMany, alen, aiaddr, afill, Nat.reduceLeDiff, Nat.reduceMul, Nat.reduceLT, afillE, List.replicate]
  refine call_pure (growP hgl (by omega) hwt hin hll) (frzL_of' (d := 6) (carL_cons (car_iface uf0.car) (carL_cons (hfa _ fun _ _ => rfl) rfl))) ?_
  rw [hgr]
  have hroot : ∀ v, (lens n (lns ds F) (marksOf l)).1.has v = true → True := fun _ _ => trivial
  obtain ⟨s, hs⟩ : ∃ s, s = (lens n (lns ds F) (marksOf l)).1 := ⟨_, rfl⟩
  rw [← hs] at hcalm ⊢
  have hul := usedL_length (F := F) ds.length
  unfold treeV
  simp only [walkS, wl, rgets, retv, argsEnv, ev, cst, cst1, cstL, AEnv.get, AEnv.trim, envput, qstep, abin, aun, evs, evo, deref, qload, target, if_true, if_false, Nat.reduceEqDiff, reduceIte, Nat.reduceAdd, AV.cells, AV.isTuple, setMany, alen, aiaddr, afill, Nat.reduceLeDiff, Nat.reduceMul, Nat.reduceLT, afillE, List.replicate]
  refine storeR rfl rfl AHeap.obj_push_eq rfl ⟨rfl, rfl, rfl, by simp⟩ fun H1 y1 y2 y3 => ?_
  simp only [AV.cells, setMany, List.set_cons_zero, List.set_cons_succ, Nat.zero_add, Nat.reduceAdd] at y2
  have hL1 : H1.length = H0.length + 1 := by rw [y1]; simp
  have back : ∀ q, q < H0.length → AHeap.obj H1 q = AHeap.obj H0 q := fun q hq => by rw [y3 q (by omega), AHeap.obj_push_lt hq]
  have uf1 := uf0.keep back
  simp only [walkS, wl, rgets, retv, argsEnv, ev, cst, cst1, cstL, AEnv.get, AEnv.trim, envput, qstep, abin, aun, evs, evo, deref, qload, target, if_true, if_false, Nat.reduceEqDiff, reduceIte, Nat.reduceAdd, AV.cells, AV.isTuple, setMany, alen, aiaddr, afill, Nat.reduceLeDiff, Nat.reduceMul, Nat.reduceLT, afillE, List.replicate, y2, lb_get ha, bc_length, lb_length, if_pos (show (a : Int) < n by omega)]
  cases hh : s.has a with
  | false =>
    simp only [walkS, wl, rgets, retv, argsEnv, ev, cst, cst1, cstL, AEnv.get, AEnv.trim, envput, qstep, abin, aun, evs, evo, deref, qload, target, if_true, if_false, Nat.reduceEqDiff, reduceIte, Nat.reduceAdd, AV.cells, AV.isTuple, setMany, alen, aiaddr, afill, Nat.reduceLeDiff, Nat.reduceMul, Nat.reduceLT, afillE, List.replicate, Bool.not_false]
    exact ⟨by omega, fun i hi _ _ => back i hi, .inl ⟨rfl, rfl, uf1⟩⟩
  | true =>
    simp only [walkS, wl, rgets, retv, argsEnv, ev, cst, cst1, cstL, AEnv.get, AEnv.trim, envput, qstep, abin, aun, evs, evo, deref, qload, target, if_true, if_false, Nat.reduceEqDiff, reduceIte, Nat.reduceAdd, AV.cells, AV.isTuple, setMany, alen, aiaddr, afill, Nat.reduceLeDiff, Nat.reduceMul, Nat.reduceLT, afillE, List.replicate, Bool.not_true]
    obtain ⟨q, hq⟩ := way_of hgl (by rw [← hs]; exact hcalm) ha (by rw [← hs]; exact hh)
    rw [← hs] at hq
    have hqpos : 0 < q := by
      rcases Nat.eq_zero_or_pos q with h | h
      · subst h
        have := hq.root
        rw [show itp (lns ds F) s 0 a = a from rfl, hS] at this; cases this
      · exact h
    have hqn := hq.lt
    have hn20 := hg.small
    refine awp_loop (σ := Nat × AV) (fun u => [(0, .ptr hu 1 0 0), (1, I a), (7, .ro true (rows (lns ds F))), (8, .ro true (ic (usedL F ds.length))), (9, .ptr H0.length 1 0 0), (11, u.2), (12, I (itp (lns ds F) s u.1 a))])
      (fun u H => UF hu hf hw n ds F W H ∧ AHeap.obj H H0.length = some ⟨88, 3, [[.ro true (ic (li n s.long)), .ro true (bc (lb n s.has)), .ro true (ic (li n s.last))]]⟩ ∧ (∀ i, i < H0.length → AHeap.obj H i = AHeap.obj H0 i) ∧ H1.length ≤ H.length ∧ Acc H1.length H u.2 3 1 (ic (li u.1 fun t => s.last (itp (lns ds F) s t a))))
      (fun u => u.1 ≤ q) (fun u => q - u.1) (0, .nilSlice) (Nat.zero_le _) rfl ⟨uf1, y2, back, Nat.le_refl _, .inl ⟨rfl, rfl⟩⟩ ?_
    rintro ⟨t, acc⟩ H ht ⟨uf, ob, kp, hlen, hacc⟩
    simp only at ht hacc
    have hat := hq.itp_lt hgl t ht
    simp only [walkS, wl, rgets, retv, argsEnv, ev, cst, cst1, cstL, AEnv.get, AEnv.trim, envput, qstep, abin, aun, evs, evo, deref, qload, target, if_true, if_false, Nat.reduceEqDiff, reduceIte, Nat.reduceAdd, AV.cells, AV.isTuple, setMany, alen, aiaddr, afill, Nat.reduceLeDiff, Nat.reduceMul, Nat.reduceLT, afillE, List.replicate, ob, li_get hat, ic_length, li_length, if_pos (show ((itp (lns ds F) s t a : Nat) : Int) < n by omega)]
    by_cases htq : t = q
    · subst htq
      have hneg : decide (s.last (itp (lns ds F) s t a) ≥ 0) = false := decide_eq_false (by have := hq.stop; omega)
      obtain ⟨hl', r1, rfl, r3⟩ := hacc.resolve_left (by intro h; have := congrArg List.length h.1; rw [ic_length, li_length] at this; simp at this; omega)
      simp only [ic_length, li_length]
      have hr0 := hq.root
      have hrn := hat
      have hne : a ≠ itp (lns ds F) s t a := fun e => by rw [← e, hS] at hr0; cases hr0
      have hphn := phi_nonneg (n := n) (W := W)
      have rest : ∀ m1, Much W a (itp (lns ds F) s t a) m1 → m1 ≤ 1152921504606846976 → awp Try.prog ir126r (fnPost [(.tmp 6)] (Stepped hu hf hw n ds w T F W (!true) H0)) [(0, .ptr hu 1 0 0), (1, I a), (8, .ro true (ic (usedL F ds.length))), (11, .own hl' t 0 t), (12, I (itp (lns ds F) s t a)), (13, I m1)] H := fun m1 k1 k2 =>
        step_rest hg hl inv hT hphi d1 d2 d3 (AHeap.obj_lt uf0.ou) (AHeap.obj_lt uf0.of) (AHeap.obj_lt uf0.ow) hs hcalm hq k1 k2 (by omega) uf r3 kp (by omega)
      by_cases h1 : a = 0
      · have e1 : ((a : Int) != 0) = false := by simp [h1]
        have h2 : itp (lns ds F) s t a ≠ 0 := by omega
        have e2 : (((itp (lns ds F) s t a : Nat) : Int) != 0) = true := by simp [h2]
        have hW := okr _ hr0 h2
        have hb := W_bound (W := W) hrn (by omega)
        simp only [walkS, wl, rgets, retv, argsEnv, ev, cst, cst1, cstL, AEnv.get, AEnv.trim, envput, qstep, abin, aun, evs, evo, deref, qload, target, if_true, if_false, Nat.reduceEqDiff, reduceIte, Nat.reduceAdd, AV.cells, AV.isTuple, setMany, alen, aiaddr, afill, Nat.reduceLeDiff, Nat.reduceMul, Nat.reduceLT, afillE, List.replicate, hneg, e1, e2, uf.ou, uf.ow, ic_length, li_length, li_get hrn, if_pos (show ((itp (lns ds F) s t a : Nat) : Int) < n by omega), amm_min]
        rw [wrap_id (x := 0 - W (itp (lns ds F) s t a)) (by omega) (by omega)]
        exact rest _ ⟨by omega, hne, fun h => absurd h1 h, fun _ => by omega, .inr h2⟩ (by omega)
      · have e1 : ((a : Int) != 0) = true := by simp [h1]
        have hWa := ok h1
        have hba := W_bound (W := W) ha (by omega)
        by_cases h2 : itp (lns ds F) s t a = 0
        · have e2 : (((itp (lns ds F) s t a : Nat) : Int) != 0) = false := by simp [h2]
          simp only [walkS, wl, rgets, retv, argsEnv, ev, cst, cst1, cstL, AEnv.get, AEnv.trim, envput, qstep, abin, aun, evs, evo, deref, qload, target, if_true, if_false, Nat.reduceEqDiff, reduceIte, Nat.reduceAdd, AV.cells, AV.isTuple, setMany, alen, aiaddr, afill, Nat.reduceLeDiff, Nat.reduceMul, Nat.reduceLT, afillE, List.replicate, hneg, e1, e2, uf.ou, uf.ow, ic_length, li_length, li_get ha, if_pos (show (a : Int) < n by omega)]
          exact rest _ ⟨hWa, hne, fun _ => Int.le_refl _, fun h => absurd h2 h, .inl h1⟩ (by omega)
        · have e2 : (((itp (lns ds F) s t a : Nat) : Int) != 0) = true := by simp [h2]
          have hW := okr _ hr0 h2
          have hb := W_bound (W := W) hrn (by omega)
          simp only [walkS, wl, rgets, retv, argsEnv, ev, cst, cst1, cstL, AEnv.get, AEnv.trim, envput, qstep, abin, aun, evs, evo, deref, qload, target, if_true, if_false, Nat.reduceEqDiff, reduceIte, Nat.reduceAdd, AV.cells, AV.isTuple, setMany, alen, aiaddr, afill, Nat.reduceLeDiff, Nat.reduceMul, Nat.reduceLT, afillE, List.replicate, hneg, e1, e2, uf.ou, uf.ow, ic_length, li_length, li_get ha, li_get hrn, if_pos (show (a : Int) < n by omega), if_pos (show ((itp (lns ds F) s t a : Nat) : Int) < n by omega), amm_min]
          rw [wrap_id (x := 0 - W (itp (lns ds F) s t a)) (by omega) (by omega)]
          exact rest _ ⟨by omega, hne, fun _ => by omega, fun _ => by omega, .inl h1⟩ (by omega)
    · have hlt : t < q := by omega
      have hop := hq.hop hlt
      have hplt := hop.lt
      have hge : decide (s.last (itp (lns ds F) s t a) ≥ 0) = true := decide_eq_true (by rw [hop.last]; omega)
      simp only [walkS, wl, rgets, retv, argsEnv, ev, cst, cst1, cstL, AEnv.get, AEnv.trim, envput, qstep, abin, aun, evs, evo, deref, qload, target, if_true, if_false, Nat.reduceEqDiff, reduceIte, Nat.reduceAdd, AV.cells, AV.isTuple, setMany, alen, aiaddr, afill, Nat.reduceLeDiff, Nat.reduceMul, Nat.reduceLT, afillE, List.replicate, hge, ob, li_get hat, ic_length, li_length, if_pos (show ((itp (lns ds F) s t a : Nat) : Int) < n by omega)]
      refine acc_append (lo := H1.length) (by simp; omega) (hacc.push _) rfl rfl AHeap.obj_push_eq (by simp only [ic_length, li_length]; omega) fun a' H' hl2 hacc' hkeep => ?_
      simp only [List.length_append, List.length_cons, List.length_nil] at hl2
      have e : ∀ i, i < H1.length → AHeap.obj H' i = AHeap.obj H i := fun i hi => by rw [hkeep i hi, AHeap.obj_push_lt (by omega)]
      rw [li_snoc (f := fun t => s.last (itp (lns ds F) s t a))] at hacc'
      have uf' : UF hu hf hw n ds F W H' := ⟨(e _ (by have := AHeap.obj_lt uf0.ou; omega)).trans uf.ou, (e _ (by have := AHeap.obj_lt uf0.of; omega)).trans uf.of, (e _ (by have := AHeap.obj_lt uf0.ow; omega)).trans uf.ow⟩
      have ob' := (e H0.length (by omega)).trans ob
      have hd : ∃ d, (lns ds F)[pth (lns ds F) s a t]? = some d ∧ fr d = itp (lns ds F) s (t + 1) a := ⟨_, hop.row, hop.frm⟩
      obtain ⟨d, hd1, hd2⟩ := hd
      have hfr : ((fr d : Nat) : Int) = d.1 := Int.toNat_of_nonneg (hgl.fit.ge1 d (List.mem_of_getElem? hd1))
      have hrow : (rows (lns ds F))[pth (lns ds F) s a t]? = some [I d.1, I d.2.1, I d.2.2] := by simp [rows, hd1, dc]
      simp only [walkS, wl, rgets, retv, argsEnv, ev, cst, cst1, cstL, AEnv.get, AEnv.trim, envput, qstep, abin, aun, evs, evo, deref, qload, target, if_true, if_false, Nat.reduceEqDiff, reduceIte, Nat.reduceAdd, AV.cells, AV.isTuple, setMany, alen, aiaddr, afill, Nat.reduceLeDiff, Nat.reduceMul, Nat.reduceLT, afillE, List.replicate, ob', li_get hat, ic_length, li_length, if_pos (show ((itp (lns ds F) s t a : Nat) : Int) < n by omega), hop.last, rows_length, hrow, if_pos (show ((pth (lns ds F) s a t : Nat) : Int) < ((lns ds F).length : Int) by omega)]
      rw [← hfr, hd2]
      exact loop_end (t + 1, a') hlt (by simp only; omega) rfl ⟨uf', ob', fun i hi => (e i (by omega)).trans (kp i hi), by omega, hacc'⟩
end Go.Proofs.Ytepnijjgdhldeaa
