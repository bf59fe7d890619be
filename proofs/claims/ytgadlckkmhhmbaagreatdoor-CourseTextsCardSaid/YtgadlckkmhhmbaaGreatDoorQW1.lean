/- Plain facts about texts: words between signs. -/
import Derived.Test.YtgadlckkmhhmbaaGreatDoorA7
import Derived.Lib.SplitLaws
import Derived.Lib.Split
import Derived.Shelf.Strings.Split
import Derived.Shelf.Strconv.AtoiAll
import Derived.Test.YtgadlckkmhhmbaaGreatDoorQBf
import Derived.Test.YtgadlckkmhhmbaaGreatDoorQFx
set_option linter.unusedVariables false
set_option linter.unusedSimpArgs false
set_option linter.unusedSectionVars false
namespace Go.Awp
set_option linter.unusedSimpArgs false
set_option linter.unusedVariables false
def consH (x : UInt8) : List (List UInt8) → List (List UInt8)
  | h :: t => (x :: h) :: t
  | [] => [[x]]
/-- The words of a text between signs. -/
def splR (c : UInt8) : List UInt8 → List (List UInt8)
  | [] => [[]]
  | x :: r => if x = c then [] :: splR c r else consH x (splR c r)
def consL (cur : List UInt8) : List (List UInt8) → List (List UInt8)
  | h :: t => (cur ++ h) :: t
  | [] => [cur]
theorem splR_ne (c : UInt8) : ∀ l, splR c l ≠ []
  | [] => by simp [splR]
  | x :: r => by
    unfold splR
    split
    · simp
    · cases splR c r <;> simp [consH]
theorem consL_nil {L : List (List UInt8)} (h : L ≠ []) : consL [] L = L := by
  cases L with
  | nil => exact absurd rfl h
  | cons a t => rfl
theorem consL_consH {cur : List UInt8} {x : UInt8} {L : List (List UInt8)} (h : L ≠ []) : consL cur (consH x L) = consL (cur ++ [x]) L := by
  cases L with
  | nil => exact absurd rfl h
  | cons a t => simp [consL, consH]
theorem splitK_cons {c x : UInt8} (hx : x ≠ c) : ∀ (k : Nat) (r : List UInt8), Lib.splitK [c] 0 k (x :: r) = consH x (Lib.splitK [c] 0 k r)
  | 0, r => rfl
  | k + 1, r => by
    have hi : Lib.index (x :: r) [c] = if Lib.index r [c] == -1 then -1 else Lib.index r [c] + 1 := by
      have : ([c].isPrefixOf (x :: r)) = false := by simp [List.isPrefixOf, Ne.symm hx]
      rw [Lib.index, this]; rfl
    have hge : -1 ≤ Lib.index r [c] := by rw [Lib.index_one]; exact Lib.indexByte_ge r c
    unfold Lib.splitK
    rw [hi]
    by_cases h : (Lib.index r [c] == -1) = true
    · simp [h, consH]
    · have h' : Lib.index r [c] ≠ -1 := by simpa using h
      obtain ⟨i, hi2⟩ : ∃ i : Nat, Lib.index r [c] = i := ⟨(Lib.index r [c]).toNat, by omega⟩
      rw [hi2]
      have e1 : ((i : Int) == -1) = false := by simp
      have e2 : ((i : Int) + 1 == -1) = false := by simp; omega
      have e3 : ((i : Int) + 1).toNat = i + 1 := by omega
      simp [e1, e2, e3, consH, Nat.add_assoc]
theorem splitK_hit (c : UInt8) (k : Nat) (r : List UInt8) : Lib.splitK [c] 0 (k + 1) (c :: r) = [] :: Lib.splitK [c] 0 k r := by
  have hi : Lib.index (c :: r) [c] = 0 := by
    have : ([c].isPrefixOf (c :: r)) = true := by simp [List.isPrefixOf]
    rw [Lib.index, this]; rfl
  show (if Lib.index (c :: r) [c] == -1 then [c :: r] else (c :: r).take ((Lib.index (c :: r) [c]).toNat + 0) :: Lib.splitK [c] 0 k ((c :: r).drop ((Lib.index (c :: r) [c]).toNat + [c].length))) = _
  rw [hi]; rfl
theorem split_splR (c : UInt8) : ∀ l : List UInt8, Lib.splitK [c] 0 (l.count c) l = splR c l
  | [] => rfl
  | x :: r => by
    unfold splR
    by_cases h : x = c
    · subst h
      rw [if_pos rfl, List.count_cons_self, splitK_hit, split_splR x r]
    · rw [if_neg h, List.count_cons_of_ne (by simpa using h), splitK_cons h, split_splR c r]
def ofL (l : List UInt8) : ByteArray := ⟨l.toArray⟩
theorem ofL_data (s : ByteArray) : ofL s.data.toList = s := by
  cases s; simp [ofL]
theorem data_ofL (l : List UInt8) : (ofL l).data.toList = l := by simp [ofL]
def wordsB (s : ByteArray) (c : UInt8) : List ByteArray := (splR c s.data.toList).map ofL
theorem splitB_words (s : ByteArray) (c : UInt8) : Lib.splitB ⟨#[c]⟩ 0 (Lib.countB s ⟨#[c]⟩) s = wordsB s c := by
  have h1 := Lib.splitB_data ⟨#[c]⟩ 0 (Lib.countB s ⟨#[c]⟩) s
  have h2 : Lib.countB s ⟨#[c]⟩ = s.data.toList.count c := by unfold Lib.countB; exact Lib.count_one c _
  rw [h2] at h1 ⊢
  rw [show (ByteArray.mk #[c]).data.toList = [c] from rfl, split_splR] at h1
  unfold wordsB
  rw [← h1, List.map_map]
  have : (ofL ∘ fun x : ByteArray => x.data.toList) = id := by funext x; exact ofL_data x
  rw [this, List.map_id]
theorem extract_list (s : ByteArray) (a b : Nat) : (s.extract a b).data.toList = (s.data.toList.take b).drop a := by
  rw [Lib.extract_data, List.drop_take]
end Go.Awp
/- Contracts: strings.Split, strconv.Atoi (the library's contracts at this program; the bodies are compared). -/
namespace Go.Proofs.YtgadlckkmhhmbaaGreatDoor
open Go.Shelf Go.Awp
set_option linter.unusedSimpArgs false
set_option linter.unusedVariables false
set_option maxRecDepth 100000
def laysn146_ren : Go.Shelf.Ren := ⟨fun | 146 => 33 | 221 => 60 | 268 => 72 | 138 => 73 | 143 => 74 | 195 => 81 | 197 => 82 | 218 => 83 | 219 => 84 | 260 => 92 | 217 => 93 | 225 => 94 | 224 => 95 | 267 => 96 | 266 => 104 | 314 => 105 | n => n, fun | 9 => 9 | 31 => 73 | 3 => 3 | 4 => 4 | 0 => 0 | 105 => 121 | 21 => 21 | 5 => 5 | 46 => 130 | 119 => 139 | 139 => 142 | 138 => 141 | 146 => 143 | 51 => 128 | n => n, fun | 1 => 1 | 3 => 2 | 4 => 3 | n => n⟩
theorem laysn146 : Go.Proofs.Lays.n146 Tryz.prog laysn146_ren := {
  mixed := by kernel_rfl
  f138 := Tryz.func73.trans (congrArg some (by kernel_rfl))
  f143 := Tryz.func74.trans (congrArg some (by kernel_rfl))
  f146 := Tryz.func33.trans (congrArg some (by kernel_rfl))
  f195 := Tryz.func81.trans (congrArg some (by kernel_rfl))
  f197 := Tryz.func82.trans (congrArg some (by kernel_rfl))
  f217 := Tryz.func93.trans (congrArg some (by kernel_rfl))
  f218 := Tryz.func83.trans (congrArg some (by kernel_rfl))
  f219 := Tryz.func84.trans (congrArg some (by kernel_rfl))
  f221 := Tryz.func60.trans (congrArg some (by kernel_rfl))
  f224 := Tryz.func95.trans (congrArg some (by kernel_rfl))
  f225 := Tryz.func94.trans (congrArg some (by kernel_rfl))
  f260 := Tryz.func92.trans (congrArg some (by kernel_rfl))
  f266 := Tryz.func104.trans (congrArg some (by kernel_rfl))
  f267 := Tryz.func96.trans (congrArg some (by kernel_rfl))
  f268 := Tryz.func72.trans (congrArg some (by kernel_rfl))
  f314 := Tryz.func105.trans (congrArg some (by kernel_rfl))
  t0 := Tryz.underlying0
  a0 := Tryz.isAgg0
  z0 := Tryz.sizeOf0
  v0 := Tryz.zeroValue0
  t3 := Tryz.underlying3
  a3 := Tryz.isAgg3
  z3 := Tryz.sizeOf3
  v3 := Tryz.zeroValue3
  t4 := Tryz.underlying4
  a4 := Tryz.isAgg4
  z4 := Tryz.sizeOf4
  v4 := Tryz.zeroValue4
  t5 := Tryz.underlying5
  a5 := Tryz.isAgg5
  z5 := Tryz.sizeOf5
  v5 := Tryz.zeroValue5
  t9 := Tryz.underlying9
  a9 := Tryz.isAgg9
  z9 := Tryz.sizeOf9
  v9 := Tryz.zeroValue9
  t21 := Tryz.underlying21
  a21 := Tryz.isAgg21
  z21 := Tryz.sizeOf21
  v21 := Tryz.zeroValue21
  t31 := Tryz.underlying73
  a31 := Tryz.isAgg73
  z31 := Tryz.sizeOf73
  v31 := Tryz.zeroValue73
  t46 := Tryz.underlying130
  a46 := Tryz.isAgg130
  z46 := Tryz.sizeOf130
  v46 := Tryz.zeroValue130
  t51 := Tryz.underlying128
  a51 := Tryz.isAgg128
  z51 := Tryz.sizeOf128
  v51 := Tryz.zeroValue128
  t105 := Tryz.underlying121
  a105 := Tryz.isAgg121
  z105 := Tryz.sizeOf121
  v105 := Tryz.zeroValue121
  t119 := Tryz.underlying139
  a119 := Tryz.isAgg139
  z119 := Tryz.sizeOf139
  t138 := Tryz.underlying141
  a138 := Tryz.isAgg141
  z138 := Tryz.sizeOf141
  v138 := Tryz.zeroValue141
  t139 := Tryz.underlying142
  a139 := Tryz.isAgg142
  z139 := Tryz.sizeOf142
  v139 := Tryz.zeroValue142
  t146 := Tryz.underlying143
  a146 := Tryz.isAgg143
  z146 := Tryz.sizeOf143
  v146 := Tryz.zeroValue143
  g1 := by kernel_rfl
  g3 := by kernel_rfl
  g4 := by kernel_rfl }
def layscn172_ren : Go.Shelf.Ren := ⟨fun | 172 => 75 | 244 => 85 | 245 => 86 | 247 => 97 | 279 => 98 | 280 => 99 | 281 => 100 | 282 => 101 | 287 => 106 | 316 => 107 | 171 => 32 | 205 => 108 | 321 => 109 | 322 => 110 | 243 => 59 | 246 => 71 | 283 => 77 | 284 => 78 | 285 => 79 | 286 => 80 | 129 => 88 | 317 => 87 | 318 => 89 | 319 => 90 | 320 => 91 | 337 => 102 | 338 => 103 | n => n, fun | 9 => 9 | 3 => 3 | 75 => 63 | 76 => 64 | 4 => 4 | 5 => 5 | 167 => 132 | 37 => 57 | 0 => 0 | 85 => 133 | 2 => 2 | 168 => 135 | 53 => 115 | 175 => 145 | 46 => 130 | 210 => 149 | 127 => 95 | 145 => 157 | 143 => 155 | 21 => 21 | 171 => 114 | 173 => 118 | 212 => 127 | 51 => 128 | 20 => 20 | 213 => 129 | 232 => 151 | 233 => 152 | 80 => 67 | n => n, fun | 15 => 4 | 16 => 5 | 17 => 0 | 18 => 6 | 19 => 7 | n => n⟩
theorem layscn172 : Go.Proofs.LaysC.n172 Tryz.prog layscn172_ren := {
  mixed := by kernel_rfl
  f129 := Tryz.func88.trans (congrArg some (by kernel_rfl))
  f171 := Tryz.func32.trans (congrArg some (by kernel_rfl))
  f172 := Tryz.func75.trans (congrArg some (by kernel_rfl))
  f205 := Tryz.func108.trans (congrArg some (by kernel_rfl))
  f243 := Tryz.func59.trans (congrArg some (by kernel_rfl))
  f244 := Tryz.func85.trans (congrArg some (by kernel_rfl))
  f245 := Tryz.func86.trans (congrArg some (by kernel_rfl))
  f246 := Tryz.func71.trans (congrArg some (by kernel_rfl))
  f247 := Tryz.func97.trans (congrArg some (by kernel_rfl))
  f279 := Tryz.func98.trans (congrArg some (by kernel_rfl))
  f280 := Tryz.func99.trans (congrArg some (by kernel_rfl))
  f281 := Tryz.func100.trans (congrArg some (by kernel_rfl))
  f282 := Tryz.func101.trans (congrArg some (by kernel_rfl))
  f283 := Tryz.func77.trans (congrArg some (by kernel_rfl))
  f284 := Tryz.func78.trans (congrArg some (by kernel_rfl))
  f285 := Tryz.func79.trans (congrArg some (by kernel_rfl))
  f286 := Tryz.func80.trans (congrArg some (by kernel_rfl))
  f287 := Tryz.func106.trans (congrArg some (by kernel_rfl))
  f316 := Tryz.func107.trans (congrArg some (by kernel_rfl))
  f317 := Tryz.func87.trans (congrArg some (by kernel_rfl))
  f318 := Tryz.func89.trans (congrArg some (by kernel_rfl))
  f319 := Tryz.func90.trans (congrArg some (by kernel_rfl))
  f320 := Tryz.func91.trans (congrArg some (by kernel_rfl))
  f321 := Tryz.func109.trans (congrArg some (by kernel_rfl))
  f322 := Tryz.func110.trans (congrArg some (by kernel_rfl))
  f337 := Tryz.func102.trans (congrArg some (by kernel_rfl))
  f338 := Tryz.func103.trans (congrArg some (by kernel_rfl))
  t0 := Tryz.underlying0
  a0 := Tryz.isAgg0
  z0 := Tryz.sizeOf0
  v0 := Tryz.zeroValue0
  t2 := Tryz.underlying2
  a2 := Tryz.isAgg2
  z2 := Tryz.sizeOf2
  v2 := Tryz.zeroValue2
  t3 := Tryz.underlying3
  a3 := Tryz.isAgg3
  z3 := Tryz.sizeOf3
  v3 := Tryz.zeroValue3
  t4 := Tryz.underlying4
  a4 := Tryz.isAgg4
  z4 := Tryz.sizeOf4
  v4 := Tryz.zeroValue4
  t5 := Tryz.underlying5
  a5 := Tryz.isAgg5
  z5 := Tryz.sizeOf5
  v5 := Tryz.zeroValue5
  t9 := Tryz.underlying9
  a9 := Tryz.isAgg9
  z9 := Tryz.sizeOf9
  v9 := Tryz.zeroValue9
  t20 := Tryz.underlying20
  a20 := Tryz.isAgg20
  z20 := Tryz.sizeOf20
  v20 := Tryz.zeroValue20
  t21 := Tryz.underlying21
  a21 := Tryz.isAgg21
  z21 := Tryz.sizeOf21
  v21 := Tryz.zeroValue21
  t37 := Tryz.underlying57
  a37 := Tryz.isAgg57
  z37 := Tryz.sizeOf57
  v37 := Tryz.zeroValue57
  t46 := Tryz.underlying130
  a46 := Tryz.isAgg130
  z46 := Tryz.sizeOf130
  v46 := Tryz.zeroValue130
  t51 := Tryz.underlying128
  a51 := Tryz.isAgg128
  z51 := Tryz.sizeOf128
  v51 := Tryz.zeroValue128
  t53 := Tryz.underlying115
  a53 := Tryz.isAgg115
  z53 := Tryz.sizeOf115
  v53 := Tryz.zeroValue115
  t75 := Tryz.underlying63
  a75 := Tryz.isAgg63
  z75 := Tryz.sizeOf63
  v75 := Tryz.zeroValue63
  t76 := Tryz.underlying64
  a76 := Tryz.isAgg64
  z76 := Tryz.sizeOf64
  v76 := Tryz.zeroValue64
  t85 := Tryz.underlying133
  a85 := Tryz.isAgg133
  z85 := Tryz.sizeOf133
  v85 := Tryz.zeroValue133
  t127 := Tryz.underlying95
  a127 := Tryz.isAgg95
  z127 := Tryz.sizeOf95
  v127 := Tryz.zeroValue95
  t143 := Tryz.underlying155
  a143 := Tryz.isAgg155
  z143 := Tryz.sizeOf155
  v143 := Tryz.zeroValue155
  t145 := Tryz.underlying157
  a145 := Tryz.isAgg157
  z145 := Tryz.sizeOf157
  v145 := Tryz.zeroValue157
  t167 := Tryz.underlying132
  a167 := Tryz.isAgg132
  z167 := Tryz.sizeOf132
  v167 := Tryz.zeroValue132
  t168 := Tryz.underlying135
  a168 := Tryz.isAgg135
  z168 := Tryz.sizeOf135
  v168 := Tryz.zeroValue135
  t171 := Tryz.underlying114
  a171 := Tryz.isAgg114
  z171 := Tryz.sizeOf114
  v171 := Tryz.zeroValue114
  t173 := Tryz.underlying118
  a173 := Tryz.isAgg118
  z173 := Tryz.sizeOf118
  v173 := Tryz.zeroValue118
  t175 := Tryz.underlying145
  a175 := Tryz.isAgg145
  z175 := Tryz.sizeOf145
  v175 := Tryz.zeroValue145
  t210 := Tryz.underlying149
  a210 := Tryz.isAgg149
  z210 := Tryz.sizeOf149
  v210 := Tryz.zeroValue149
  t212 := Tryz.underlying127
  a212 := Tryz.isAgg127
  z212 := Tryz.sizeOf127
  v212 := Tryz.zeroValue127
  t213 := Tryz.underlying129
  a213 := Tryz.isAgg129
  z213 := Tryz.sizeOf129
  t232 := Tryz.underlying151
  a232 := Tryz.isAgg151
  z232 := Tryz.sizeOf151
  v232 := Tryz.zeroValue151
  t233 := Tryz.underlying152
  a233 := Tryz.isAgg152
  z233 := Tryz.sizeOf152
  v233 := Tryz.zeroValue152
  g15 := by kernel_rfl
  g16 := by kernel_rfl
  g17 := by kernel_rfl
  g18 := by kernel_rfl
  g19 := by kernel_rfl
  t80 := Tryz.underlying67
  a80 := Tryz.isAgg67
  z80 := Tryz.sizeOf67
  v80 := Tryz.zeroValue67
  i0 := by kernel_rfl
  i2 := by kernel_rfl
  i3 := by kernel_rfl
  i4 := by kernel_rfl
  i5 := by kernel_rfl
  i9 := by kernel_rfl
  i20 := by kernel_rfl
  i21 := by kernel_rfl
  i37 := by kernel_rfl
  i46 := by kernel_rfl
  i51 := by kernel_rfl
  i53 := by kernel_rfl
  i75 := by kernel_rfl
  i76 := by kernel_rfl
  i80 := by kernel_rfl
  i85 := by kernel_rfl
  i127 := by kernel_rfl
  i143 := by kernel_rfl
  i145 := by kernel_rfl
  i167 := by kernel_rfl
  i168 := by kernel_rfl
  i171 := by kernel_rfl
  i173 := by kernel_rfl
  i175 := by kernel_rfl
  i210 := by kernel_rfl
  i212 := by kernel_rfl
  i232 := by kernel_rfl
  i233 := by kernel_rfl
  m15 := by kernel_rfl
  m16 := by kernel_rfl
  m17 := by kernel_rfl
  m18 := by kernel_rfl
  m19 := by kernel_rfl
  c0 := by kernel_rfl
  c2 := by kernel_rfl
  c3 := by kernel_rfl
  c4 := by kernel_rfl
  c5 := by kernel_rfl
  c9 := by kernel_rfl
  c20 := by kernel_rfl
  c21 := by kernel_rfl
  c37 := by kernel_rfl
  c46 := by kernel_rfl
  c51 := by kernel_rfl
  c53 := by kernel_rfl
  c75 := by kernel_rfl
  c76 := by kernel_rfl
  c80 := by kernel_rfl
  c85 := by kernel_rfl
  c127 := by kernel_rfl
  c143 := by kernel_rfl
  c145 := by kernel_rfl
  c167 := by kernel_rfl
  c168 := by kernel_rfl
  c171 := by kernel_rfl
  c173 := by kernel_rfl
  c175 := by kernel_rfl
  c210 := by kernel_rfl
  c212 := by kernel_rfl
  c213 := by kernel_rfl
  c232 := by kernel_rfl
  c233 := by kernel_rfl }
theorem wordsB_ne (s : ByteArray) (c : UInt8) : wordsB s c ≠ [] := by
  unfold wordsB
  have := splR_ne c s.data.toList
  simpa using this
theorem ro_strs {w : World} {ws : List ByteArray} (hne : ws ≠ []) {m : AMap} {H : AHeap} {B : Nat} (hB : B ≤ w.heap.size) (hm : ∀ h b, m h = some b → b < w.heap.size) :
    RV (w.alloc (.cells (ws.map Value.string).toArray 9)) m H B (.ro true (Go.Awp.sc ws)) (.slice (some ⟨w.heap.size, 0, none⟩) ws.length ws.length) := by
  have hl := sc_length ws
  rw [← hl]
  refine .ro true (Go.Awp.sc ws) 1 w.heap.size 0 (Go.Awp.sc ws).length (fun i _ => .string (ws[i]?.getD ByteArray.empty)) (by simpa [Go.Awp.sc] using hne) (fun h e => by have := hm h _ e; omega) (fun _ => hB) (by show _ < (w.heap.push _).size; rw [Array.size_push]; omega) (fun e he => ?_) (Nat.le_refl _) (fun i e j x h1 h2 => ?_) (fun i e j x h1 h2 => ?_)
  · obtain ⟨a, _, rfl⟩ := List.mem_map.1 he; rfl
  · have hi : i < ws.length := by have := (List.getElem?_eq_some_iff.1 h1).1; rwa [hl] at this
    rw [sc_get hi] at h1; cases h1
    match j with
    | 0 =>
      simp at h2; subst h2
      refine ⟨?_, rfl⟩
      rw [show 0 + i * 1 + 0 = i by omega, World.cell?_alloc_at (w := w) _ _ w.heap.size i rfl]
      simp [hi]
    | j + 1 => simp at h2
  · have hi : i < ws.length := by have := (List.getElem?_eq_some_iff.1 h1).1; rwa [hl] at this
    rw [sc_get hi] at h1; cases h1
    match j with
    | 0 =>
      simp at h2; subst h2
      simp only [List.getElem?_eq_getElem hi, Option.getD_some]
      exact .str _
    | j + 1 => simp at h2
theorem fx_num {w : World} {B : Nat} (h : Fx.Ok w B) : ∃ m, w.cell? ⟨1, 0, none⟩ = some (.int .i64 m) := by
  obtain ⟨_, cs, t, q, h2, m, h3⟩ := h 1 _ (List.mem_cons_of_mem _ (List.mem_cons_self ..))
  exact ⟨m, by simp [World.cell?, h2, h3]⟩
theorem fx_syn {w : World} {B : Nat} (h : Fx.Ok w B) : ∃ te pe, w.cell? ⟨4, 0, none⟩ = some (.iface te pe) := by
  obtain ⟨_, cs, t, q, h2, te, pe, h3⟩ := h 4 _ (List.mem_cons_of_mem _ (List.mem_cons_of_mem _ (List.mem_cons_self ..)))
  exact ⟨te, pe, by simp [World.cell?, h2, h3]⟩
theorem fx_rng {w : World} {B : Nat} (h : Fx.Ok w B) : ∃ te pe, w.cell? ⟨5, 0, none⟩ = some (.iface te pe) := by
  obtain ⟨_, cs, t, q, h2, te, pe, h3⟩ := h 5 _ (List.mem_cons_of_mem _ (List.mem_cons_of_mem _ (List.mem_cons_of_mem _ (List.mem_cons_self ..))))
  exact ⟨te, pe, by simp [World.cell?, h2, h3]⟩
theorem Split_ok (s : ByteArray) (c : UInt8) (hs : s.size ≤ 1000000) : PCall Tryz.prog 33 [.str s, .str (ByteArray.mk (Array.mk [c]))] (.ro true (Go.Awp.sc (wordsB s c))) := by
  refine ⟨by kernel_rfl, fun w vs fx ⟨hl, ha⟩ => ?_⟩
  match vs, hl with
  | ⟨[u, v]⟩, _ =>
    have hu := ha 0 _ u rfl rfl
    have hv := ha 1 _ v rfl rfl
    cases hu
    cases hv
    obtain ⟨m, hm⟩ := fx_num fx
    refine Calls.mono (Any.strings_Split laysn146 (by kernel_rfl) s (ByteArray.mk (Array.mk [c])) m w (by omega) hm (by simp [ByteArray.size])) ?_
    rintro e w' ⟨rfl, rfl⟩
    have hw := splitB_words s c
    have hlen := Lib.splitB_all (ByteArray.mk #[c]) (by simp [ByteArray.size]) 0 _ s rfl
    rw [hw] at hlen
    refine ⟨_, rfl, ?_, fun m H B hB hm => ?_⟩
    · exact (RowKit.Below.refl _ _).alloc (Nat.le_refl _) _
    · have := ro_strs (wordsB_ne s c) (m := m) (H := H) hB hm
      rw [hlen] at this
      rw [show Lib.splitB (ByteArray.mk (Array.mk [c])) 0 (Lib.countB s (ByteArray.mk (Array.mk [c]))) s = wordsB s c from hw]
      exact this
def atoiV (s : ByteArray) : Int × AV := match Lib.atoiAll s.data.toList with
  | .ok v => (v, .nilIface)
  | .range => (Lib.atoiSat s.data.toList, .iface 135 .ptrJ)
  | _ => (0, .iface 135 .ptrJ)
theorem rv_pair {w : World} {m : AMap} {H : AHeap} {B : Nat} {x y : AV} {u v : Value} (h1 : RV w m H B x u) (h2 : RV w m H B y v) : RV w m H B (.tuple [x, y]) (.tuple #[u, v]) := by
  refine .tuple _ _ rfl fun i x v h1' h2' => ?_
  match i with
  | 0 => simp at h1' h2'; subst h1'; subst h2'; exact h1
  | 1 => simp at h1' h2'; subst h1'; subst h2'; exact h2
  | i + 2 => simp at h1'
theorem Atoi_ok (s : ByteArray) (hs : s.size ≤ 1000000) : PCall Tryz.prog 75 [.str s] (.tuple [I (atoiV s).1, (atoiV s).2]) := by
  refine ⟨by kernel_rfl, fun w vs fx ⟨hl, ha⟩ => ?_⟩
  match vs, hl with
  | ⟨[u]⟩, _ =>
    have hu := ha 0 _ u rfl rfl
    cases hu
    cases h : Lib.atoiAll s.data.toList
    · rename_i v
      have hv : atoiV s = (v, .nilIface) := by unfold atoiV; rw [h]
      rw [hv]
      refine Calls.mono (Any.strconv_Atoi_ok layscn172 s (by omega) v h w) ?_
      rintro e w' ⟨rfl, hw⟩
      refine ⟨_, rfl, ?_, fun m H B hB hm => rv_pair (.int _ _) .nilIface⟩
      rcases hw with rfl | ⟨t, rfl⟩
      · exact RowKit.Below.refl _ _
      · exact Lib.bytesWorld_below _ _ _
    · skip
      have hv : atoiV s = (0, .iface 135 .ptrJ) := by unfold atoiV; rw [h]
      rw [hv]
      obtain ⟨te, pe, hc⟩ := fx_syn fx
      refine Calls.mono (Any.strconv_Atoi_syntax layscn172 s (by omega) h (.iface te pe) w hc (.inr ⟨te, pe, rfl⟩)) ?_
      rintro e w' ⟨N, rfl, _, _, hb⟩
      exact ⟨_, rfl, hb, fun m H B hB hm => rv_pair (.int _ _) (.iface _ _ _ (.ptrJ _))⟩
    · skip
      have hv : atoiV s = (Lib.atoiSat s.data.toList, .iface 135 .ptrJ) := by unfold atoiV; rw [h]
      rw [hv]
      obtain ⟨te, pe, hc⟩ := fx_rng fx
      refine Calls.mono (Any.strconv_Atoi_range layscn172 s (by omega) h (.iface te pe) w hc (.inr ⟨te, pe, rfl⟩)) ?_
      rintro e w' ⟨N, rfl, _, _, hb⟩
      exact ⟨_, rfl, hb, fun m H B hB hm => rv_pair (.int _ _) (.iface _ _ _ (.ptrJ _))⟩
end Go.Proofs.YtgadlckkmhhmbaaGreatDoor
