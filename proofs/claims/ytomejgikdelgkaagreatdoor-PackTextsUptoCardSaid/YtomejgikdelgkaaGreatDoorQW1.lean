/- Contracts: strings.Split, strconv.Atoi (the library's contracts at this program; the bodies are compared). -/
import Derived.Shelf.Strings.Split
import Derived.Shelf.Strconv.AtoiAll
import Derived.Test.YtomejgikdelgkaaGreatDoorQW0
import Derived.Test.YtomejgikdelgkaaGreatDoorQSh
import Derived.Test.YtomejgikdelgkaaGreatDoorQFx
set_option linter.unusedVariables false
set_option linter.unusedSimpArgs false
set_option linter.unusedSectionVars false
namespace Go.Proofs.YtomejgikdelgkaaGreatDoor
open Go.Shelf Go.Awp
set_option linter.unusedSimpArgs false
set_option linter.unusedVariables false
set_option maxRecDepth 100000
def laysn146_ren : Go.Shelf.Ren := ⟨fun | 146 => 28 | 221 => 50 | 268 => 67 | 138 => 68 | 143 => 69 | 195 => 79 | 197 => 80 | 218 => 81 | 219 => 82 | 260 => 92 | 217 => 93 | 225 => 94 | 224 => 95 | 267 => 96 | 266 => 104 | 314 => 105 | n => n, fun | 9 => 9 | 31 => 51 | 3 => 3 | 4 => 4 | 0 => 0 | 105 => 110 | 21 => 21 | 5 => 5 | 46 => 123 | 119 => 132 | 139 => 135 | 138 => 134 | 146 => 136 | 51 => 120 | n => n, fun | 1 => 1 | 3 => 2 | 4 => 3 | n => n⟩
theorem laysn146 : Go.Proofs.Lays.n146 Tryz.prog laysn146_ren := {
  mixed := by kernel_rfl
  f138 := Tryz.func68.trans (congrArg some (by kernel_rfl))
  f143 := Tryz.func69.trans (congrArg some (by kernel_rfl))
  f146 := Tryz.func28.trans (congrArg some (by kernel_rfl))
  f195 := Tryz.func79.trans (congrArg some (by kernel_rfl))
  f197 := Tryz.func80.trans (congrArg some (by kernel_rfl))
  f217 := Tryz.func93.trans (congrArg some (by kernel_rfl))
  f218 := Tryz.func81.trans (congrArg some (by kernel_rfl))
  f219 := Tryz.func82.trans (congrArg some (by kernel_rfl))
  f221 := Tryz.func50.trans (congrArg some (by kernel_rfl))
  f224 := Tryz.func95.trans (congrArg some (by kernel_rfl))
  f225 := Tryz.func94.trans (congrArg some (by kernel_rfl))
  f260 := Tryz.func92.trans (congrArg some (by kernel_rfl))
  f266 := Tryz.func104.trans (congrArg some (by kernel_rfl))
  f267 := Tryz.func96.trans (congrArg some (by kernel_rfl))
  f268 := Tryz.func67.trans (congrArg some (by kernel_rfl))
  f314 := Tryz.func105.trans (congrArg some (by kernel_rfl))
  t0 := Tryz.underlying0
  a0 := Tryz.isAgg0
  z0 := Tryz.sizeOf0
  v0 := Tryz.zeroValue0
  t3 := Tryz.underlying3
  a3 := Tryz.isAgg3
  z3 := Tryz.sizeOf3
  v3 := Tryz.zeroValue3
  t4 := Tryz.underlying4
  a4 := Tryz.isAgg4
  z4 := Tryz.sizeOf4
  v4 := Tryz.zeroValue4
  t5 := Tryz.underlying5
  a5 := Tryz.isAgg5
  z5 := Tryz.sizeOf5
  v5 := Tryz.zeroValue5
  t9 := Tryz.underlying9
  a9 := Tryz.isAgg9
  z9 := Tryz.sizeOf9
  v9 := Tryz.zeroValue9
  t21 := Tryz.underlying21
  a21 := Tryz.isAgg21
  z21 := Tryz.sizeOf21
  v21 := Tryz.zeroValue21
  t31 := Tryz.underlying51
  a31 := Tryz.isAgg51
  z31 := Tryz.sizeOf51
  v31 := Tryz.zeroValue51
  t46 := Tryz.underlying123
  a46 := Tryz.isAgg123
  z46 := Tryz.sizeOf123
  v46 := Tryz.zeroValue123
  t51 := Tryz.underlying120
  a51 := Tryz.isAgg120
  z51 := Tryz.sizeOf120
  v51 := Tryz.zeroValue120
  t105 := Tryz.underlying110
  a105 := Tryz.isAgg110
  z105 := Tryz.sizeOf110
  v105 := Tryz.zeroValue110
  t119 := Tryz.underlying132
  a119 := Tryz.isAgg132
  z119 := Tryz.sizeOf132
  t138 := Tryz.underlying134
  a138 := Tryz.isAgg134
  z138 := Tryz.sizeOf134
  v138 := Tryz.zeroValue134
  t139 := Tryz.underlying135
  a139 := Tryz.isAgg135
  z139 := Tryz.sizeOf135
  v139 := Tryz.zeroValue135
  t146 := Tryz.underlying136
  a146 := Tryz.isAgg136
  z146 := Tryz.sizeOf136
  v146 := Tryz.zeroValue136
  g1 := by kernel_rfl
  g3 := by kernel_rfl
  g4 := by kernel_rfl }
def layscn172_ren : Go.Shelf.Ren := ⟨fun | 172 => 70 | 244 => 83 | 245 => 84 | 247 => 97 | 279 => 98 | 280 => 99 | 281 => 100 | 282 => 101 | 287 => 106 | 316 => 107 | 171 => 24 | 205 => 108 | 321 => 109 | 322 => 110 | 243 => 48 | 246 => 66 | 283 => 75 | 284 => 76 | 285 => 77 | 286 => 78 | 129 => 88 | 317 => 87 | 318 => 89 | 319 => 90 | 320 => 91 | 337 => 102 | 338 => 103 | n => n, fun | 9 => 9 | 3 => 3 | 75 => 90 | 76 => 91 | 4 => 4 | 5 => 5 | 167 => 125 | 37 => 85 | 0 => 0 | 85 => 126 | 2 => 2 | 168 => 128 | 53 => 104 | 175 => 138 | 46 => 123 | 210 => 142 | 127 => 101 | 145 => 150 | 143 => 148 | 21 => 21 | 171 => 103 | 173 => 107 | 212 => 119 | 51 => 120 | 20 => 20 | 213 => 121 | 232 => 144 | 233 => 145 | 80 => 93 | n => n, fun | 15 => 4 | 16 => 5 | 17 => 0 | 18 => 6 | 19 => 7 | n => n⟩
theorem layscn172 : Go.Proofs.LaysC.n172 Tryz.prog layscn172_ren := {
  mixed := by kernel_rfl
  f129 := Tryz.func88.trans (congrArg some (by kernel_rfl))
  f171 := Tryz.func24.trans (congrArg some (by kernel_rfl))
  f172 := Tryz.func70.trans (congrArg some (by kernel_rfl))
  f205 := Tryz.func108.trans (congrArg some (by kernel_rfl))
  f243 := Tryz.func48.trans (congrArg some (by kernel_rfl))
  f244 := Tryz.func83.trans (congrArg some (by kernel_rfl))
  f245 := Tryz.func84.trans (congrArg some (by kernel_rfl))
  f246 := Tryz.func66.trans (congrArg some (by kernel_rfl))
  f247 := Tryz.func97.trans (congrArg some (by kernel_rfl))
  f279 := Tryz.func98.trans (congrArg some (by kernel_rfl))
  f280 := Tryz.func99.trans (congrArg some (by kernel_rfl))
  f281 := Tryz.func100.trans (congrArg some (by kernel_rfl))
  f282 := Tryz.func101.trans (congrArg some (by kernel_rfl))
  f283 := Tryz.func75.trans (congrArg some (by kernel_rfl))
  f284 := Tryz.func76.trans (congrArg some (by kernel_rfl))
  f285 := Tryz.func77.trans (congrArg some (by kernel_rfl))
  f286 := Tryz.func78.trans (congrArg some (by kernel_rfl))
  f287 := Tryz.func106.trans (congrArg some (by kernel_rfl))
  f316 := Tryz.func107.trans (congrArg some (by kernel_rfl))
  f317 := Tryz.func87.trans (congrArg some (by kernel_rfl))
  f318 := Tryz.func89.trans (congrArg some (by kernel_rfl))
  f319 := Tryz.func90.trans (congrArg some (by kernel_rfl))
  f320 := Tryz.func91.trans (congrArg some (by kernel_rfl))
  f321 := Tryz.func109.trans (congrArg some (by kernel_rfl))
  f322 := Tryz.func110.trans (congrArg some (by kernel_rfl))
  f337 := Tryz.func102.trans (congrArg some (by kernel_rfl))
  f338 := Tryz.func103.trans (congrArg some (by kernel_rfl))
  t0 := Tryz.underlying0
  a0 := Tryz.isAgg0
  z0 := Tryz.sizeOf0
  v0 := Tryz.zeroValue0
  t2 := Tryz.underlying2
  a2 := Tryz.isAgg2
  z2 := Tryz.sizeOf2
  v2 := Tryz.zeroValue2
  t3 := Tryz.underlying3
  a3 := Tryz.isAgg3
  z3 := Tryz.sizeOf3
  v3 := Tryz.zeroValue3
  t4 := Tryz.underlying4
  a4 := Tryz.isAgg4
  z4 := Tryz.sizeOf4
  v4 := Tryz.zeroValue4
  t5 := Tryz.underlying5
  a5 := Tryz.isAgg5
  z5 := Tryz.sizeOf5
  v5 := Tryz.zeroValue5
  t9 := Tryz.underlying9
  a9 := Tryz.isAgg9
  z9 := Tryz.sizeOf9
  v9 := Tryz.zeroValue9
  t20 := Tryz.underlying20
  a20 := Tryz.isAgg20
  z20 := Tryz.sizeOf20
  v20 := Tryz.zeroValue20
  t21 := Tryz.underlying21
  a21 := Tryz.isAgg21
  z21 := Tryz.sizeOf21
  v21 := Tryz.zeroValue21
  t37 := Tryz.underlying85
  a37 := Tryz.isAgg85
  z37 := Tryz.sizeOf85
  v37 := Tryz.zeroValue85
  t46 := Tryz.underlying123
  a46 := Tryz.isAgg123
  z46 := Tryz.sizeOf123
  v46 := Tryz.zeroValue123
  t51 := Tryz.underlying120
  a51 := Tryz.isAgg120
  z51 := Tryz.sizeOf120
  v51 := Tryz.zeroValue120
  t53 := Tryz.underlying104
  a53 := Tryz.isAgg104
  z53 := Tryz.sizeOf104
  v53 := Tryz.zeroValue104
  t75 := Tryz.underlying90
  a75 := Tryz.isAgg90
  z75 := Tryz.sizeOf90
  v75 := Tryz.zeroValue90
  t76 := Tryz.underlying91
  a76 := Tryz.isAgg91
  z76 := Tryz.sizeOf91
  v76 := Tryz.zeroValue91
  t85 := Tryz.underlying126
  a85 := Tryz.isAgg126
  z85 := Tryz.sizeOf126
  v85 := Tryz.zeroValue126
  t127 := Tryz.underlying101
  a127 := Tryz.isAgg101
  z127 := Tryz.sizeOf101
  v127 := Tryz.zeroValue101
  t143 := Tryz.underlying148
  a143 := Tryz.isAgg148
  z143 := Tryz.sizeOf148
  v143 := Tryz.zeroValue148
  t145 := Tryz.underlying150
  a145 := Tryz.isAgg150
  z145 := Tryz.sizeOf150
  v145 := Tryz.zeroValue150
  t167 := Tryz.underlying125
  a167 := Tryz.isAgg125
  z167 := Tryz.sizeOf125
  v167 := Tryz.zeroValue125
  t168 := Tryz.underlying128
  a168 := Tryz.isAgg128
  z168 := Tryz.sizeOf128
  v168 := Tryz.zeroValue128
  t171 := Tryz.underlying103
  a171 := Tryz.isAgg103
  z171 := Tryz.sizeOf103
  v171 := Tryz.zeroValue103
  t173 := Tryz.underlying107
  a173 := Tryz.isAgg107
  z173 := Tryz.sizeOf107
  v173 := Tryz.zeroValue107
  t175 := Tryz.underlying138
  a175 := Tryz.isAgg138
  z175 := Tryz.sizeOf138
  v175 := Tryz.zeroValue138
  t210 := Tryz.underlying142
  a210 := Tryz.isAgg142
  z210 := Tryz.sizeOf142
  v210 := Tryz.zeroValue142
  t212 := Tryz.underlying119
  a212 := Tryz.isAgg119
  z212 := Tryz.sizeOf119
  v212 := Tryz.zeroValue119
  t213 := Tryz.underlying121
  a213 := Tryz.isAgg121
  z213 := Tryz.sizeOf121
  t232 := Tryz.underlying144
  a232 := Tryz.isAgg144
  z232 := Tryz.sizeOf144
  v232 := Tryz.zeroValue144
  t233 := Tryz.underlying145
  a233 := Tryz.isAgg145
  z233 := Tryz.sizeOf145
  v233 := Tryz.zeroValue145
  g15 := by kernel_rfl
  g16 := by kernel_rfl
  g17 := by kernel_rfl
  g18 := by kernel_rfl
  g19 := by kernel_rfl
  t80 := Tryz.underlying93
  a80 := Tryz.isAgg93
  z80 := Tryz.sizeOf93
  v80 := Tryz.zeroValue93
  i0 := by kernel_rfl
  i2 := by kernel_rfl
  i3 := by kernel_rfl
  i4 := by kernel_rfl
  i5 := by kernel_rfl
  i9 := by kernel_rfl
  i20 := by kernel_rfl
  i21 := by kernel_rfl
  i37 := by kernel_rfl
  i46 := by kernel_rfl
  i51 := by kernel_rfl
  i53 := by kernel_rfl
  i75 := by kernel_rfl
  i76 := by kernel_rfl
  i80 := by kernel_rfl
  i85 := by kernel_rfl
  i127 := by kernel_rfl
  i143 := by kernel_rfl
  i145 := by kernel_rfl
  i167 := by kernel_rfl
  i168 := by kernel_rfl
  i171 := by kernel_rfl
  i173 := by kernel_rfl
  i175 := by kernel_rfl
  i210 := by kernel_rfl
  i212 := by kernel_rfl
  i232 := by kernel_rfl
  i233 := by kernel_rfl
  m15 := by kernel_rfl
  m16 := by kernel_rfl
  m17 := by kernel_rfl
  m18 := by kernel_rfl
  m19 := by kernel_rfl
  c0 := by kernel_rfl
  c2 := by kernel_rfl
  c3 := by kernel_rfl
  c4 := by kernel_rfl
  c5 := by kernel_rfl
  c9 := by kernel_rfl
  c20 := by kernel_rfl
  c21 := by kernel_rfl
  c37 := by kernel_rfl
  c46 := by kernel_rfl
  c51 := by kernel_rfl
  c53 := by kernel_rfl
  c75 := by kernel_rfl
  c76 := by kernel_rfl
  c80 := by kernel_rfl
  c85 := by kernel_rfl
  c127 := by kernel_rfl
  c143 := by kernel_rfl
  c145 := by kernel_rfl
  c167 := by kernel_rfl
  c168 := by kernel_rfl
  c171 := by kernel_rfl
  c173 := by kernel_rfl
  c175 := by kernel_rfl
  c210 := by kernel_rfl
  c212 := by kernel_rfl
  c213 := by kernel_rfl
  c232 := by kernel_rfl
  c233 := by kernel_rfl }
theorem wordsB_ne (s : ByteArray) (c : UInt8) : wordsB s c ≠ [] := by
  unfold wordsB
  have := splR_ne c s.data.toList
  simpa using this
theorem ro_strs {w : World} {ws : List ByteArray} (hne : ws ≠ []) {m : AMap} {H : AHeap} {B : Nat} (hB : B ≤ w.heap.size) (hm : ∀ h b, m h = some b → b < w.heap.size) :
    RV (w.alloc (.cells (ws.map Value.string).toArray 9)) m H B (.ro true (Go.Awp.sc ws)) (.slice (some ⟨w.heap.size, 0, none⟩) ws.length ws.length) := by
  have hl := sc_length ws
  rw [← hl]
  refine .ro true (Go.Awp.sc ws) 1 w.heap.size 0 (Go.Awp.sc ws).length (fun i _ => .string (ws[i]?.getD ByteArray.empty)) (by simpa [Go.Awp.sc] using hne) (fun h e => by have := hm h _ e; omega) (fun _ => hB) (by show _ < (w.heap.push _).size; rw [Array.size_push]; omega) (fun e he => ?_) (Nat.le_refl _) (fun i e j x h1 h2 => ?_) (fun i e j x h1 h2 => ?_)
  · obtain ⟨a, _, rfl⟩ := List.mem_map.1 he; rfl
  · have hi : i < ws.length := by have := (List.getElem?_eq_some_iff.1 h1).1; rwa [hl] at this
    rw [sc_get hi] at h1; cases h1
    match j with
    | 0 =>
      simp at h2; subst h2
      refine ⟨?_, rfl⟩
      rw [show 0 + i * 1 + 0 = i by omega, World.cell?_alloc_at (w := w) _ _ w.heap.size i rfl]
      simp [hi]
    | j + 1 => simp at h2
  · have hi : i < ws.length := by have := (List.getElem?_eq_some_iff.1 h1).1; rwa [hl] at this
    rw [sc_get hi] at h1; cases h1
    match j with
    | 0 =>
      simp at h2; subst h2
      simp only [List.getElem?_eq_getElem hi, Option.getD_some]
      exact .str _
    | j + 1 => simp at h2
theorem fx_num {w : World} {B : Nat} (h : Fx.Ok w B) : ∃ m, w.cell? ⟨1, 0, none⟩ = some (.int .i64 m) := by
  obtain ⟨_, cs, t, q, h2, m, h3⟩ := h 1 _ (List.mem_cons_of_mem _ (List.mem_cons_self ..))
  exact ⟨m, by simp [World.cell?, h2, h3]⟩
theorem fx_syn {w : World} {B : Nat} (h : Fx.Ok w B) : ∃ te pe, w.cell? ⟨4, 0, none⟩ = some (.iface te pe) := by
  obtain ⟨_, cs, t, q, h2, te, pe, h3⟩ := h 4 _ (List.mem_cons_of_mem _ (List.mem_cons_of_mem _ (List.mem_cons_self ..)))
  exact ⟨te, pe, by simp [World.cell?, h2, h3]⟩
theorem fx_rng {w : World} {B : Nat} (h : Fx.Ok w B) : ∃ te pe, w.cell? ⟨5, 0, none⟩ = some (.iface te pe) := by
  obtain ⟨_, cs, t, q, h2, te, pe, h3⟩ := h 5 _ (List.mem_cons_of_mem _ (List.mem_cons_of_mem _ (List.mem_cons_of_mem _ (List.mem_cons_self ..))))
  exact ⟨te, pe, by simp [World.cell?, h2, h3]⟩
theorem Split_ok (s : ByteArray) (c : UInt8) (hs : s.size ≤ 1048576) : PCall Tryz.prog 28 [.str s, .str (ByteArray.mk (Array.mk [c]))] (.ro true (Go.Awp.sc (wordsB s c))) := by
  refine ⟨by kernel_rfl, fun w vs fx ⟨hl, ha⟩ => ?_⟩
  match vs, hl with
  | ⟨[u, v]⟩, _ =>
    have hu := ha 0 _ u rfl rfl
    have hv := ha 1 _ v rfl rfl
    cases hu
    cases hv
    obtain ⟨m, hm⟩ := fx_num fx
    refine Calls.mono (Any.strings_Split laysn146 (by kernel_rfl) s (ByteArray.mk (Array.mk [c])) m w (by omega) hm (by simp [ByteArray.size])) ?_
    rintro e w' ⟨rfl, rfl⟩
    have hw := splitB_words s c
    have hlen := Lib.splitB_all (ByteArray.mk #[c]) (by simp [ByteArray.size]) 0 _ s rfl
    rw [hw] at hlen
    refine ⟨_, rfl, ?_, fun m H B hB hm => ?_⟩
    · exact (RowKit.Below.refl _ _).alloc (Nat.le_refl _) _
    · have := ro_strs (wordsB_ne s c) (m := m) (H := H) hB hm
      rw [hlen] at this
      rw [show Lib.splitB (ByteArray.mk (Array.mk [c])) 0 (Lib.countB s (ByteArray.mk (Array.mk [c]))) s = wordsB s c from hw]
      exact this
def atoiV (s : ByteArray) : Int × AV := match Lib.atoiAll s.data.toList with
  | .ok v => (v, .nilIface)
  | .range => (Lib.atoiSat s.data.toList, .iface 128 .ptrJ)
  | _ => (0, .iface 128 .ptrJ)
theorem rv_pair {w : World} {m : AMap} {H : AHeap} {B : Nat} {x y : AV} {u v : Value} (h1 : RV w m H B x u) (h2 : RV w m H B y v) : RV w m H B (.tuple [x, y]) (.tuple #[u, v]) := by
  refine .tuple _ _ rfl fun i x v h1' h2' => ?_
  match i with
  | 0 => simp at h1' h2'; subst h1'; subst h2'; exact h1
  | 1 => simp at h1' h2'; subst h1'; subst h2'; exact h2
  | i + 2 => simp at h1'
theorem Atoi_ok (s : ByteArray) (hs : s.size ≤ 1048576) : PCall Tryz.prog 70 [.str s] (.tuple [I (atoiV s).1, (atoiV s).2]) := by
  refine ⟨by kernel_rfl, fun w vs fx ⟨hl, ha⟩ => ?_⟩
  match vs, hl with
  | ⟨[u]⟩, _ =>
    have hu := ha 0 _ u rfl rfl
    cases hu
    cases h : Lib.atoiAll s.data.toList
    · rename_i v
      have hv : atoiV s = (v, .nilIface) := by unfold atoiV; rw [h]
      rw [hv]
      refine Calls.mono (Any.strconv_Atoi_ok layscn172 s (by omega) v h w) ?_
      rintro e w' ⟨rfl, hw⟩
      refine ⟨_, rfl, ?_, fun m H B hB hm => rv_pair (.int _ _) .nilIface⟩
      rcases hw with rfl | ⟨t, rfl⟩
      · exact RowKit.Below.refl _ _
      · exact Lib.bytesWorld_below _ _ _
    · skip
      have hv : atoiV s = (0, .iface 128 .ptrJ) := by unfold atoiV; rw [h]
      rw [hv]
      obtain ⟨te, pe, hc⟩ := fx_syn fx
      refine Calls.mono (Any.strconv_Atoi_syntax layscn172 s (by omega) h (.iface te pe) w hc (.inr ⟨te, pe, rfl⟩)) ?_
      rintro e w' ⟨N, rfl, _, _, hb⟩
      exact ⟨_, rfl, hb, fun m H B hB hm => rv_pair (.int _ _) (.iface _ _ _ (.ptrJ _))⟩
    · skip
      have hv : atoiV s = (Lib.atoiSat s.data.toList, .iface 128 .ptrJ) := by unfold atoiV; rw [h]
      rw [hv]
      obtain ⟨te, pe, hc⟩ := fx_rng fx
      refine Calls.mono (Any.strconv_Atoi_range layscn172 s (by omega) h (.iface te pe) w hc (.inr ⟨te, pe, rfl⟩)) ?_
      rintro e w' ⟨N, rfl, _, _, hb⟩
      exact ⟨_, rfl, hb, fun m H B hB hm => rv_pair (.int _ _) (.iface _ _ _ (.ptrJ _))⟩
end Go.Proofs.YtomejgikdelgkaaGreatDoor
