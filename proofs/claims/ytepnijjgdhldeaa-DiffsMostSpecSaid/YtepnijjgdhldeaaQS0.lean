/- The chapter's examples hold: 'sane' hands back true, by reckoning. -/
import Derived.Test.YtepnijjgdhldeaaQT0
import Derived.Test.YtepnijjgdhldeaaA7
import Derived.KernelRfl
namespace Go.Proofs.Ytepnijjgdhldeaa
open Go.Awp
set_option maxRecDepth 100000
def xt : XT := [(21, ⟨147, ir21, [(.tmp 0)]⟩), (24, ⟨14, ir24, [(.tmp 2), (.tmp 3)]⟩), (26, ⟨35, ir26, [(.tmp 2), (.tmp 3)]⟩), (28, ⟨26, ir28, [(.tmp 4)]⟩), (29, ⟨28, ir29, [(.tmp 2)]⟩), (30, ⟨50, ir30, [(.tmp 6), (.tmp 7), (.tmp 8)]⟩), (31, ⟨30, ir31, [(.tmp 4), (.tmp 5), (.tmp 6)]⟩), (32, ⟨77, ir32, [(.tmp 4)]⟩), (35, ⟨49, ir35, [(.tmp 2), (.tmp 3), (.tmp 4)]⟩), (38, ⟨56, ir38, [(.tmp 10)]⟩), (44, ⟨79, ir44, [(.tmp 8)]⟩), (52, ⟨9, ir52, [(.tmp 4)]⟩), (57, ⟨8, ir57, [(.tmp 2)]⟩), (58, ⟨33, ir58, [(.cell 2 true 4), (.tmp 5)]⟩), (68, ⟨6, ir68, [(.cell 2 true 0)]⟩), (70, ⟨19, ir70, [(.tmp 2), (.tmp 3)]⟩), (73, ⟨30, ir73, [(.cell 2 true 2)]⟩), (75, ⟨15, ir75, [(.tmp 6)]⟩), (76, ⟨22, ir76, [(.tmp 4)]⟩), (77, ⟨13, ir77, [(.tmp 4)]⟩), (78, ⟨32, ir78, [(.cell 3 true 4), (.tmp 5)]⟩), (79, ⟨45, ir79, [(.tmp 4), (.tmp 5), (.tmp 6)]⟩), (80, ⟨27, ir80, [(.tmp 4)]⟩), (81, ⟨9, ir81, [(.tmp 4)]⟩), (82, ⟨40, ir82, [(.tmp 8), (.tmp 9)]⟩), (85, ⟨41, ir85, [(.tmp 2), (.cell 3 true 3), (.tmp 4)]⟩), (86, ⟨28, ir86, []⟩), (89, ⟨6, ir89, [(.tmp 2)]⟩), (90, ⟨15, ir90, [(.tmp 4)]⟩), (91, ⟨8, ir91, [(.tmp 2)]⟩), (92, ⟨5, ir92, [(.tmp 2)]⟩), (98, ⟨19, ir98, [(.tmp 4)]⟩), (101, ⟨117, ir101, [(.cell 3 true 4), (.tmp 5)]⟩), (109, ⟨9, ir109, [(.tmp 4)]⟩), (110, ⟨50, ir110, [(.tmp 2)]⟩), (111, ⟨11, ir111, [(.tmp 3)]⟩), (112, ⟨16, ir112, [(.tmp 2)]⟩), (113, ⟨6, ir113, [(.tmp 2)]⟩), (120, ⟨48, ir120, [(.tmp 4)]⟩), (121, ⟨29, ir121, [(.tmp 6)]⟩), (125, ⟨19, ir125, [(.tmp 4)]⟩), (126, ⟨183, ir126, [(.tmp 6)]⟩), (127, ⟨29, ir127, [(.tmp 2)]⟩), (129, ⟨30, ir129, [(.tmp 4), (.tmp 5)]⟩), (130, ⟨41, ir130, [(.tmp 2)]⟩), (131, ⟨24, ir131, [(.tmp 2)]⟩), (132, ⟨17, ir132, [(.tmp 4), (.tmp 5)]⟩), (133, ⟨51, ir133, [(.tmp 4), (.tmp 5)]⟩), (149, ⟨8, ir149, [(.tmp 2)]⟩), (150, ⟨6, ir150, [(.tmp 2)]⟩), (151, ⟨6, ir151, [(.tmp 2)]⟩)]
theorem xt_ok : XT.Ok Try.prog xt := ⟨text21, text24, text26, text28, text29, text30, text31, text32, text35, text38, text44, text52, text57, text58, text68, text70, text73, text75, text76, text77, text78, text79, text80, text81, text82, text85, text86, text89, text90, text91, text92, text98, text101, text109, text110, text111, text112, text113, text120, text121, text125, text126, text127, text129, text130, text131, text132, text133, text149, text150, text151, trivial⟩
def xm : XM := fun t s => if t = 102 then (if s = "snowline/diffs.lines" then some 150 else if s = "snowline/diffs.nodes" then some 151 else none) else if t = 91 then (if s = "snowline/diffs.lines" then some 130 else if s = "snowline/diffs.nodes" then some 149 else none) else none
theorem xm_ok : XM.Ok Try.prog xm := by
  intro t s f h
  unfold xm at h
  split at h
  · rename_i ht
    subst ht
    split at h
    · rename_i hs; subst hs; cases h; kernel_rfl
    · split at h
      · rename_i hs; subst hs; cases h; kernel_rfl
      · cases h
  · split at h
    · rename_i ht
      subst ht
      split at h
      · rename_i hs; subst hs; cases h; kernel_rfl
      · split at h
        · rename_i hs; subst hs; cases h; kernel_rfl
        · cases h
    · cases h
theorem sane_ok : PCall Try.prog 21 [] (.bool true) := xcall_true (N := 100) (k := 30) xt_ok xm_ok (by kernel_rfl)
#print axioms sane_ok
