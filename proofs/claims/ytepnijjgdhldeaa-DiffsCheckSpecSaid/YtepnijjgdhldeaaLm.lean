/- The truth of quiet operations in the model: all of them. Generic in the program. -/
import Derived.Test.YtepnijjgdhldeaaLl
namespace Go.Awp
section
variable {P : Program} {n : Nat} {w : World} {m : AMap} {H : AHeap} {B : Nat} {env : AEnv} {a : Act} {o : Oper} {r : QR} {io : IOp}

theorem qstep_sound (htr : trOp P o = some io) (st : St w m H B) (fr : FR n w m H B env a) (h : qstep io env H = some r) : QOK P o a w m H B r := by
  unfold trOp at htr
  split at htr
  · cases htr; exact q_mv (.inl ‹_›) fr h
  · cases htr; exact q_mv (.inr ‹_›) fr h
  · cases htr; exact q_pick ‹_› fr h
  · split at htr
    · cases htr; exact q_load ‹_› ‹_› ‹_› st fr h
    · cases htr
  · split at htr
    · cases htr; exact q_box ‹_› fr h
    · cases htr
  · split at htr
    · split at htr
      · split at htr
        · split at htr
          · cases htr; exact q_zero ‹_› ‹_› ‹_› ‹_› ‹_› h
          · cases htr
        · cases htr
      · cases htr
    · cases htr
  · split at htr
    · split at htr
      · split at htr
        · split at htr
          · rename_i hall
            cases htr
            refine q_build ‹_› ‹_› ‹_› ‹_› ‹_› (fun f hf => ?_) ‹_› fr h
            have := List.all_eq_true.1 hall f (by simpa using hf)
            exact Option.isSome_iff_exists.1 this
          · cases htr
        · cases htr
      · cases htr
    · split at htr
      · split at htr
        · cases htr
          rename_i hob _ _ _ _ _ hi ht _ _ _ _ hz hj _ _ hc
          exact q_buildA hi ht hz hj hc hob fr h
        · cases htr
      · cases htr
    · cases htr
  · split at htr
    · split at htr
      · split at htr
        · cases htr; simp [qstep] at h
        · cases htr
      · cases htr
    · cases htr
  · split at htr
    · split at htr
      · split at htr
        · split at htr
          · split at htr
            · rename_i hc
              obtain ⟨h1, h2, h3⟩ := hc
              cases htr; exact q_mklit ‹_› ‹_› ‹_› ‹_› h1 h2 h3 ‹_› fr h
            · cases htr
          · cases htr
        · cases htr
      · cases htr
    · cases htr
  · split at htr
    · split at htr
      · split at htr
        · split at htr
          · split at htr
            · rename_i hc
              cases htr; exact q_mkslice ‹_› ‹_› ‹_› ‹_› hc.1 hc.2 ‹_› fr h
            · cases htr
          · cases htr
        · cases htr
      · cases htr
    · cases htr
  · split at htr
    · split at htr
      · split at htr
        · split at htr
          · cases htr
          · cases htr; exact q_faddr ‹_› ‹_› ‹_› ‹_› ‹_› fr h
        · cases htr
      · cases htr
    · cases htr
  · split at htr
    · split at htr
      · split at htr
        · cases htr; exact q_field ‹_› ‹_› ‹_› ‹_› ‹_› fr h
        · cases htr
      · cases htr
    · cases htr
  · split at htr
    · split at htr
      · cases htr; exact q_iaddr ‹_› ‹_› ‹_› fr h
      · cases htr
    · split at htr
      · cases htr; exact q_iaddrA ‹_› ‹_› ‹_› fr h
      · cases htr
    · cases htr
  · split at htr
    · split at htr
      · cases htr; exact q_indexA ‹_› ‹_› ‹_› ‹_› fr h
      · cases htr
    · cases htr; exact q_indexS ‹_› ‹_› fr h
    · cases htr
  · split at htr
    · split at htr
      · cases htr; exact q_slice ‹_› ‹_› ‹_› fr h
      · cases htr
    · cases htr; exact q_sliceS ‹_› ‹_› fr h
    · cases htr
  · split at htr
    · split at htr
      · cases htr; exact q_slice0 ‹_› ‹_› ‹_› fr h
      · cases htr
    · cases htr
  · cases htr; exact q_extract ‹_› fr h
  · cases htr; exact q_un ‹_› fr h
  · split at htr
    · cases htr; exact q_bin ‹_› fr h
    · cases htr; exact q_bin ‹_› fr h
    · split at htr
      · cases htr; exact q_binB (neg := false) ‹_› ‹_› fr h
      · cases htr; exact q_binB (neg := true) ‹_› ‹_› fr h
      · cases htr
    · split at htr
      · cases htr; simp [qstep] at h
      · cases htr; simp [qstep] at h
      · cases htr
    · split at htr
      · split at htr
        · split at htr
          · cases htr; exact q_eqA (neg := false) ‹_› ‹_› ‹_› ‹_› fr h
          · cases htr; exact q_eqA (neg := true) ‹_› ‹_› ‹_› ‹_› fr h
          · cases htr
        · cases htr
      · cases htr
    · cases htr
  · split at htr
    · cases htr
      rename_i hob _ _ _ _ hs hd
      exact q_conv hs hd hob fr h
    · cases htr
  · split at htr
    · cases htr; exact q_iface ‹_› ‹_› fr h
    · cases htr
  · cases htr; exact q_mkfun ‹_› fr h
  · cases htr; exact q_nilchk ‹_› fr h
  · split at htr
    · cases htr; simp [qstep] at h
    · cases htr
  · rename_i b args ts hop
    split at htr
    · rename_i x t ha ht
      have ha' : args = #[x] := by cases args; simp_all
      have ht' : ts = #[t] := by cases ts; simp_all
      subst ha'; subst ht'
      split at htr
      · cases htr; exact q_len ‹_› ‹_› fr h
      · cases htr; exact q_lenS ‹_› ‹_› fr h
      · cases htr
    · cases htr; exact q_mm (mx := true) (by simpa using hop) fr h
    · cases htr; exact q_mm (mx := false) (by simpa using hop) fr h
    · split at htr
      · split at htr
        · split at htr
          · split at htr
            · split at htr
              · cases htr; simp [qstep] at h
              · cases htr
            · cases htr
          · cases htr
        · cases htr
      · cases htr
    · split at htr
      · split at htr
        · split at htr
          · cases htr; simp [qstep] at h
          · cases htr
        · cases htr
      · cases htr
    · cases htr
  · cases htr; simp [qstep] at h
  · cases htr; simp [qstep] at h
  · cases htr; simp [qstep] at h
  · cases htr
end
end Go.Awp
