/- THE WAYS OF GenMakes ARE GOOD. -/
import Derived.Test.YtghpjjhdbankhaaJ1
set_option linter.unusedVariables false
namespace Go.Am.B
open Go.Proofs Go.IntWalk Go.RowKit
theorem ext_text : ExtOk Try.prog 23 (.val textE) := by
  intro G S S' W args vs r hr hW hv
  have hargs : ∃ s, args = [.int .u64 s] ∧ (0 ≤ s ∧ s < 18446744073709551616) ∧ r = .str (textV s) ∧ S = S' := by
    simp only [XT.run, Option.map_eq_some_iff, Prod.mk.injEq] at hr
    obtain ⟨v, hc, rfl, rfl⟩ := hr
    unfold textE at hc
    split at hc
    · split at hc
      · rename_i s hq
        simp only [Option.some.injEq] at hc
        exact ⟨s, rfl, hq, hc.symm, rfl⟩
      · simp at hc
    · simp at hc
  obtain ⟨s, rfl, hs, rfl, rfl⟩ := hargs
  obtain ⟨v, l, hvl, hrv, hl1⟩ := hv.uncons
  obtain rfl := hl1.nil_inv
  have hv2 := rep_int hrv
  subst hv2
  have hvs := arr_eq hvl
  subst hvs
  refine ⟨enters_of Try.func23 (by kernel_rfl) rfl _ _, ?_⟩
  refine (text_walk s hs W).mono ?_
  rintro e w' ⟨rfl, hb⟩
  have hlaid : Laid W w' := ⟨hb.size, hb.os, hb.tape, hb.output, fun k hk => hb.block k hk⟩
  obtain ⟨g1, g2⟩ := im_step hW hlaid (fun _ _ => False) (fun _ _ h => h.elim)
  exact ⟨_, _, rfl, g1, g2, .str _⟩
theorem cfgOk4 : CfgOk Try.prog (cfg w4) where
  ty := fun t i h => by rw [cfgP_ty] at h; exact h
  fn := fun f g h => cfgP_fn h
  mixed := by kernel_rfl
  eqt := fun t xs h hf => by
    have : t = 29 := by simpa [cfgP_eqt, w4] using h
    subst this
    exact eq29 hf
  ext := fun f F h => by
    rw [cfgP_ext] at h
    simp only [w4, ext4] at h
    split at h
    · rename_i hf
      subst hf
      obtain rfl := Option.some.inj h
      exact ext_text
    · simp at h
end Go.Am.B
