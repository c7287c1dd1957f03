/- slices.Clone AS IT IS GIVEN; THE MACHINE IS SOUND. -/
import Derived.Test.YtbmfnoaogebjfaaDoorT15
set_option linter.unusedSimpArgs false
set_option linter.unusedVariables false
set_option maxRecDepth 20000
namespace Go.Am.R
open Go.Proofs Go.RowKit

variable [Pin]

theorem cfgOk0 (hk : ExtOk Tryd.prog 46 (.val keyF)) : CfgOk Tryd.prog (cfg vw0) where
  ty := fun t i h => by rw [cfgP_ty] at h; exact h
  fn := fun f g h => cfgP_fn h
  mixed := by kernel_rfl
  eqt := fun t xs h hf => by
    have : t = 80 := by simpa [cfgP_eqt, vw0] using h
    subst this
    exact eq80 hf
  ext := fun f F h => by
    rw [cfgP_ext] at h
    have h' : extA0 f = some F := h
    unfold extA0 at h'
    split at h'
    · rename_i hf; subst hf; cases h'; exact hk
    · cases h'

theorem push_dead {G : Gh} {S : St} {w : World} (h : Wrel G S w) : Wrel G (S.push .dead) w ∧ Step G S w G (S.push .dead) w :=
  push_step h ⟨Nat.le_refl _, rfl, rfl, rfl, fun _ _ => rfl⟩ (.refl G) (fun o b hb => .inl hb) (fun b b' h1 h2 => h.fblk _ _ _ h1 h2) (fun o g s hs => .inl hs) (fun g s s' h1 h2 => h.fseg _ _ _ _ h1 h2) (fun b f hi => .inl hi) (fun b hb => hb.elim) trivial
omit [Pin] in
theorem rep_empty {G : Gh} {W : World} {v : Value} (h : Rep G W (.vec []) v) : Rep G W .nils v ∨ Rep G W .emp v := by
  cases h with
  | vec0 a cap h0 =>
    cases a with
    | none => rw [h0 rfl]; exact .inl .nils
    | some a => exact .inr (.emp _ _)
  | vec _ es b p cap => exact .inr (.emp _ _)

theorem ext_clone (h0 : CfgOk Tryd.prog (cfg vw0)) {f es bytes : Nat} (h1 : ∀ S, (lim (cfg vw0)).call f [.nils] S = some (.nils, S)) (h2 : ∀ S, (lim (cfg vw0)).call f [.emp] S = some (.lit [], S))
    (h3 : ∀ (r : List AV) (rs : Rows), headOk es (r :: rs) = true → capOk (rs.length + 1) bytes = true → ∀ S, (lim (cfg vw0)).call f [.vec (r :: rs)] S = some (.sref S.n 0 0 (rs.length + 1), S.push (.seq 0 es (r :: rs) 0))) : ExtOk Tryd.prog f (.push (cloneF es bytes)) := by
  intro G S S' W args vs r hr hW hv
  simp only [XT.run, Option.map_eq_some_iff, Prod.mk.injEq] at hr
  obtain ⟨⟨r', o⟩, hc, rfl, rfl⟩ := hr
  unfold cloneF at hc
  split at hc
  · cases hc
    obtain ⟨v, l, hvl, hrv, hl⟩ := hv.uncons
    obtain rfl := hl.nil_inv
    have fin : ∀ (y z : AV), Rep G W y v → (lim (cfg vw0)).call f [y] S = some (z, S) → (∀ G' W' u, Rep G' W' z u → Rep G' W' (.lit []) u) →
        (callFunc f vs).run Tryd.prog W = .ok (.enter f vs) W ∧ Calls Tryd.prog f vs W fun e w' => ∃ G' u, e = .returned u ∧ Wrel G' (S.push .dead) w' ∧ Step G S W G' (S.push .dead) w' ∧ Rep G' w' (.lit []) u := by
      intro y z hy hcall hz
      obtain ⟨c1, c2⟩ := lim_sound h0 hcall G W vs hW (by rw [hvl]; exact .cons hy (.nil _ _))
      refine ⟨c1, c2.mono fun e w' ⟨G', u, he, hW', hst, hu⟩ => ?_⟩
      obtain ⟨k1, k2⟩ := push_dead hW'
      exact ⟨G', u, he, k1, hst.trans k2, hz _ _ _ hu⟩
    rcases rep_empty hrv with h | h
    · exact fin _ _ h (h1 S) fun G' W' u hu => by cases hu; exact .lit0 _
    · exact fin _ _ h (h2 S) fun G' W' u hu => hu
  · rename_i r rs
    split at hc
    · rename_i hq
      cases hc
      obtain ⟨c1, c2⟩ := lim_sound h0 (h3 r rs hq.1 hq.2 S) G W vs hW hv
      exact ⟨c1, c2⟩
    · cases hc
  · cases hc

theorem cfgOkA (hk : ExtOk Tryd.prog 46 (.val keyF)) : CfgOk Tryd.prog (cfg vw) where
  ty := fun t i h => by rw [cfgP_ty] at h; exact h
  fn := fun f g h => cfgP_fn h
  mixed := by kernel_rfl
  eqt := fun t xs h hf => by
    have : t = 80 := by simpa [cfgP_eqt, vw] using h
    subst this
    exact eq80 hf
  ext := fun f F h => by
    rw [cfgP_ext] at h
    have h' : extA f = some F := h
    unfold extA at h'
    split at h'
    · rename_i hf; subst hf; cases h'; exact hk
    · split at h'
      · rename_i hf; subst hf; cases h'
        exact ext_clone (cfgOk0 hk) (fun S => clone60_nils S stdV0) (fun S => clone60_emp S stdV0) (fun r rs a b S => clone60_cons stdV0 r rs a b S)
      · split at h'
        · rename_i hf; subst hf; cases h'
          exact ext_clone (cfgOk0 hk) (fun S => clone61_nils S stdV0) (fun S => clone61_emp S stdV0) (fun r rs a b S => clone61_cons stdV0 r rs a b S)
        · cases h'
end Go.Am.R
