/- THE ABSTRACT MACHINE, FOURTEENTH FILE: plain data, and memory that is locked. -/
import Derived.Test.YtghpjjhdbankhaaAm12
set_option linter.unusedSimpArgs false
set_option linter.unusedVariables false
namespace Go.Am
variable {P : Program} {c : Cfg}

theorem nrmL_get : ∀ {xs ys : List AV}, nrmL xs = some ys → ys.length = xs.length ∧ ∀ (j : Nat) (y : AV), ys[j]? = some y → ∃ x, xs[j]? = some x ∧ nrm x = some y
  | [], ys, h => by simp [nrmL] at h; subst h; simp
  | x :: xs, ys, h => by
    simp only [nrmL, Option.bind_eq_some_iff, Option.map_eq_some_iff] at h
    obtain ⟨a, ha, b, hb, rfl⟩ := h
    obtain ⟨h1, h2⟩ := nrmL_get hb
    refine ⟨by simp [h1], fun j y hj => ?_⟩
    cases j with
    | zero => simp at hj; subst hj; exact ⟨x, by simp, ha⟩
    | succ j => simp at hj; simpa using h2 j y hj

theorem nrmR_get : ∀ {xs ys : Rows}, nrmR xs = some ys → ys.length = xs.length ∧ ∀ (j : Nat) (y : List AV), ys[j]? = some y → ∃ x, xs[j]? = some x ∧ nrmL x = some y
  | [], ys, h => by simp [nrmR] at h; subst h; simp
  | x :: xs, ys, h => by
    simp only [nrmR, Option.bind_eq_some_iff, Option.map_eq_some_iff] at h
    obtain ⟨a, ha, b, hb, rfl⟩ := h
    obtain ⟨h1, h2⟩ := nrmR_get hb
    refine ⟨by simp [h1], fun j y hj => ?_⟩
    cases j with
    | zero => simp at hj; subst hj; exact ⟨x, by simp, ha⟩
    | succ j => simp at hj; simpa using h2 j y hj

theorem nrm_leaf {x y : AV} (h : nrm x = some y) : leaf y = leaf x := by
  cases x <;> simp only [nrm, Option.bind_eq_some_iff, Option.map_eq_some_iff, Option.some.injEq, reduceCtorEq] at h <;> first
    | (subst h; rfl)
    | (obtain ⟨_, _, rfl⟩ := h; rfl)
    | (obtain ⟨_, _, _, _, rfl⟩ := h; rfl)

/-- A value as plain data: it says the same, and speaks of cells that are written no more alone. -/
theorem rep_nrm {G : Gh} {w : World} {x : AV} {v : Value} (h : Rep G w x v) : ∀ {y : AV}, nrm x = some y → ∀ {G' : Gh} {w' : World}, (∀ b f u, G.cell w b f u → G'.cell w' b f u) → Rep G' w' y v := by
  induction h with
  | int => intro y h G' w' hc; simp [nrm] at h; subst h; exact .int _ _
  | bool => intro y h G' w' hc; simp [nrm] at h; subst h; exact .bool _
  | str => intro y h G' w' hc; simp [nrm] at h; subst h; exact .str _
  | undef => intro y h G' w' hc; simp [nrm] at h; subst h; exact .undef
  | nilp => intro y h G' w' hc; simp [nrm] at h; subst h; exact .nilp
  | nils => intro y h G' w' hc; simp [nrm] at h; subst h; exact .vec0 _ _ fun _ => rfl
  | nilm => intro y h G' w' hc; simp [nrm] at h; subst h; exact .nilm
  | nilf => intro y h G' w' hc; simp [nrm] at h; subst h; exact .nilf
  | nili => intro y h G' w' hc; simp [nrm] at h; subst h; exact .nili
  | emp a cap => intro y h G' w' hc; simp [nrm] at h; subst h; exact .vec0 _ _ fun e => by simp at e
  | ifc => intro y h G' w' hc; simp [nrm] at h; subst h; exact .ifc _ _
  | ptr => intro y h; simp [nrm] at h
  | eptr => intro y h; simp [nrm] at h
  | iptr row off b p us hl hcc hr ih =>
    intro y h G' w' hc
    simp only [nrm, Option.map_eq_some_iff] at h
    obtain ⟨r, hr', rfl⟩ := h
    have := (nrmL_get hr').2
    refine .iptr r off b p us (fun j x hj => ?_) (fun j x hj => ?_) (fun j x hj => ?_) <;> obtain ⟨x', h1, h2⟩ := this j x hj
    · rw [nrm_leaf h2]; exact hl j x' h1
    · exact hc _ _ _ (hcc j x' h1)
    · exact ih j x' h1 h2 hc
  | vec0 a cap h0 => intro y h G' w' hc; simp [nrm, nrmR] at h; subst h; exact .vec0 _ _ h0
  | vec rows es b p cap us hcap hes hl hcc hr ih =>
    intro y h G' w' hc
    simp only [nrm, Option.map_eq_some_iff] at h
    obtain ⟨r, hr', rfl⟩ := h
    obtain ⟨k1, k2⟩ := nrmR_get hr'
    rw [← k1]
    refine .vec r es b p cap us (by omega) (fun i r hi => ?_) (fun i r j x hi hj => ?_) (fun i r j x hi hj => ?_) (fun i r j x hi hj => ?_) <;> obtain ⟨r0, h1, h2⟩ := k2 i r hi
    · rw [(nrmL_get h2).1]; exact hes i r0 h1
    · obtain ⟨x', h3, h4⟩ := (nrmL_get h2).2 j x hj; rw [nrm_leaf h4]; exact hl i r0 j x' h1 h3
    · obtain ⟨x', h3, h4⟩ := (nrmL_get h2).2 j x hj; exact hc _ _ _ (hcc i r0 j x' h1 h3)
    · obtain ⟨x', h3, h4⟩ := (nrmL_get h2).2 j x hj; exact ih i r0 j x' h1 h3 h4 hc
  | lit0 a => intro y h G' w' hc; simp [nrm, nrmR] at h; subst h; exact .vec0 _ _ fun _ => rfl
  | lit rows es b p us hes hl hcc hr ih =>
    intro y h G' w' hc
    simp only [nrm, Option.map_eq_some_iff] at h
    obtain ⟨r, hr', rfl⟩ := h
    obtain ⟨k1, k2⟩ := nrmR_get hr'
    rw [← k1]
    refine .vec r es b p _ us (by omega) (fun i r hi => ?_) (fun i r j x hi hj => ?_) (fun i r j x hi hj => ?_) (fun i r j x hi hj => ?_) <;> obtain ⟨r0, h1, h2⟩ := k2 i r hi
    · rw [(nrmL_get h2).1]; exact hes i r0 h1
    · obtain ⟨x', h3, h4⟩ := (nrmL_get h2).2 j x hj; rw [nrm_leaf h4]; exact hl i r0 j x' h1 h3
    · obtain ⟨x', h3, h4⟩ := (nrmL_get h2).2 j x hj; exact hc _ _ _ (hcc i r0 j x' h1 h3)
    · obtain ⟨x', h3, h4⟩ := (nrmL_get h2).2 j x hj; exact ih i r0 j x' h1 h3 h4 hc
  | own rows o g s us hs hn hcap hes hl hcc hr ih =>
    intro y h G' w' hc
    simp only [nrm, Option.map_eq_some_iff] at h
    obtain ⟨r, hr', rfl⟩ := h
    obtain ⟨k1, k2⟩ := nrmR_get hr'
    rw [← k1]
    refine .vec r s.es s.b s.st _ us (by omega) (fun i r hi => ?_) (fun i r j x hi hj => ?_) (fun i r j x hi hj => ?_) (fun i r j x hi hj => ?_) <;> obtain ⟨r0, h1, h2⟩ := k2 i r hi
    · rw [(nrmL_get h2).1]; exact hes i r0 h1
    · obtain ⟨x', h3, h4⟩ := (nrmL_get h2).2 j x hj; rw [nrm_leaf h4]; exact hl i r0 j x' h1 h3
    · obtain ⟨x', h3, h4⟩ := (nrmL_get h2).2 j x hj; exact hc _ _ _ (hcc i r0 j x' h1 h3)
    · obtain ⟨x', h3, h4⟩ := (nrmL_get h2).2 j x hj; exact ih i r0 j x' h1 h3 h4 hc
  | sref => intro y h; simp [nrm] at h
  | sref0 => intro y h; simp [nrm] at h
  | map => intro y h; simp [nrm] at h
  | fn f first cap vf vc uf uc nf nc hf hcc _ _ ihf ihc =>
    intro y h G' w' hc
    simp only [nrm, Option.map_eq_some_iff, Option.bind_eq_some_iff] at h
    obtain ⟨r, hr', q, hq, rfl⟩ := h
    obtain ⟨a1, a2⟩ := nrmL_get hr'
    obtain ⟨b1, b2⟩ := nrmL_get hq
    refine .fn _ _ _ _ _ uf uc (by omega) (by omega) (fun j x hj => ?_) (fun j x hj => ?_) (fun j x hj => ?_) (fun j x hj => ?_)
    · obtain ⟨x', h3, h4⟩ := a2 j x hj; exact hf j x' h3
    · obtain ⟨x', h3, h4⟩ := b2 j x hj; exact hcc j x' h3
    · obtain ⟨x', h3, h4⟩ := a2 j x hj; exact ihf j x' h3 h4 hc
    · obtain ⟨x', h3, h4⟩ := b2 j x hj; exact ihc j x' h3 h4 hc
  | yield => intro y h; simp [nrm] at h
  | agg cs vs us hn hl hv _ ih =>
    intro y h G' w' hc
    simp only [nrm, Option.map_eq_some_iff] at h
    obtain ⟨r, hr', rfl⟩ := h
    obtain ⟨a1, a2⟩ := nrmL_get hr'
    refine .agg _ _ us (by omega) (fun j x hj => ?_) (fun j x hj => ?_) (fun j x hj => ?_) <;> obtain ⟨x', h3, h4⟩ := a2 j x hj
    · rw [nrm_leaf h4]; exact hl j x' h3
    · exact hv j x' h3
    · exact ih j x' h3 h4 hc
  | tup cs vs us hn hv _ ih =>
    intro y h G' w' hc
    simp only [nrm, Option.map_eq_some_iff] at h
    obtain ⟨r, hr', rfl⟩ := h
    obtain ⟨a1, a2⟩ := nrmL_get hr'
    refine .tup _ _ us (by omega) (fun j x hj => ?_) (fun j x hj => ?_) <;> obtain ⟨x', h3, h4⟩ := a2 j x hj
    · exact hv j x' h3
    · exact ih j x' h3 h4 hc

end Go.Am
