/- THE ABSTRACT MACHINE, A PART OF IT. -/
import Derived.Test.YtbmfnoaogebjfaaDoorMb
import Derived.RangeFuncLeaves
import Derived.TacticsIn
import Derived.LoopNIn
/- THE ABSTRACT MACHINE, FOURTEENTH FILE: plain data, and memory that is locked. -/
set_option linter.unusedSimpArgs false
set_option linter.unusedVariables false
namespace Go.Am
variable [Pin] {P : Program} {c : Cfg}

omit [Pin] in
theorem nrmL_get : ∀ {xs ys : List AV}, nrmL xs = some ys → ys.length = xs.length ∧ ∀ (j : Nat) (y : AV), ys[j]? = some y → ∃ x, xs[j]? = some x ∧ nrm x = some y
  | [], ys, h => by simp [nrmL] at h; subst h; simp
  | x :: xs, ys, h => by
    simp only [nrmL, Option.bind_eq_some_iff, Option.map_eq_some_iff] at h
    obtain ⟨a, ha, b, hb, rfl⟩ := h
    obtain ⟨h1, h2⟩ := nrmL_get hb
    refine ⟨by simp [h1], fun j y hj => ?_⟩
    cases j with
    | zero => simp at hj; subst hj; exact ⟨x, by simp, ha⟩
    | succ j => simp at hj; simpa using h2 j y hj

omit [Pin] in
theorem nrmR_get : ∀ {xs ys : Rows}, nrmR xs = some ys → ys.length = xs.length ∧ ∀ (j : Nat) (y : List AV), ys[j]? = some y → ∃ x, xs[j]? = some x ∧ nrmL x = some y
  | [], ys, h => by simp [nrmR] at h; subst h; simp
  | x :: xs, ys, h => by
    simp only [nrmR, Option.bind_eq_some_iff, Option.map_eq_some_iff] at h
    obtain ⟨a, ha, b, hb, rfl⟩ := h
    obtain ⟨h1, h2⟩ := nrmR_get hb
    refine ⟨by simp [h1], fun j y hj => ?_⟩
    cases j with
    | zero => simp at hj; subst hj; exact ⟨x, by simp, ha⟩
    | succ j => simp at hj; simpa using h2 j y hj

omit [Pin] in
theorem nrm_leaf {x y : AV} (h : nrm x = some y) : leaf y = leaf x := by
  cases x <;> simp only [nrm, Option.bind_eq_some_iff, Option.map_eq_some_iff, Option.some.injEq, reduceCtorEq] at h <;> first
    | (subst h; rfl)
    | (obtain ⟨_, _, rfl⟩ := h; rfl)
    | (obtain ⟨_, _, _, _, rfl⟩ := h; rfl)

omit [Pin] in
/-- A value as plain data: it says the same, and speaks of cells that are written no more alone. -/
theorem rep_nrm {G : Gh} {w : World} {x : AV} {v : Value} (h : Rep G w x v) : ∀ {y : AV}, nrm x = some y → ∀ {G' : Gh} {w' : World}, (∀ b f u, G.cell w b f u → G'.cell w' b f u) → Rep G' w' y v := by
  induction h with
  | int => intro y h G' w' hc; simp [nrm] at h; subst h; exact .int _ _
  | bool => intro y h G' w' hc; simp [nrm] at h; subst h; exact .bool _
  | str => intro y h G' w' hc; simp [nrm] at h; subst h; exact .str _
  | undef => intro y h G' w' hc; simp [nrm] at h; subst h; exact .undef
  | nilp => intro y h G' w' hc; simp [nrm] at h; subst h; exact .nilp
  | nils => intro y h G' w' hc; simp [nrm] at h; subst h; exact .vec0 _ _ fun _ => rfl
  | nilm => intro y h G' w' hc; simp [nrm] at h; subst h; exact .nilm
  | nilf => intro y h G' w' hc; simp [nrm] at h; subst h; exact .nilf
  | nili => intro y h G' w' hc; simp [nrm] at h; subst h; exact .nili
  | emp a cap => intro y h G' w' hc; simp [nrm] at h; subst h; exact .vec0 _ _ fun e => by simp at e
  | ifc => intro y h G' w' hc; simp [nrm] at h; subst h; exact .ifc _ _
  | ptr => intro y h; simp [nrm] at h
  | eptr => intro y h; simp [nrm] at h
  | iptr row off b p us hl hcc hr ih =>
    intro y h G' w' hc
    simp only [nrm, Option.map_eq_some_iff] at h
    obtain ⟨r, hr', rfl⟩ := h
    have := (nrmL_get hr').2
    refine .iptr r off b p us (fun j x hj => ?_) (fun j x hj => ?_) (fun j x hj => ?_) <;> obtain ⟨x', h1, h2⟩ := this j x hj
    · rw [nrm_leaf h2]; exact hl j x' h1
    · exact hc _ _ _ (hcc j x' h1)
    · exact ih j x' h1 h2 hc
  | vec0 a cap h0 => intro y h G' w' hc; simp [nrm, nrmR] at h; subst h; exact .vec0 _ _ h0
  | vec rows es b p cap us hcap hes hl hcc hr ih =>
    intro y h G' w' hc
    simp only [nrm, Option.map_eq_some_iff] at h
    obtain ⟨r, hr', rfl⟩ := h
    obtain ⟨k1, k2⟩ := nrmR_get hr'
    rw [← k1]
    refine .vec r es b p cap us (by omega) (fun i r hi => ?_) (fun i r j x hi hj => ?_) (fun i r j x hi hj => ?_) (fun i r j x hi hj => ?_) <;> obtain ⟨r0, h1, h2⟩ := k2 i r hi
    · rw [(nrmL_get h2).1]; exact hes i r0 h1
    · obtain ⟨x', h3, h4⟩ := (nrmL_get h2).2 j x hj; rw [nrm_leaf h4]; exact hl i r0 j x' h1 h3
    · obtain ⟨x', h3, h4⟩ := (nrmL_get h2).2 j x hj; exact hc _ _ _ (hcc i r0 j x' h1 h3)
    · obtain ⟨x', h3, h4⟩ := (nrmL_get h2).2 j x hj; exact ih i r0 j x' h1 h3 h4 hc
  | lit0 a => intro y h G' w' hc; simp [nrm, nrmR] at h; subst h; exact .vec0 _ _ fun _ => rfl
  | lit rows es b p us hes hl hcc hr ih =>
    intro y h G' w' hc
    simp only [nrm, Option.map_eq_some_iff] at h
    obtain ⟨r, hr', rfl⟩ := h
    obtain ⟨k1, k2⟩ := nrmR_get hr'
    rw [← k1]
    refine .vec r es b p _ us (by omega) (fun i r hi => ?_) (fun i r j x hi hj => ?_) (fun i r j x hi hj => ?_) (fun i r j x hi hj => ?_) <;> obtain ⟨r0, h1, h2⟩ := k2 i r hi
    · rw [(nrmL_get h2).1]; exact hes i r0 h1
    · obtain ⟨x', h3, h4⟩ := (nrmL_get h2).2 j x hj; rw [nrm_leaf h4]; exact hl i r0 j x' h1 h3
    · obtain ⟨x', h3, h4⟩ := (nrmL_get h2).2 j x hj; exact hc _ _ _ (hcc i r0 j x' h1 h3)
    · obtain ⟨x', h3, h4⟩ := (nrmL_get h2).2 j x hj; exact ih i r0 j x' h1 h3 h4 hc
  | own rows o g s us hs hn hcap hes hl hcc hr ih =>
    intro y h G' w' hc
    simp only [nrm, Option.map_eq_some_iff] at h
    obtain ⟨r, hr', rfl⟩ := h
    obtain ⟨k1, k2⟩ := nrmR_get hr'
    rw [← k1]
    refine .vec r s.es s.b s.st _ us (by omega) (fun i r hi => ?_) (fun i r j x hi hj => ?_) (fun i r j x hi hj => ?_) (fun i r j x hi hj => ?_) <;> obtain ⟨r0, h1, h2⟩ := k2 i r hi
    · rw [(nrmL_get h2).1]; exact hes i r0 h1
    · obtain ⟨x', h3, h4⟩ := (nrmL_get h2).2 j x hj; rw [nrm_leaf h4]; exact hl i r0 j x' h1 h3
    · obtain ⟨x', h3, h4⟩ := (nrmL_get h2).2 j x hj; exact hc _ _ _ (hcc i r0 j x' h1 h3)
    · obtain ⟨x', h3, h4⟩ := (nrmL_get h2).2 j x hj; exact ih i r0 j x' h1 h3 h4 hc
  | sref => intro y h; simp [nrm] at h
  | sref0 => intro y h; simp [nrm] at h
  | map => intro y h; simp [nrm] at h
  | fn f first cap vf vc uf uc nf nc hf hcc _ _ ihf ihc =>
    intro y h G' w' hc
    simp only [nrm, Option.map_eq_some_iff, Option.bind_eq_some_iff] at h
    obtain ⟨r, hr', q, hq, rfl⟩ := h
    obtain ⟨a1, a2⟩ := nrmL_get hr'
    obtain ⟨b1, b2⟩ := nrmL_get hq
    refine .fn _ _ _ _ _ uf uc (by omega) (by omega) (fun j x hj => ?_) (fun j x hj => ?_) (fun j x hj => ?_) (fun j x hj => ?_)
    · obtain ⟨x', h3, h4⟩ := a2 j x hj; exact hf j x' h3
    · obtain ⟨x', h3, h4⟩ := b2 j x hj; exact hcc j x' h3
    · obtain ⟨x', h3, h4⟩ := a2 j x hj; exact ihf j x' h3 h4 hc
    · obtain ⟨x', h3, h4⟩ := b2 j x hj; exact ihc j x' h3 h4 hc
  | yield => intro y h; simp [nrm] at h
  | agg cs vs us hn hl hv _ ih =>
    intro y h G' w' hc
    simp only [nrm, Option.map_eq_some_iff] at h
    obtain ⟨r, hr', rfl⟩ := h
    obtain ⟨a1, a2⟩ := nrmL_get hr'
    refine .agg _ _ us (by omega) (fun j x hj => ?_) (fun j x hj => ?_) (fun j x hj => ?_) <;> obtain ⟨x', h3, h4⟩ := a2 j x hj
    · rw [nrm_leaf h4]; exact hl j x' h3
    · exact hv j x' h3
    · exact ih j x' h3 h4 hc
  | tup cs vs us hn hv _ ih =>
    intro y h G' w' hc
    simp only [nrm, Option.map_eq_some_iff] at h
    obtain ⟨r, hr', rfl⟩ := h
    obtain ⟨a1, a2⟩ := nrmL_get hr'
    refine .tup _ _ us (by omega) (fun j x hj => ?_) (fun j x hj => ?_) <;> obtain ⟨x', h3, h4⟩ := a2 j x hj
    · exact hv j x' h3
    · exact ih j x' h3 h4 hc

end Go.Am

/- THE ABSTRACT MACHINE, FIFTEENTH FILE: rows that are written no more. -/
set_option linter.unusedSimpArgs false
set_option linter.unusedVariables false
namespace Go.Am
variable [Pin] {P : Program} {c : Cfg}

/-- The cells that a list of locks speaks of are among IM. -/
def Locked (G : Gh) (S : St) (l : List (Nat × Nat)) (IM : Nat → Nat → Prop) : Prop :=
  ∀ o k, (o, k) ∈ l → ∀ g es rows exp s, S.get o = some (.seq g es rows exp) → G.seg o g s → 0 < s.cp → ∀ f, s.st ≤ f → f < s.st + k * s.es → f < s.st + s.cp * s.es → IM s.b f

def Gh.withIm (G : Gh) (IM : Nat → Nat → Prop) : Gh := { G with im := IM }

theorem lock_one {G : Gh} {S : St} {w : World} {o g es exp k : Nat} {rows : Rows} (h : Wrel G S w) (hget : S.get o = some (.seq g es rows exp)) (hbase : S.base ≤ o) :
    ∃ IM, Wrel (G.withIm IM) (S.set o (.seq g es rows (max exp k))) w ∧ Step G S w (G.withIm IM) (S.set o (.seq g es rows (max exp k))) w ∧ Locked G S [(o, k)] IM := by
  obtain ⟨s, hs, hes, hle, hrl, hob⟩ := h.obj _ _ hget
  refine ⟨fun b f => G.im b f ∨ (b = s.b ∧ 0 < s.cp ∧ s.st ≤ f ∧ f < s.st + k * s.es ∧ f < s.st + s.cp * s.es), ?_⟩
  have hg : G.Le (G.withIm fun b f => G.im b f ∨ (b = s.b ∧ 0 < s.cp ∧ s.st ≤ f ∧ f < s.st + k * s.es ∧ f < s.st + s.cp * s.es)) := ⟨fun _ _ x => x, fun _ _ _ x => x, fun _ _ x => .inl x⟩
  have hk : Kept G w w := fun _ _ _ _ x => x
  obtain ⟨g1, g2⟩ := upd_step (b := s.b) (a := .seq g es rows (max exp k)) h hget (fun e => by cases e) hbase (Turned.of_laid (Laid.refl w)) (.inr (Laid.refl w)) hg hk (fun _ _ x => x) (fun _ _ _ x => .inl x) (fun a b h1 h2 => by simp [genOf] at h1 h2; omega) (fun _ _ => rfl)
    (fun g' s1 s2 h1 h2 => h.fseg _ _ _ _ h1 h2) (fun b f hi => hi.imp id fun ⟨x, y, z1, z2, z3⟩ => by
      subst x
      refine ⟨.inl ⟨s, hs, y, rfl⟩, Option.isSome_iff_exists.1 ?_⟩
      have := ((hob y).1 (f - s.st) (by omega)).1
      rwa [show s.st + (f - s.st) = f by omega] at this) (fun b hb => .inl hb)
    ⟨s, hs, hes, hle, hrl, fun hcp => ⟨(hob hcp).1, fun i r j x hi hj => by
      obtain ⟨a1, u, a2, a3⟩ := (hob hcp).2.1 i r j x hi hj
      exact ⟨a1, u, a2, a3.mono hg hk⟩, fun f hi => by
      rcases hi with hi | ⟨_, _, _, hi, _⟩
      · have := (hob hcp).2.2 f hi
        have h2 : exp * s.es ≤ max exp k * s.es := Nat.mul_le_mul_right _ (Nat.le_max_left _ _)
        omega
      · have h2 : k * s.es ≤ max exp k * s.es := Nat.mul_le_mul_right _ (Nat.le_max_right _ _)
        omega⟩⟩
  refine ⟨g1, g2, fun o' k' hm g' es' rows' exp' s' hg' hs' hcp f h1 h2 h3 => ?_⟩
  simp at hm
  obtain ⟨rfl, rfl⟩ := hm
  rw [hget] at hg'
  cases hg'
  obtain rfl := h.fseg _ _ _ _ hs hs'
  exact .inr ⟨rfl, hcp, h1, h2, h3⟩

/-- Objects that differ in their locks alone. -/
def SameSeq (S S' : St) : Prop := ∀ o g es rows exp, S.get o = some (.seq g es rows exp) → ∃ exp', S'.get o = some (.seq g es rows exp')

omit [Pin] in
theorem Locked.mono {G : Gh} {S S' : St} {l : List (Nat × Nat)} {IM IM' : Nat → Nat → Prop} (h : Locked G S' l IM) (hs : SameSeq S S') (hi : ∀ b f, IM b f → IM' b f) : Locked G S l IM' :=
  fun o k hm g es rows exp s hg hs' hcp f h1 h2 h3 => let ⟨exp', he⟩ := hs o g es rows exp hg; hi _ _ (h o k hm g es rows exp' s he hs' hcp f h1 h2 h3)

theorem lockAll_ok {w : World} : ∀ {l : List (Nat × Nat)} {G : Gh} {S S' : St}, Wrel G S w → S.lockAll l = some S' →
    ∃ IM, Wrel (G.withIm IM) S' w ∧ Step G S w (G.withIm IM) S' w ∧ Locked G S l IM ∧ SameSeq S S'
  | [], G, S, S', h, hl => by
    simp [St.lockAll] at hl
    subst hl
    exact ⟨G.im, h, .refl G S w, fun o k hm => by simp at hm, fun o g es rows exp hg => ⟨exp, hg⟩⟩
  | (o, k) :: l, G, S, S', h, hl => by
    rw [St.lockAll] at hl
    split at hl
    · rename_i g es rows exp hget
      simp only [Option.bind_eq_some_iff] at hl
      obtain ⟨S1, hp, hl⟩ := hl
      obtain ⟨hbase, rfl⟩ := St.putO_some hp
      obtain ⟨IM1, h1, h2, h3⟩ := lock_one (k := k) h hget hbase
      obtain ⟨IM2, k1, k2, k3, k4⟩ := lockAll_ok h1 hl
      have hss : SameSeq S (S.set o (.seq g es rows (max exp k))) := fun o' g' es' rows' exp' hg' => by
        by_cases e : o' = o
        · subst e
          rw [hget] at hg'
          cases hg'
          exact ⟨_, St.get_set_same h.len _ (St.get_lt hget)⟩
        · exact ⟨exp', by rw [St.get_set_other _ (St.get_lt hget) e]; exact hg'⟩
      refine ⟨IM2, k1, h2.trans k2, fun o' k' hm => ?_, fun o' g' es' rows' exp' hg' => ?_⟩
      · rcases List.mem_cons.1 hm with e | hm
        · exact (h3.mono (fun o g es rows exp hg => ⟨exp, hg⟩) fun b f hi => k2.le.im b f hi) o' k' (by rw [e]; simp)
        · exact (k3.mono hss fun _ _ x => x) o' k' hm
      · obtain ⟨e1, he⟩ := hss _ _ _ _ _ hg'
        exact k4 _ _ _ _ _ he
    · exact absurd hl (by simp)

theorem lockAll_some {w : World} : ∀ {l : List (Nat × Nat)} {G : Gh} {S : St}, Wrel G S w → (∀ o k, (o, k) ∈ l → S.base ≤ o ∧ ∃ g es rows exp, S.get o = some (.seq g es rows exp)) → ∃ S', S.lockAll l = some S'
  | [], G, S, h, hl => ⟨S, rfl⟩
  | (o, k) :: l, G, S, h, hl => by
    obtain ⟨hb, g, es, rows, exp, hget⟩ := hl o k (by simp)
    rw [St.lockAll, hget]
    simp only [St.putO, if_pos hb, Option.bind_some]
    obtain ⟨IM1, h1, h2, h3⟩ := lock_one (k := k) h hget hb
    refine lockAll_some h1 fun o' k' hm => ?_
    obtain ⟨hb', g', es', rows', exp', hget'⟩ := hl o' k' (by simp [hm])
    refine ⟨hb', ?_⟩
    by_cases e : o' = o
    · subst e
      exact ⟨_, _, _, _, St.get_set_same h.len _ (St.get_lt hget)⟩
    · exact ⟨_, _, _, _, by rw [St.get_set_other _ (St.get_lt hget) e]; exact hget'⟩

/-! ### Freezing -/
section frz
variable {G G' : Gh} {S : St} {w : World} {IM : Nat → Nat → Prop}

theorem frz1_rep {x y : AV} {v : Value} {l : List (Nat × Nat)} (hW : Wrel G S w) (h : frz1 S x = some (y, l)) (hr : Rep G w x v) (hi : ∀ b f, G.im b f → IM b f) (hl : Locked G S l IM) (hg : ∀ b f, IM b f → G'.im b f) :
    Rep G' w y v ∧ leaf y = leaf x ∧ ∀ o k, (o, k) ∈ l → ∃ g es rows exp, S.get o = some (.seq g es rows exp) := by
  unfold frz1 at h
  split at h
  · rename_i o g off len
    simp only [Option.bind_eq_some_iff, Option.map_eq_some_iff, Prod.mk.injEq] at h
    obtain ⟨r, hrows, r', hr', rfl, rfl⟩ := h
    unfold St.rows at hrows
    split at hrows
    · rename_i g' es rows exp hget
      split at hrows
      · rename_i hq
        obtain ⟨rfl, hle⟩ := hq
        simp at hrows
        subst hrows
        refine ⟨?_, rfl, fun o' k' hm => ?_⟩
        · obtain ⟨k1, k2⟩ := nrmR_get hr'
          have hlen : r'.length = len := by rw [k1]; simp; omega
          cases hr with
          | sref0 _ _ _ s hs hoff a =>
            have : r' = [] := List.eq_nil_of_length_eq_zero hlen
            subst this
            exact .vec0 _ _ fun e => by simp at e
          | sref _ _ _ _ s hs hoff hcap =>
            obtain ⟨hes, hlen', hrl, hcell, hob⟩ := hW.seq hget hs
            have key : ∀ (i : Nat) (q : List AV), r'[i]? = some q → i < len ∧ ∃ q0, rows[off + i]? = some q0 ∧ nrmL q0 = some q := fun i q hiq => by
              obtain ⟨q0, h1, h2⟩ := k2 i q hiq
              rw [List.getElem?_take] at h1
              split at h1
              · rename_i hlt
                rw [List.getElem?_drop] at h1
                exact ⟨hlt, q0, h1, h2⟩
              · simp at h1
            have hat : RowsAt G' w s.b (s.st + off * s.es) s.es r' := by
              refine ⟨fun i q hiq => ?_, fun i q j x hiq hj => ?_⟩ <;> obtain ⟨hlt, q0, h1, h2⟩ := key i q hiq
              · rw [(nrmL_get h2).1]; exact hrl _ _ h1
              · obtain ⟨x0, h3, h4⟩ := (nrmL_get h2).2 j x hj
                obtain ⟨a1, u, a2, a3⟩ := hcell _ _ h1 j x0 h3
                have hr3 := row_lt hrl h1 h3
                have e1 : s.st + off * s.es + i * s.es + j = s.st + (off + i) * s.es + j := by rw [Nat.add_mul]; omega
                have hle1 : (off + i + 1) * s.es ≤ (off + len) * s.es := Nat.mul_le_mul_right _ (by omega)
                have hle2 : (off + i + 1) * s.es ≤ s.cp * s.es := Nat.mul_le_mul_right _ (by omega)
                rw [Nat.add_mul (off + i)] at hle1 hle2
                refine ⟨by rw [nrm_leaf h4]; exact a1, u, ⟨?_, by rw [e1]; exact a2⟩, rep_nrm a3 h4 fun b f u hc => ⟨hg _ _ (hi _ _ hc.1), hc.2⟩⟩
                rw [e1]
                exact hg _ _ (hl o (off + len) (by simp) _ _ _ _ _ hget hs (by omega) _ (by omega) (by omega) (by omega))
            have := rep_vec hat (cap := s.cp - off) (by omega)
            rw [hlen] at this
            exact this
        · simp at hm
          obtain ⟨rfl, rfl⟩ := hm
          exact ⟨_, _, _, _, hget⟩
      · simp at hrows
    · simp at hrows
  · simp only [Option.map_eq_some_iff, Prod.mk.injEq] at h
    obtain ⟨v', hv, rfl, rfl⟩ := h
    exact ⟨rep_nrm hr hv fun b f u hc => ⟨hg _ _ (hi _ _ hc.1), hc.2⟩, nrm_leaf hv, fun o k hm => by simp at hm⟩

omit [Pin] in
theorem Locked.left {l l' : List (Nat × Nat)} (h : Locked G S (l ++ l') IM) : Locked G S l IM := fun o k hm => h o k (List.mem_append_left _ hm)
omit [Pin] in
theorem Locked.right {l l' : List (Nat × Nat)} (h : Locked G S (l ++ l') IM) : Locked G S l' IM := fun o k hm => h o k (List.mem_append_right _ hm)

theorem frzL_rep : ∀ {xs ys : List AV} {vs : List Value} {l : List (Nat × Nat)}, Wrel G S w → frzL S xs = some (ys, l) → RepL G w xs vs → (∀ b f, G.im b f → IM b f) → Locked G S l IM → (∀ b f, IM b f → G'.im b f) →
    RepL G' w ys vs ∧ ((∀ (j : Nat) (x : AV), xs[j]? = some x → leaf x = true) → ∀ (j : Nat) (x : AV), ys[j]? = some x → leaf x = true) ∧ ∀ o k, (o, k) ∈ l → ∃ g es rows exp, S.get o = some (.seq g es rows exp)
  | [], ys, vs, l, hW, h, hr, hi, hl, hg => by
    simp [frzL] at h
    obtain ⟨rfl, rfl⟩ := h
    rw [hr.nil_inv]
    exact ⟨RepL.nil _ _, fun _ j x hj => by simp at hj, fun o k hm => by simp at hm⟩
  | x :: xs, ys, vs, l, hW, h, hr, hi, hl, hg => by
    simp only [frzL, Option.bind_eq_some_iff, Option.map_eq_some_iff, Prod.mk.injEq] at h
    obtain ⟨⟨a, la⟩, ha, ⟨b, lb⟩, hb, rfl, rfl⟩ := h
    obtain ⟨v, vs', rfl, h1, h2⟩ := hr.uncons
    obtain ⟨k1, k2, k3⟩ := frz1_rep hW ha h1 hi hl.left hg
    obtain ⟨q1, q2, q3⟩ := frzL_rep hW hb h2 hi hl.right hg
    refine ⟨RepL.cons k1 q1, fun hx j y hj => ?_, fun o k hm => ?_⟩
    · cases j with
      | zero => simp at hj; subst hj; rw [k2]; exact hx 0 x (by simp)
      | succ j => exact q2 (fun j x hj => hx (j + 1) x (by simpa using hj)) j y (by simpa using hj)
    · rcases List.mem_append.1 hm with hm | hm
      · exact k3 o k hm
      · exact q3 o k hm

theorem frzA_rep {x y : AV} {v : Value} {l : List (Nat × Nat)} (hW : Wrel G S w) (h : frzA S x = some (y, l)) (hr : Rep G w x v) (hi : ∀ b f, G.im b f → IM b f) (hl : Locked G S l IM) (hg : ∀ b f, IM b f → G'.im b f) :
    Rep G' w y v ∧ ∀ o k, (o, k) ∈ l → ∃ g es rows exp, S.get o = some (.seq g es rows exp) := by
  unfold frzA at h
  split at h
  · simp only [Option.map_eq_some_iff, Prod.mk.injEq] at h
    obtain ⟨⟨ys, l'⟩, ha, rfl, rfl⟩ := h
    obtain ⟨vs, rfl, h1, h2⟩ := rep_agg_inv hr
    obtain ⟨k1, k2, k3⟩ := frzL_rep hW ha h1 hi hl hg
    exact ⟨rep_agg.2 ⟨k1, k2 h2⟩, k3⟩
  · obtain ⟨k1, k2, k3⟩ := frz1_rep hW h hr hi hl hg
    exact ⟨k1, k3⟩

theorem frzLA_rep : ∀ {xs ys : List AV} {vs : List Value} {l : List (Nat × Nat)}, Wrel G S w → frzLA S xs = some (ys, l) → RepL G w xs vs → (∀ b f, G.im b f → IM b f) → Locked G S l IM → (∀ b f, IM b f → G'.im b f) →
    RepL G' w ys vs ∧ ∀ o k, (o, k) ∈ l → ∃ g es rows exp, S.get o = some (.seq g es rows exp)
  | [], ys, vs, l, hW, h, hr, hi, hl, hg => by
    simp [frzLA] at h
    obtain ⟨rfl, rfl⟩ := h
    rw [hr.nil_inv]
    exact ⟨RepL.nil _ _, fun o k hm => by simp at hm⟩
  | x :: xs, ys, vs, l, hW, h, hr, hi, hl, hg => by
    simp only [frzLA, Option.bind_eq_some_iff, Option.map_eq_some_iff, Prod.mk.injEq] at h
    obtain ⟨⟨a, la⟩, ha, ⟨b, lb⟩, hb, rfl, rfl⟩ := h
    obtain ⟨v, vs', rfl, h1, h2⟩ := hr.uncons
    obtain ⟨k1, k3⟩ := frzA_rep hW ha h1 hi hl.left hg
    obtain ⟨q1, q3⟩ := frzLA_rep hW hb h2 hi hl.right hg
    refine ⟨RepL.cons k1 q1, fun o k hm => ?_⟩
    rcases List.mem_append.1 hm with hm | hm
    · exact k3 o k hm
    · exact q3 o k hm

theorem frz_rep {x y : AV} {v : Value} {l : List (Nat × Nat)} (hW : Wrel G S w) (h : frz S x = some (y, l)) (hr : Rep G w x v) (hi : ∀ b f, G.im b f → IM b f) (hl : Locked G S l IM) (hg : ∀ b f, IM b f → G'.im b f) :
    Rep G' w y v ∧ ∀ o k, (o, k) ∈ l → ∃ g es rows exp, S.get o = some (.seq g es rows exp) := by
  unfold frz at h
  split at h
  · simp only [Option.map_eq_some_iff, Prod.mk.injEq] at h
    obtain ⟨⟨ys, l'⟩, ha, rfl, rfl⟩ := h
    obtain ⟨vs, rfl, h1⟩ := rep_tup_inv hr
    obtain ⟨k1, k3⟩ := frzLA_rep hW ha h1 hi hl hg
    exact ⟨rep_tup.2 k1, k3⟩
  · exact frzA_rep hW h hr hi hl hg

end frz

end Go.Am

/- THE ABSTRACT MACHINE, SIXTEENTH FILE: how a function is called. -/
set_option linter.unusedSimpArgs false
set_option linter.unusedVariables false
namespace Go.Am
variable [Pin] {P : Program} {c : Cfg}

/-- What a call is worth. -/
def CallOk (P : Program) (f : FuncId) (args : List AV) (S : St) (r : AV) (S' : St) : Prop :=
  ∀ (G : Gh) (w : World) (vs : Array Value), Wrel G S w → RepL G w args vs.toList → (callFunc f vs).run P w = .ok (.enter f vs) w ∧
    Calls P f vs w fun e w' => ∃ G' u, e = .returned u ∧ Wrel G' S' w' ∧ Step G S w G' S' w' ∧ Rep G' w' r u

omit [Pin] in
theorem rows_kid {G : Gh} {w : World} {x : AV} {v : Value} {rows : Rows} (h : Rep G w x v) (hx : (∃ r, x = .vec r ∧ rows = r) ∨ (∃ r, x = .lit r ∧ rows = r) ∨ (∃ r o g, x = .own r o g ∧ rows = r) ∨ (x = .nils ∧ rows = []) ∨ (x = .emp ∧ rows = [])) :
    ∀ (i : Nat) (r : List AV) (j : Nat) (y : AV), rows[i]? = some r → r[j]? = some y → ∃ u, Rep G w y u := fun i r j y hi hj => by
  obtain ⟨a, cap, rfl, _, _, h1⟩ := rep_rows_inv h hx
  rcases h1 with rfl | ⟨b, p, es, _, h2⟩
  · simp at hi
  · obtain ⟨_, u, _, hu⟩ := h2.cell i r j y hi hj
    exact ⟨u, hu⟩

omit [Pin] in
/-- A value that was there before, seen later: what it names was named before. -/
theorem Rep.back {G0 G1 G2 : Gh} {w0 w : World} {x : AV} {u : Value} (h : Rep G1 w x u) (hle : G0.Le G1) (hb : ∀ o b b', G1.blk o b → G1.blk o b' → b = b') (hs : ∀ o g s s', G1.seg o g s → G1.seg o g s' → s = s')
    (kb : ∀ o b, G0.blk o b → G2.blk o b) (ks : ∀ o g s, G0.seg o g s → G2.seg o g s) (ki : ∀ b f, G1.im b f → G2.im b f) : (∃ u0, Rep G0 w0 x u0) → Rep G2 w x u := by
  induction h with
  | int => exact fun _ => .int _ _
  | bool => exact fun _ => .bool _
  | str => exact fun _ => .str _
  | undef => exact fun _ => .undef
  | nilp => exact fun _ => .nilp
  | nils => exact fun _ => .nils
  | nilm => exact fun _ => .nilm
  | nilf => exact fun _ => .nilf
  | nili => exact fun _ => .nili
  | emp => exact fun _ => .emp _ _
  | ifc => exact fun _ => .ifc _ _
  | ptr o off b h =>
    rintro ⟨u0, h0⟩
    cases h0 with
    | ptr _ _ b0 h0 => cases hb _ _ _ h (hle.blk _ _ h0); exact .ptr _ _ _ (kb _ _ h0)
  | eptr o g i off s h =>
    rintro ⟨u0, h0⟩
    cases h0 with
    | eptr _ _ _ _ s0 h0 => cases hs _ _ _ _ h (hle.seg _ _ _ h0); exact .eptr _ _ _ _ _ (ks _ _ _ h0)
  | iptr row off b p us hl hc hr ih =>
    rintro ⟨u0, h0⟩
    cases h0 with
    | iptr _ _ b0 p0 us0 hl0 hc0 hr0 => exact .iptr _ _ _ _ us hl (fun j x h => ⟨ki _ _ (hc j x h).1, (hc j x h).2⟩) fun j x h => ih j x h ⟨_, hr0 j x h⟩
  | vec0 a cap h => exact fun _ => .vec0 _ _ h
  | vec rows es b p cap us hcap hes hl hc hr ih =>
    rintro ⟨u0, h0⟩
    have := rows_kid h0 (.inl ⟨_, rfl, rfl⟩)
    exact .vec _ _ _ _ _ us hcap hes hl (fun i r j x h h' => ⟨ki _ _ (hc i r j x h h').1, (hc i r j x h h').2⟩) fun i r j x h h' => ih i r j x h h' (this i r j x h h')
  | lit0 a => exact fun _ => .lit0 _
  | lit rows es b p us hes hl hc hr ih =>
    rintro ⟨u0, h0⟩
    have := rows_kid h0 (.inr (.inl ⟨_, rfl, rfl⟩))
    exact .lit _ _ _ _ us hes hl (fun i r j x h h' => ⟨ki _ _ (hc i r j x h h').1, (hc i r j x h h').2⟩) fun i r j x h h' => ih i r j x h h' (this i r j x h h')
  | own rows o g s us hs' hn hcap hes hl hc hr ih =>
    rintro ⟨u0, h0⟩
    have := rows_kid h0 (.inr (.inr (.inl ⟨_, _, _, rfl, rfl⟩)))
    cases h0 with
    | own _ _ _ s0 us0 hs0 =>
      cases hs _ _ _ _ hs' (hle.seg _ _ _ hs0)
      exact .own _ _ _ _ us (ks _ _ _ hs0) hn hcap hes hl (fun i r j x h h' => ⟨ki _ _ (hc i r j x h h').1, (hc i r j x h h').2⟩) fun i r j x h h' => ih i r j x h h' (this i r j x h h')
  | sref o g off len s hs' h hle' =>
    rintro ⟨u0, h0⟩
    cases h0 with
    | sref _ _ _ _ s0 hs0 => cases hs _ _ _ _ hs' (hle.seg _ _ _ hs0); exact .sref _ _ _ _ _ (ks _ _ _ hs0) h hle'
    | sref0 _ _ _ s0 hs0 => cases hs _ _ _ _ hs' (hle.seg _ _ _ hs0); exact .sref _ _ _ _ _ (ks _ _ _ hs0) h hle'
  | sref0 o g off s hs' h a =>
    rintro ⟨u0, h0⟩
    cases h0 with
    | sref _ _ _ _ s0 hs0 => cases hs _ _ _ _ hs' (hle.seg _ _ _ hs0); exact .sref0 _ _ _ _ (ks _ _ _ hs0) h _
    | sref0 _ _ _ s0 hs0 => cases hs _ _ _ _ hs' (hle.seg _ _ _ hs0); exact .sref0 _ _ _ _ (ks _ _ _ hs0) h _
  | map o b h =>
    rintro ⟨u0, h0⟩
    cases h0 with
    | map _ b0 h0 => cases hb _ _ _ h (hle.blk _ _ h0); exact .map _ _ (kb _ _ h0)
  | fn f first cap vf vc uf uc nf nc hf hc _ _ ihf ihc =>
    rintro ⟨u0, h0⟩
    cases h0 with
    | fn _ _ _ vf0 vc0 uf0 uc0 nf0 nc0 hf0 hc0 rf0 rc0 => exact .fn _ _ _ _ _ uf uc nf nc hf hc (fun j x h => ihf j x h ⟨_, rf0 j x h⟩) (fun j x h => ihc j x h ⟨_, rc0 j x h⟩)
  | yield l b h =>
    rintro ⟨u0, h0⟩
    cases h0 with
    | yield _ b0 h0 => cases hb _ _ _ h (hle.blk _ _ h0); exact .yield _ _ (kb _ _ h0)
  | agg cs vs us hn hl hv _ ih =>
    rintro ⟨u0, h0⟩
    cases h0 with
    | agg _ _ us0 hn0 hl0 hv0 hr0 => exact .agg _ _ us hn hl hv fun j x h => ih j x h ⟨_, hr0 j x h⟩
  | tup cs vs us hn hv _ ih =>
    rintro ⟨u0, h0⟩
    cases h0 with
    | tup _ _ us0 hn0 hv0 hr0 => exact .tup _ _ us hn hv fun j x h => ih j x h ⟨_, hr0 j x h⟩

omit [Pin] in
/-- The objects of a memory whose later state holds more: seen later, without what is more. -/
theorem ObjRel.back {G0 G1 G2 : Gh} {w0 w : World} {o : Nat} {a : AObj} (h : ObjRel G1 w o a) (h0 : ObjRel G0 w0 o a) (hle : G0.Le G1) (hb : ∀ o b b', G1.blk o b → G1.blk o b' → b = b') (hs : ∀ o g s s', G1.seg o g s → G1.seg o g s' → s = s')
    (kb : ∀ o b, G0.blk o b → G2.blk o b) (ks : ∀ o g s, G0.seg o g s → G2.seg o g s) (ki : ∀ b f, G1.im b f ↔ G2.im b f) : ObjRel G2 w o a := by
  have bk : ∀ {x : AV} {u u0 : Value}, Rep G1 w x u → Rep G0 w0 x u0 → Rep G2 w x u := fun hr hr0 => hr.back hle hb hs kb ks (fun b f => (ki b f).1) ⟨_, hr0⟩
  cases a with
  | dead => trivial
  | row cs lock =>
    obtain ⟨b, h1, h2, h3, h4⟩ := h
    obtain ⟨b0, g1, g2, g3, g4⟩ := h0
    cases hb _ _ _ h1 (hle.blk _ _ g1)
    refine ⟨b, kb _ _ g1, h2, fun j x hj => ?_, fun e f hf => h4 e f ((ki _ _).2 hf)⟩
    obtain ⟨a1, u, a2, a3⟩ := h3 j x hj
    obtain ⟨_, u0, _, b3⟩ := g3 j x hj
    exact ⟨a1, u, a2, bk a3 b3⟩
  | seq g es rows exp =>
    obtain ⟨s, h1, h2, h3, h4, h5⟩ := h
    obtain ⟨s0, g1, g2, g3, g4, g5⟩ := h0
    cases hs _ _ _ _ h1 (hle.seg _ _ _ g1)
    refine ⟨s, ks _ _ _ g1, h2, h3, h4, fun hcp => ?_⟩
    obtain ⟨a1, a2, a3⟩ := h5 hcp
    obtain ⟨b1, b2, b3⟩ := g5 hcp
    refine ⟨a1, fun i r j x hi hj => ?_, fun f hf => a3 f ((ki _ _).2 hf)⟩
    obtain ⟨c1, u, c2, c3⟩ := a2 i r j x hi hj
    obtain ⟨_, u0, _, d3⟩ := b2 i r j x hi hj
    exact ⟨c1, u, c2, bk c3 d3⟩
  | tail g =>
    obtain ⟨s, h1, h2, h3⟩ := h
    obtain ⟨s0, g1, g2, g3⟩ := h0
    cases hs _ _ _ _ h1 (hle.seg _ _ _ g1)
    exact ⟨s, ks _ _ _ g1, h2, fun hcp => ⟨(h3 hcp).1, fun f hf => (h3 hcp).2 f ((ki _ _).2 hf)⟩⟩
  | map es clock =>
    obtain ⟨b, h1, mes, h2, h3, h4⟩ := h
    obtain ⟨b0, g1, mes0, g2, g3, g4⟩ := h0
    cases hb _ _ _ h1 (hle.blk _ _ g1)
    refine ⟨b, kb _ _ g1, mes, h2, h3, fun i e hi => ?_⟩
    obtain ⟨m, a1, a2, a3, a4⟩ := h4 i e hi
    obtain ⟨m0, b1, b2, b3, b4⟩ := g4 i e hi
    exact ⟨m, a1, bk a2 b2, bk a3 b3, a4⟩
  | miter => exact h
  | siter s pos =>
    obtain ⟨b, h1, h2⟩ := h
    obtain ⟨b0, g1, g2⟩ := h0
    cases hb _ _ _ h1 (hle.blk _ _ g1)
    exact ⟨b, kb _ _ g1, h2⟩
  | loop st pend fn tmps ps asg body d =>
    obtain ⟨b, db, tm, fn', h1, h2, h3, h4⟩ := h
    obtain ⟨b0, db0, tm0, fn0, g1, g2, g3, g4⟩ := h0
    cases hb _ _ _ h1 (hle.blk _ _ g1)
    cases hb _ _ _ h2 (hle.blk _ _ g2)
    refine ⟨b, db, tm, fn', kb _ _ g1, kb _ _ g2, ⟨h3.1, fun j x hj => ?_⟩, h4⟩
    obtain ⟨u, a1, a2⟩ := h3.2 j x hj
    obtain ⟨u0, b1, b2⟩ := g3.2 j x hj
    exact ⟨u, a1, bk a2 b2⟩
  | dfr =>
    obtain ⟨b, h1, h2⟩ := h
    obtain ⟨b0, g1, g2⟩ := h0
    cases hb _ _ _ h1 (hle.blk _ _ g1)
    exact ⟨b, kb _ _ g1, h2⟩

/-- What a call has made is thrown away: its caller's memory is as it was. -/
theorem drop_step {G G1 : Gh} {S S1 : St} {w w1 : World} (h : Wrel G S w) (h1 : Wrel G1 S1 w1) (hst : Step G { S with base := S.n } w G1 S1 w1) :
    Wrel ⟨G.blk, G.seg, G1.im⟩ S w1 ∧ Step G S w ⟨G.blk, G.seg, G1.im⟩ S w1 := by
  have hown : ∀ o b, Owns ⟨G.blk, G.seg, G1.im⟩ S o b → Owns G S o b := fun o b ⟨a, ha, ho⟩ => ⟨a, ha, ho.back (fun _ x => x) fun _ _ _ x => x⟩
  have hg : G.Le ⟨G.blk, G.seg, G1.im⟩ := ⟨fun _ _ x => x, fun _ _ _ x => x, fun b f x => hst.le.im b f x⟩
  refine ⟨⟨h.len, h.base, fun o a ha => ?_, fun o o' b x y => h.inj o o' b (hown _ _ x) (hown _ _ y), fun o b x => Nat.lt_of_lt_of_le (h.lt o b (hown _ _ x)) hst.size, h.fblk, h.fseg, h.bblk, h.bseg, fun b f hi => h1.im b f hi, fun b x hx => ⟨(h1.pin b x hx).1, fun o ho => (h.pin b x hx).2 o (hown o b ho)⟩⟩, ?_⟩
  · have hlt := St.get_lt ha
    have ha1 : S1.get o = some a := by rw [hst.low o hlt]; exact ha
    exact (h1.obj o a ha1).back (h.obj o a ha) hst.le h1.fblk h1.fseg (fun _ _ x => x) (fun _ _ _ x => x) fun _ _ => Iff.rfl
  · exact ⟨⟨hg, hst.kept, hst.size, hst.os, hst.tape, hst.output, fun b hb hn => hst.frame b hb hn, fun o b x => .inl ⟨o, hown o b x⟩, fun b f hi => hst.newim b f hi, rfl, Nat.le_refl _, fun _ _ => rfl⟩, fun _ _ h => ⟨h, fun _ h => h⟩⟩

theorem wrel_base {G : Gh} {S : St} {w : World} (h : Wrel G S w) : Wrel G { S with base := S.n } w :=
  ⟨h.len, Nat.le_refl _, h.obj, h.inj, h.lt, h.fblk, h.fseg, h.bblk, h.bseg, h.im, h.pin⟩

theorem wrel_nil {G : Gh} {S : St} {w : World} (h : Wrel G S w) : Wrel ⟨fun _ _ => False, fun _ _ _ => False, G.im⟩ St.nil w :=
  ⟨rfl, Nat.le_refl _, fun o a ha => by have := St.get_lt ha; simp [St.nil] at this, fun o o' b ⟨a, ha, _⟩ => by have := St.get_lt ha; simp [St.nil] at this, fun o b ⟨a, ha, _⟩ => by have := St.get_lt ha; simp [St.nil] at this,
    fun _ _ _ x => x.elim, fun _ _ _ _ x => x.elim, fun _ _ x => x.elim, fun _ _ _ x => x.elim, h.im, fun b x hx => ⟨(h.pin b x hx).1, fun o ⟨a, ha, _⟩ => by have := St.get_lt ha; simp [St.nil] at this⟩⟩


theorem frz_locks {G : Gh} {S : St} {w : World} {x y : AV} {v : Value} {l : List (Nat × Nat)} (hW : Wrel G S w) (h : frz S x = some (y, l)) (hr : Rep G w x v) : ∀ o k, (o, k) ∈ l → ∃ g es rows exp, S.get o = some (.seq g es rows exp) :=
  (frz_rep (IM := fun _ _ => True) (G' := G.withIm fun _ _ => True) hW h hr (fun _ _ _ => trivial) (fun _ _ _ _ _ _ _ _ _ _ _ _ _ _ _ => trivial) fun _ _ _ => trivial).2

theorem callM_ok {R : Rec} (hR : ∀ f args S r S', R.call f args S = some (r, S') → CallOk P f args S r S') {f : FuncId} {args : List AV} {S S' : St} {r : AV} (h : callM c R f args S = some (r, S')) : CallOk P f args S r S' := by
  unfold callM at h
  split at h
  · exact hR _ _ _ _ _ h
  · -- pure
    simp only [Option.bind_eq_some_iff, Option.map_eq_some_iff, Prod.mk.injEq] at h
    obtain ⟨⟨a, la⟩, ha, ⟨q, Sq⟩, hq, ⟨v, lv⟩, hv, S1, hS1, rfl, rfl⟩ := h
    intro G w vs hW hargs
    obtain ⟨IM, hW1, hst1, hL, _⟩ := lockAll_ok hW hS1
    have h0 := wrel_nil hW1
    obtain ⟨hra, _⟩ := frzLA_rep (G' := ⟨fun _ _ => False, fun _ _ _ => False, IM⟩) hW ha hargs (fun b f hi => hst1.le.im b f hi) hL fun _ _ x => x
    obtain ⟨c1, c2⟩ := hR _ _ _ _ _ hq _ w vs h0 hra
    refine ⟨c1, c2.mono fun e w' ⟨G', u, he, hW', hst', hu⟩ => ?_⟩
    have hlk := frz_locks hW' hv hu
    obtain ⟨S2, hS2⟩ := lockAll_some hW' fun o k hm => ⟨by rw [hst'.base]; exact Nat.zero_le _, hlk o k hm⟩
    obtain ⟨IM2, hW2, hst2, hL2, _⟩ := lockAll_ok hW' hS2
    have hst3 := hst'.trans hst2
    have hno : ∀ o b, ¬ Owns ⟨fun _ _ => False, fun _ _ _ => False, IM⟩ St.nil o b := fun o b ⟨a, ha, _⟩ => by have := St.get_lt ha; simp [St.nil] at this
    have hlaid : Laid w w' := ⟨hst'.size, hst'.os, hst'.tape, hst'.output, fun k hk => hst'.frame k hk fun o => hno o k⟩
    obtain ⟨g1, g2⟩ := im_step hW1 hlaid (fun b f => IM2 b f ∧ w.heap.size ≤ b) fun b f ⟨x, y⟩ => ⟨y, hW2.im b f x⟩
    refine ⟨_, u, he, g1, hst1.trans g2, (frz_rep hW' hv hu (fun b f hi => hst2.le.im b f hi) hL2 fun b f hi => ?_).1⟩
    rcases hst3.newim b f hi with hi' | ⟨o, ho⟩ | hi'
    · exact .inl hi'
    · exact (hno o b ho).elim
    · exact .inr ⟨hi, hi'⟩
  · -- temp
    simp only [Option.bind_eq_some_iff, Option.map_eq_some_iff, Prod.mk.injEq] at h
    obtain ⟨⟨q, Sq⟩, hq, ⟨v, lv⟩, hv, S1, hS1, rfl, rfl⟩ := h
    intro G w vs hW hargs
    obtain ⟨c1, c2⟩ := hR _ _ _ _ _ hq _ w vs (wrel_base hW) hargs
    refine ⟨c1, c2.mono fun e w' ⟨G', u, he, hW', hst', hu⟩ => ?_⟩
    have hlk := frz_locks hW' hv hu
    obtain ⟨S2, hS2⟩ := lockAll_some (l := lv.filter fun q => !decide (q.1 < S.n)) hW' fun o k hm => by
      rw [List.mem_filter] at hm
      refine ⟨?_, hlk o k hm.1⟩
      rw [hst'.base]
      simpa using hm.2
    obtain ⟨IM2, hW2, hst2, hL2, _⟩ := lockAll_ok hW' hS2
    obtain ⟨k1, k2⟩ := drop_step hW hW2 (hst'.trans hst2)
    obtain ⟨IM3, hW3, hst3, hL3, _⟩ := lockAll_ok k1 hS1
    refine ⟨_, u, he, hW3, k2.trans hst3, (frz_rep hW' hv hu (IM := IM3) (fun b f hi => hst3.le.im b f (hst2.le.im b f hi)) ?_ fun b f hi => hi).1⟩
    intro o k hm g es rows exp s hg hs hcp f f1 f2 f3
    by_cases ho : o < S.n
    · have hg' : S.get o = some (.seq g es rows exp) := (hst'.low o ho).symm.trans hg
      obtain ⟨s0, hs0, _⟩ := hW.obj o _ hg'
      cases hW'.fseg _ _ _ _ hs (hst'.le.seg _ _ _ hs0)
      exact hL3 o k (List.mem_filter.2 ⟨hm, by simpa using ho⟩) g es rows exp s hg' hs0 hcp f f1 f2 f3
    · exact hst3.le.im _ _ (hL2 o k (List.mem_filter.2 ⟨hm, by simpa using ho⟩) g es rows exp s hg hs hcp f f1 f2 f3)

theorem callF_ok (hc : CfgOk P c) {R : Rec} (hR : ∀ f args S r S', R.call f args S = some (r, S') → CallOk P f args S r S') {f : FuncId} {args : List AV} {S S' : St} {r : AV} (h : callF c R f args S = some (r, S')) : CallOk P f args S r S' := by
  unfold callF at h
  split at h
  · rename_i F hF
    exact fun G w vs hW hv => hc.ext f _ hF G S S' w args vs r h hW hv
  · rename_i F hF
    split at h
    · rename_i q hq
      simp only [Option.some.injEq] at h
      subst h
      exact fun G w vs hW hv => hc.ext f _ hF G S S' w args vs r hq hW hv
    · exact callM_ok hR h
  · exact callM_ok hR h

end Go.Am

/- THE ABSTRACT MACHINE, SEVENTEENTH FILE: a function's body, from its first operation to its results. -/
set_option linter.unusedSimpArgs false
set_option linter.unusedVariables false
namespace Go.Am
open Go.RowKit
variable [Pin] {P : Program} {c : Cfg}

def toExit : Ex → Exit
  | .nrm => .normal
  | .exit id => .exit id
  | .goto l => .goto l
  | .ret => .ret

/-- The marks among an activation's deferred calls. -/
def DefRel (G : Gh) : List Nat → List Deferred → Prop
  | [], [] => True
  | m :: ms, d :: ds => (∃ b, G.blk m b ∧ d = { target := .collected b, args := #[] }) ∧ DefRel G ms ds
  | _, _ => False

omit [Pin] in
theorem DefRel.mono {G G' : Gh} (hg : G.Le G') : ∀ {ms : List Nat} {ds : List Deferred}, DefRel G ms ds → DefRel G' ms ds
  | [], [], h => trivial
  | m :: ms, d :: ds, ⟨⟨b, h1, h2⟩, h⟩ => ⟨⟨b, hg.blk _ _ h1, h2⟩, DefRel.mono hg h⟩

def RoundRel (G : Gh) : Option Nat → Option Nat → Prop
  | none, none => True
  | some l, some b => G.blk l b
  | _, _ => False

omit [Pin] in
theorem RoundRel.mono {G G' : Gh} (hg : G.Le G') : ∀ {a b : Option Nat}, RoundRel G a b → RoundRel G' a b
  | none, none, h => trivial
  | some l, some b, h => hg.blk _ _ h

def FR (rd : Option Nat) : Fence := { Fence.wide with round := rd }

omit [Pin] in
theorem callsIn_FR {rd : Option Nat} {n : Nat} {f : FuncId} {args : Array Value} {w : World} {R : Ending → World → Prop} (h : Calls P f args w R) : CallsIn (FR rd) n P f args w R := by
  have h' : CallsIn Fence.wide n P f args w R := callsIn_wide.2 h
  exact h'

/-- What a piece of code is worth. -/
def CodeOk (P : Program) (code : Code) (fr : Fr) (S : St) (ex : Ex) (fr' : Fr) (S' : St) : Prop :=
  fr'.fn = fr.fn ∧ fr'.round = fr.round ∧
  ∀ (G : Gh) (w : World) (a : Act) (rd : Option Nat) (Q : Exit → Act → World → Prop), Wrel G S w → RepL G w fr.tmps a.tmps.toList → DefRel G fr.marks a.defers → RoundRel G fr.round rd →
    (∀ G' w' a', Wrel G' S' w' → Step G S w G' S' w' → RepL G' w' fr'.tmps a'.tmps.toList → DefRel G' fr'.marks a'.defers → Q (toExit ex) a' w') → code.wpIn (FR rd) 0 P Q a w

/-! ### Objects that are no cells -/
theorem noim_of_obj {G : Gh} {S : St} {w : World} (h : Wrel G S w) {b : Nat} {ob : Obj} (hb : w.heap[b]? = some ob) (hn : ∀ c e f, ob ≠ .cells c e f) (f : Nat) : ¬ G.im b f := fun hi => by
  obtain ⟨u, hu⟩ := h.im b f hi
  unfold World.cell? at hu
  rw [hb] at hu
  cases ob <;> first | exact absurd rfl (hn _ _ _) | simp at hu

omit [Pin] in
theorem putObj_turned (w : World) (b : Nat) (ob : Obj) : Turned b w (w.putObj b ob) :=
  ⟨by simp, rfl, rfl, rfl, fun k hk hne => World.putObj_heap_other hne⟩

theorem putObj_kept {G : Gh} {S : St} {w : World} (h : Wrel G S w) {b : Nat} {ob ob' : Obj} (hb : w.heap[b]? = some ob) (hn : ∀ c e f, ob ≠ .cells c e f) : Kept G w (w.putObj b ob') := fun b' f u hi hu => by
  have hne : b' ≠ b := fun e => noim_of_obj h hb hn f (e ▸ hi)
  rw [World.cell?_of_block (w := w) (World.putObj_heap_other hne)]
  exact hu

/-- An object that is no row of cells turns into another such. -/
theorem put_step {G : Gh} {S : St} {w : World} {o b : Nat} {a0 a : AObj} {ob ob' : Obj} (h : Wrel G S w) (hget : S.get o = some a0) (hbase : S.base ≤ o) (hown : ownsA G o a0 b) (hb : w.heap[b]? = some ob) (hn : ∀ c e f, ob ≠ .cells c e f)
    (hg0 : genOf a0 = none) (hg : genOf a = none) (ho : ∀ b', ownsA G o a b' → ownsA G o a0 b') (hobj : Kept G w (w.putObj b ob') → ObjRel G (w.putObj b ob') o a) :
    Wrel G (S.set o a) (w.putObj b ob') ∧ Step G S w G (S.set o a) (w.putObj b ob') := by
  have hk := putObj_kept (ob' := ob') h hb hn
  exact upd_step (b := b) h hget (fun e => by subst e; exact hown) hbase (putObj_turned w b ob') (.inl hown) (.refl G) hk (fun _ _ x => x) (fun _ _ _ x => .inl x) (fun _ _ x => by rw [hg0] at x; cases x) (fun _ x => by rw [hg] at x; cases x) (fun _ _ _ x y => h.fseg _ _ _ _ x y)
    (fun _ _ x => .inl x) (fun b' x => .inl (ho b' x)) (hobj hk)

/-! ### Results -/
omit [Pin] in
theorem one_rep {G : Gh} {w : World} {l : List AV} {vs : List Value} (h : RepL G w l vs) : Rep G w (one l) (if h : vs.toArray.size = 1 then vs.toArray[0] else .tuple vs.toArray) := by
  match l, vs, h with
  | [x], [v], h =>
    obtain ⟨u, hu, hr⟩ := h.get (j := 0) (x := x) rfl
    simp at hu
    subst hu
    simpa [one] using hr
  | [], vs, h =>
    obtain rfl := h.nil_inv
    simp only [one]
    exact rep_tup.2 h
  | x :: y :: l, vs, h =>
    have h1 := h.1
    rw [dif_neg (by simp at h1 ⊢; omega)]
    simp only [one]
    exact rep_tup.2 h
  | [x], [], h => exact absurd h.1 (by simp)
  | [x], v :: v' :: vs, h => exact absurd h.1 (by simp)

theorem run_results (hc : CfgOk P c) {G : Gh} {S : St} {w : World} {tm : List AV} {tmps : Array Value} (hW : Wrel G S w) (ht : RepL G w tm tmps.toList) (f : ResultVar → Sem Value)
    (hf : ∀ u, f (.tmp u) = pure (tmps.getD u undef)) (hcell : ∀ a t, f (.cell a t) = (do loadVar t (← asAddr (tmps.getD a undef)))) :
    ∀ {rs : List ResultVar} {l : List AV}, aresults c S tm rs = some l → ∃ us, (rs.mapM f).run P w = .ok us w ∧ RepL G w l us
  | [], l, h => by
    simp [aresults] at h
    subst h
    exact ⟨[], by simp, RepL.nil _ _⟩
  | .tmp u :: rs, l, h => by
    simp only [aresults, Option.map_eq_some_iff] at h
    obtain ⟨l', hl, rfl⟩ := h
    obtain ⟨us, h1, h2⟩ := run_results hc hW ht f hf hcell hl
    refine ⟨tmps.getD u undef :: us, by simp [List.mapM_cons, hf, h1], RepL.cons ?_ h2⟩
    have := ht.getD u
    simpa [Array.getD_eq_getD_getElem?, List.getD] using this
  | .cell a t :: rs, l, h => by
    simp only [aresults, Option.map_eq_some_iff, Option.bind_eq_some_iff] at h
    obtain ⟨i, hi, v, hv, l', hl, rfl⟩ := h
    obtain ⟨us, h1, h2⟩ := run_results hc hW ht f hf hcell hl
    have hu : Rep G w (tm.getD a .undef) (tmps.getD a undef) := by
      have := ht.getD a
      simpa [Array.getD_eq_getD_getElem?, List.getD] using this
    obtain ⟨q, k1, k2⟩ := run_aload hc hW hi hv hu
    have hp : ∃ ad, tmps.getD a undef = .pointer (some ad) := by
      generalize tm.getD a .undef = x at hv hu
      generalize tmps.getD a undef = y at hu
      unfold St.load at hv
      split at hv
      · cases hu; exact ⟨_, rfl⟩
      · cases hu; exact ⟨_, rfl⟩
      · cases hu; exact ⟨_, rfl⟩
      · simp at hv
    obtain ⟨ad, had⟩ := hp
    rw [had] at k1
    refine ⟨q :: us, ?_, RepL.cons k2 h2⟩
    have k1' : (loadVar t ad).run P w = .ok q w := by simpa [Instr.loadAt, Instr.sureAddr] using k1
    rw [List.mapM_cons, hcell, had]
    simp [asAddr, k1', h1]

/-! ### The way out -/
theorem leaves_ok (hc : CfgOk P c) {fn : Func} {tm l : List AV} {tmps : Array Value} {R : Ending → World → Prop} :
    ∀ {ms : List Nat} {ds : List Deferred} {G : Gh} {S S2 : St} {w : World}, Wrel G S w → DefRel G ms ds → unmark S ms = some S2 → RepL G w tm tmps.toList → aresults c S2 tm fn.results.toList = some l →
      (∀ G' w' u, Wrel G' S2 w' → Step G S w G' S2 w' → Rep G' w' (one l) u → R (.returned u) w') → LeavesInM (FR none) 0 P fn tmps R ds .returning w
  | [], [], G, S, S2, w, hW, hd, hu, ht, hr, h => by
    simp [unmark] at hu
    subst hu
    have key : ∀ f : ResultVar → Sem Value, (∀ u, f (.tmp u) = pure (tmps.getD u undef)) → (∀ a t, f (.cell a t) = (do loadVar t (← asAddr (tmps.getD a undef)))) →
        ∃ v, (do let vs ← fn.results.mapM f; pure (if h : vs.size = 1 then vs[0] else .tuple vs) : Sem Value).run P w = .ok v w ∧ R (.returned v) w := fun f hf hcell => by
      obtain ⟨us, h1, h2⟩ := run_results hc hW ht f hf hcell hr
      refine ⟨_, ?_, h G w _ hW (.refl _ _ _) (one_rep h2)⟩
      rw [Array.mapM_eq_mapM_toList]
      simp only [Sem.run_bind, Sem.run_map, h1, Result.andThen, Sem.run_pure]
    exact key _ (fun u => rfl) (fun a t => rfl)
  | m :: ms, d :: ds, G, S, S2, w, hW, hd, hu, ht, hr, h => by
    obtain ⟨⟨b, hb, rfl⟩, hd⟩ := hd
    rw [unmark] at hu
    split at hu
    · rename_i hget
      simp only [Option.bind_eq_some_iff] at hu
      obtain ⟨S1, hp, hu⟩ := hu
      obtain ⟨hbase, rfl⟩ := St.putO_some hp
      obtain ⟨b', hb', hheap⟩ := hW.obj _ _ hget
      cases hW.fblk _ _ _ hb hb'
      obtain ⟨g1, g2⟩ := put_step (a := .dead) (ob' := .deferred none) hW hget hbase hb hheap (by simp) rfl rfl (fun b' x => x.elim) fun _ => trivial
      refine ⟨by simp, .inl ⟨b, _, rfl, run_takeDeferred hheap, ?_⟩⟩
      exact leaves_ok hc g1 hd hu (g2.repL ht) hr fun G' w' u hW' hst hu => h G' w' u hW' (g2.trans hst) hu
    · simp at hu
  | [], d :: ds, G, S, S2, w, hW, hd, _, _, _, _ => hd.elim
  | m :: ms, [], G, S, S2, w, hW, hd, _, _, _, _ => hd.elim

theorem callS_ok (hc : CfgOk P c) {R : Rec} (hR : ∀ code fr S ex fr' S', R.code code fr S = some (ex, fr', S') → CodeOk P code fr S ex fr' S') {f : FuncId} {args : List AV} {S S' : St} {r : AV} (h : callS c R f args S = some (r, S')) : CallOk P f args S r S' := by
  unfold callS at h
  simp only [Option.bind_eq_some_iff] at h
  obtain ⟨fn, hfn, b, hb, ⟨ex, fr', S1⟩, hrun, h⟩ := h
  split at h
  · rename_i hex
    simp only [Option.bind_eq_some_iff, Option.map_eq_some_iff, Prod.mk.injEq] at h
    obtain ⟨S2, hS2, l, hl, rfl, rfl⟩ := h
    obtain ⟨hf, hname⟩ := hc.fn f fn hfn
    obtain ⟨_, _, hcode⟩ := hR _ _ _ _ _ _ hrun
    intro G w vs hW hv
    refine ⟨by simp [callFunc, Sem.run_bind, hf, hb]; simpa using hname, ?_⟩
    refine callsIn_wide.1 (callsIn_of_wp_marks (n := 0) (F := Fence.wide) hf hb trivial ?_)
    have hlen := hv.1
    simp at hlen
    refine hcode G w _ none _ hW ?_ trivial trivial fun G' w' a' hW' hst ht hd => ?_
    · have := hv.append (RepL.replicate (G := G) (w := w) (fn.ntmps - args.length) (x := .undef) (v := undef) .undef)
      simpa [hlen] using this
    · have hex' : bodyPostM Fence.wide 0 P fn (fun e w' => ∃ G' u, e = .returned u ∧ Wrel G' S2 w' ∧ Step G S w G' S2 w' ∧ Rep G' w' (one l) u) (toExit ex) a' w' =
          LeavesInM Fence.wide 0 P fn a'.tmps (fun e w' => ∃ G' u, e = .returned u ∧ Wrel G' S2 w' ∧ Step G S w G' S2 w' ∧ Rep G' w' (one l) u) a'.defers .returning w' := by
        rcases hex with e | e <;> (simp only at e; subst e; rfl)
      rw [hex']
      exact leaves_ok hc hW' hd hS2 ht hl fun G'' w'' u hW'' hst' hu => ⟨G'', u, rfl, hW'', hst.trans hst', hu⟩
  · simp at h

end Go.Am

/- THE ABSTRACT MACHINE, EIGHTEENTH FILE: operations that turn memory, calls among them. -/
set_option linter.unusedSimpArgs false
set_option linter.unusedVariables false
namespace Go.Am
open Go.RowKit
variable [Pin] {P : Program} {c : Cfg}

omit [Pin] in
theorem chunk_get {es : Nat} : ∀ {n : Nat} {cs : List AV} {i : Nat} {r : List AV}, (chunk es n cs)[i]? = some r → i < n ∧ r = (cs.drop (i * es)).take es
  | 0, cs, i, r, h => by simp [chunk] at h
  | n + 1, cs, 0, r, h => by simp [chunk] at h; subst h; simp
  | n + 1, cs, i + 1, r, h => by
    simp [chunk] at h
    obtain ⟨h1, h2⟩ := chunk_get h
    refine ⟨by omega, ?_⟩
    rw [h2, List.drop_drop, Nat.add_mul, Nat.one_mul, Nat.add_comm]

omit [Pin] in
theorem chunk_length {es : Nat} : ∀ (n : Nat) (cs : List AV), (chunk es n cs).length = n
  | 0, cs => rfl
  | n + 1, cs => by simp [chunk, chunk_length n]

/-- x[l:h] of an array: its cells are written no more. -/
theorem comes_sliceA (hc : CfgOk P c) {G : Gh} {S S' : St} {w : World} {t e : TypeId} {ei : Ty} {n ob off h' l' : Nat} {cs : List AV} {lk : Bool} {hi lo : Option AV} {vhi vlo : Option Value} {u : Value} (hW : Wrel G S w) (hk : kindOf c t = .array n e) (he : c.ty e = some ei)
    (hu : Rep G w (.ptr ob off) u) (hget : S.get ob = some (.row cs lk)) (h1 : bnd hi n n = some h') (h2 : bnd lo 0 h' = some l') (rl : RepO G w lo vlo) (rh : RepO G w hi vhi) (hle : off + n * ei.size ≤ cs.length ∧ 0 < ei.size) (hp : S.putO ob (.row cs true) = some S') :
    Comes1 P (do pure (.value (← Instr.sliceAt t u vlo vhi none))) G S w (.vec (chunk ei.size (h' - l') (cs.drop (off + l' * ei.size)))) S' := by
  have ht := kind_array hc hk
  obtain ⟨hbase, rfl⟩ := St.putO_some hp
  obtain ⟨hb, hlh, hhl⟩ := run_bounds (P := P) (isS := false) (Nat.le_refl n) h1 h2 rl rh
  cases hu with
  | ptr _ _ b hblk =>
    obtain ⟨hcs, hop, him⟩ := hW.row hget hblk
    have hg : G.Le (G.withIm fun b' f => G.im b' f ∨ (b' = b ∧ f < cs.length)) := ⟨fun _ _ x => x, fun _ _ _ x => x, fun _ _ x => .inl x⟩
    have hkp : Kept G w w := fun _ _ _ _ x => x
    obtain ⟨g1, g2⟩ := upd_step (b := b) (a := .row cs true) hW hget (fun e => by cases e) hbase (Turned.of_laid (Laid.refl w)) (.inr (Laid.refl w)) hg hkp (fun _ _ x => x) (fun _ _ _ x => .inl x) (fun a b h1 h2 => by simp [genOf] at h1) (fun _ x => by simp [genOf] at x)
      (fun g' s1 s2 h1 h2 => hW.fseg _ _ _ _ h1 h2) (fun b' f hi => hi.imp id fun ⟨x, y⟩ => by
        subst x
        have := (hop f y).1
        rw [Nat.zero_add] at this
        exact ⟨.inl hblk, Option.isSome_iff_exists.1 this⟩) (fun b' hb => .inl hb)
      ⟨b, hblk, hop, fun j x hj => by
        obtain ⟨a1, u, a2, a3⟩ := hcs j x hj
        rw [Nat.zero_add] at a2
        exact ⟨a1, u, a2, a3.mono hg hkp⟩, fun e => by simp at e⟩
    refine comes_value' (u := .slice (some (if n = l' then ⟨b, off, none⟩ else (⟨b, off, none⟩ : Addr).add (l' * ei.size))) (h' - l') (n - l')) (w' := w) ?_ g1 g2 ?_
    · have := hb (fun q => do let size ← sizeOf e; pure (Value.slice (some (if q.2.2 = q.1 then ⟨b, off, none⟩ else (⟨b, off, none⟩ : Addr).add (q.1 * size))) (q.2.1 - q.1) (q.2.2 - q.1)))
      simp only [Instr.sliceAt, Sem.run_bind, run_underlying ht, Result.andThen_ok, Instr.sureAddr, Sem.run_pure]
      simp only [Sem.run_bind] at this
      simpa [Sem.run_bind, ty_size hc he] using this
    · by_cases h0 : h' - l' = 0
      · rw [h0]
        exact .vec0 _ _ fun e => by simp at e
      · rw [if_neg (by omega)]
        have hat : RowsAt (G.withIm fun b' f => G.im b' f ∨ (b' = b ∧ f < cs.length)) w b (off + l' * ei.size) ei.size (chunk ei.size (h' - l') (cs.drop (off + l' * ei.size))) := by
          have hbound : ∀ i, i < h' - l' → off + l' * ei.size + i * ei.size + ei.size ≤ cs.length := fun i hi => by
            have : (l' + i + 1) * ei.size ≤ n * ei.size := Nat.mul_le_mul_right _ (by omega)
            rw [Nat.add_mul, Nat.add_mul] at this
            omega
          refine ⟨fun i r hi => ?_, fun i r j x hi hj => ?_⟩ <;> obtain ⟨k1, k2⟩ := chunk_get hi <;> have hbd := hbound i k1
          · rw [k2, List.drop_drop]; simp; omega
          · rw [k2, List.drop_drop, List.getElem?_take] at hj
            split at hj
            · rename_i hlt
              rw [List.getElem?_drop] at hj
              obtain ⟨a1, u, a2, a3⟩ := hcs _ x hj
              rw [Nat.zero_add] at a2
              exact ⟨a1, u, ⟨.inr ⟨rfl, by omega⟩, a2⟩, a3.mono hg hkp⟩
            · simp at hj
        have := rep_vec hat (cap := n - l') (by rw [chunk_length]; omega)
        rw [chunk_length] at this
        simpa [Addr.add_mid] using this

/-! ### Operations in code -/
/-- What an operation is worth. -/
def OpOk (P : Program) (tm : List AV) (o : Oper) (S : St) (v : AV) (S' : St) : Prop :=
  ∀ (G : Gh) (w : World) (a : Act) (rd : Option Nat) (K : Act → World → Prop) (Q : Exit → Act → World → Prop), Wrel G S w → RepL G w tm a.tmps.toList →
    (∀ G' w' u, Wrel G' S' w' → Step G S w G' S' w' → Rep G' w' v u → K (a.put o.dst u) w') → o.wpIn (FR rd) 0 P a w K Q

theorem opOk_of_comes {tm : List AV} {o : Oper} {S S' : St} {v : AV} (hd : ∀ cl, o.op ≠ .defer cl) (h : ∀ (G : Gh) (w : World) (a : Act), Wrel G S w → RepL G w tm a.tmps.toList → Comes1 P (execOp a.eval o) G S w v S') : OpOk P tm o S v S' := by
  intro G w a rd K Q hW ht hK
  obtain ⟨nx, u, w', G', h1, h2, h3, h4, h5⟩ := h G w a hW ht
  refine ⟨fun f _ => trivial, ?_⟩
  rw [Oper.semAt_eq _ _ _ hd, h1]
  rcases h2 with rfl | ⟨rfl, rfl⟩
  · exact hK G' w' u h3 h4 h5
  · exact hK G' w' _ h3 h4 h5

omit [Pin] in
theorem aval_nodefer {tm : List AV} {o : Oper} {S : St} {v : AV} (h : aval c tm o S = some v) : ∀ cl, o.op ≠ .defer cl := fun cl e => by
  unfold aval at h
  rw [e] at h
  simp at h

theorem aval_ok (hc : CfgOk P c) {tm : List AV} {o : Oper} {S : St} {v : AV} (h : aval c tm o S = some v) : OpOk P tm o S v S :=
  opOk_of_comes (aval_nodefer h) fun G w a hW ht => aval_sound hc hW ht h

end Go.Am

/- THE ABSTRACT MACHINE, NINETEENTH FILE: calls and rounds. -/
set_option linter.unusedSimpArgs false
set_option linter.unusedVariables false
namespace Go.Am
open Go.RowKit
variable [Pin] {P : Program} {c : Cfg}

/-- What a loop is worth: its rounds, so and so many. -/
def LoopOk (P : Program) (b : Code) (fr : Fr) (S : St) (ex : Ex) (fr' : Fr) (S' : St) : Prop :=
  fr'.fn = fr.fn ∧ fr'.round = fr.round ∧
  ∃ m, ∀ (G : Gh) (w : World) (a : Act) (rd : Option Nat) (Q : Exit → Act → World → Prop), Wrel G S w → RepL G w fr.tmps a.tmps.toList → DefRel G fr.marks a.defers → RoundRel G fr.round rd →
    (∀ G' w' a', Wrel G' S' w' → Step G S w G' S' w' → RepL G' w' fr'.tmps a'.tmps.toList → DefRel G' fr'.marks a'.defers → Q (toExit ex) a' w') → Code.roundsIn (FR rd) 0 P b Q m a w

/-- What the parts of a machine that lies deeper are worth. -/
structure RecOk (P : Program) (R : Rec) : Prop where
  code : ∀ code fr S ex fr' S', R.code code fr S = some (ex, fr', S') → CodeOk P code fr S ex fr' S'
  loop : ∀ b fr S ex fr' S', R.code (.loop b) fr S = some (ex, fr', S') → LoopOk P b fr S ex fr' S'
  call : ∀ f args S r S', R.call f args S = some (r, S') → CallOk P f args S r S'

omit [Pin] in
theorem fold_rep {G : Gh} {w : World} : ∀ {pa : List (Tmp × AV)} {pv : List (Tmp × Value)} {tm : List AV} {tmps : Array Value}, pv.length = pa.length → (∀ (j : Nat) (x : Tmp × AV), pa[j]? = some x → ∃ u, pv[j]? = some (x.1, u) ∧ Rep G w x.2 u) → RepL G w tm tmps.toList →
    RepL G w (pa.foldl (fun t q => t.set q.1 q.2) tm) (pv.foldl (fun t q => t.setIfInBounds q.1 q.2) tmps).toList
  | [], [], tm, tmps, hl, h, ht => ht
  | x :: pa, y :: pv, tm, tmps, hl, h, ht => by
    obtain ⟨u, hu, hr⟩ := h 0 x rfl
    simp at hu
    subst hu
    rw [List.foldl_cons, List.foldl_cons]
    refine fold_rep (pa := pa) (pv := pv) (by simpa using hl) (fun j x hj => by simpa using h (j + 1) x (by simpa using hj)) ?_
    rw [Array.toList_setIfInBounds]
    exact ht.set _ hr
  | [], _ :: _, tm, tmps, hl, h, ht => by simp at hl
  | _ :: _, [], tm, tmps, hl, h, ht => by simp at hl

/-- A round of a loop over a function. -/
theorem yieldS_ok {R : Rec} (hR : RecOk P R) {l : Nat} {args : List AV} {S S' : St} {v : AV} (h : yieldS R l args S = some (v, S')) {G : Gh} {w : World} {b : Nat} {vs : Array Value} (hW : Wrel G S w) (hb : G.blk l b) (hv : RepL G w args vs.toList) :
    ∃ fn tmps asg body, (Instr.yield b vs).run P w = .ok (.round b fn tmps asg body) w ∧
      ∀ rd, RoundIn (FR rd) 0 P b fn tmps asg body w fun e w' => ∃ G' u, e = .returned u ∧ Wrel G' S' w' ∧ Step G S w G' S' w' ∧ Rep G' w' v u := by
  unfold yieldS at h
  split at h
  case h_2 => simp at h
  rename_i p0 fn tmps ps asg body d hget
  split at h
  case isFalse => simp at h
  rename_i hlen
  simp only [Option.bind_eq_some_iff] at h
  obtain ⟨⟨ex1, fr1, S1⟩, hasg, h⟩ := h
  split at h
  case isFalse => simp at h
  rename_i hex1
  simp only at hex1
  subst hex1
  split at h
  case h_2 => simp at h
  rename_i p fn' tmps' ps' asg' body' d' hget1
  simp only [Option.bind_eq_some_iff] at h
  obtain ⟨Sb, hp, ⟨ex2, fr2, S2⟩, hbody, h⟩ := h
  split at h
  case h_2 => simp at h
  rename_i st2 p2 fn2 tmps2 ps2 asg2 body2 d2 hget2
  simp only [Option.map_eq_some_iff, Prod.mk.injEq] at h
  obtain ⟨Se, hp2, rfl, rfl⟩ := h
  obtain ⟨b', db, tm, fnm, hb', hdb, htm, hheap⟩ := hW.obj _ _ hget
  cases hW.fblk _ _ _ hb hb'
  have hvl := hv.1
  have hy := run_yield (P := P) (args := vs) hheap (by simp at hvl ⊢; omega)
  refine ⟨_, _, _, _, hy, fun rd => roundIn_of_wpIn trivial ?_⟩
  obtain ⟨hfn1, hro1, hc1⟩ := hR.code _ _ _ _ _ _ hasg
  obtain ⟨hfn2, hro2, hc2⟩ := hR.code _ _ _ _ _ _ hbody
  simp only at hfn1 hro1 hfn2 hro2
  refine hc1 G w _ (some b) _ hW ?_ trivial hb fun G1 w1 a1 hW1 hst1 ht1 hd1 => ?_
  · rw [← Array.foldl_toList, Array.toList_zip]
    refine fold_rep ?_ (fun j x hj => ?_) htm
    · simp at hvl ⊢; omega
    · rw [List.getElem?_zip_eq_some] at hj
      obtain ⟨u, hu, hr⟩ := hv.get hj.2
      exact ⟨u, by rw [List.getElem?_zip_eq_some]; exact ⟨by simpa using hj.1, hu⟩, hr⟩
  · obtain ⟨b1, db1, tm1, fnm1, hb1, hdb1, htm1, hheap1⟩ := hW1.obj _ _ hget1
    cases hW1.fblk _ _ _ hb1 (hst1.le.blk _ _ hb)
    have hbase1 : S1.base ≤ l := by
      have := St.putO_some hp
      exact this.1
    obtain ⟨_, rfl⟩ := St.putO_some hp
    obtain ⟨g1, g2⟩ := put_step (a := .loop .busy p fn' tmps' ps' asg' body' d') (ob' := .loop { state := .busy, pending := exCode p, fn := fnm1, tmps := tm1, params := ps'.toArray, assign := asg', body := body', defers := db1 }) hW1 hget1 hbase1 hb1 hheap1 (by simp) rfl rfl (fun _ x => x)
      fun hk => ⟨b, db1, tm1, fnm1, hb1, hdb1, htm1.mono (.refl _) hk, World.putObj_heap_same (by obtain ⟨h, _⟩ := Array.getElem?_eq_some_iff.1 hheap1; exact h)⟩
    refine ⟨_, run_beginRound hheap1 rfl, ?_⟩
    refine hc2 G1 _ a1 (some b) _ g1 (g2.repL ht1) hd1 (by rw [hro1]; exact hb1) fun G2 w2 a2 hW2 hst2 ht2 hd2 => ?_
    obtain ⟨b2, db2, tm2, fnm2, hb2, hdb2, htm2, hheap2⟩ := hW2.obj _ _ hget2
    cases hW2.fblk _ _ _ hb2 (hst2.le.blk _ _ hb1)
    obtain ⟨hbase2, rfl⟩ := St.putO_some hp2
    obtain ⟨k1, k2⟩ := put_step (a := .loop (if ex2 = .nrm then .ready else .done) ex2 fn2 tmps2 ps2 asg2 body2 d2)
      (ob' := .loop { state := if (exCode ex2).isNone then .ready else .done, pending := exCode ex2, fn := fnm2, tmps := tm2, params := ps2.toArray, assign := asg2, body := body2, defers := db2 }) hW2 hget2 hbase2 hb2 hheap2 (by simp) rfl rfl (fun _ x => x)
      fun hk => ⟨b, db2, tm2, fnm2, hb2, hdb2, htm2.mono (.refl _) hk, by
        rw [World.putObj_heap_same (by obtain ⟨h, _⟩ := Array.getElem?_eq_some_iff.1 hheap2; exact h)]
        cases ex2 <;> simp [exCode]⟩
    have hend := run_endRound (P := P) (exCode ex2) hheap2
    have hfin : ∃ G' u, Ending.returned (.bool (exCode ex2).isNone) = .returned u ∧ Wrel G' (S2.set l (.loop (if ex2 = .nrm then .ready else .done) ex2 fn2 tmps2 ps2 asg2 body2 d2)) (w2.putObj b (.loop { state := if (exCode ex2).isNone then .ready else .done, pending := exCode ex2, fn := fnm2, tmps := tm2, params := ps2.toArray, assign := asg2, body := body2, defers := db2 })) ∧
        Step G S w G' (S2.set l (.loop (if ex2 = .nrm then .ready else .done) ex2 fn2 tmps2 ps2 asg2 body2 d2)) (w2.putObj b (.loop { state := if (exCode ex2).isNone then .ready else .done, pending := exCode ex2, fn := fnm2, tmps := tm2, params := ps2.toArray, assign := asg2, body := body2, defers := db2 })) ∧
        Rep G' (w2.putObj b (.loop { state := if (exCode ex2).isNone then .ready else .done, pending := exCode ex2, fn := fnm2, tmps := tm2, params := ps2.toArray, assign := asg2, body := body2, defers := db2 })) (.bool (decide (ex2 = .nrm))) u := by
      refine ⟨G2, _, rfl, k1, ((hst1.trans g2).trans hst2).trans k2, ?_⟩
      have : (exCode ex2).isNone = decide (ex2 = .nrm) := by cases ex2 <;> simp [exCode]
      rw [this]
      exact .bool _
    cases ex2 with
    | nrm => exact ⟨_, _, hend, hfin⟩
    | exit id => exact ⟨_, _, hend, hfin⟩
    | goto l => exact ⟨_, _, hend, hfin⟩
    | ret => exact ⟨_, _, hend, hfin⟩

/-! ### Maps -/
omit [Pin] in
theorem run_setObj_put {w : World} {r : Nat} {mes : Array MapEntry} {clock : Nat} (o : Obj) (hb : w.heap[r]? = some (.map mes clock)) : (setObj r o).run P w = .ok () (w.putObj r o) := by
  simp [setObj, Sem.run, hb, World.putObj]

theorem map_inv {G : Gh} {S : St} {w : World} {o : Nat} {es : List (AV × AV × Nat)} {clock : Nat} {u : Value} (hW : Wrel G S w) (hg : S.get o = some (.map es clock)) (hx : Rep G w (.map o) u) :
    ∃ b mes, u = .map (some b) ∧ G.blk o b ∧ w.heap[b]? = some (.map mes clock) ∧ RepE G w es mes.toList := by
  cases hx with
  | map _ b hb =>
    obtain ⟨b', hb', mes, h3, h4, h5⟩ := hW.obj o _ hg
    obtain rfl := hW.fblk o _ _ hb hb'
    refine ⟨b, mes, rfl, hb, h3, ⟨by simpa using h4, fun i e hi => ?_⟩⟩
    obtain ⟨m, k1, k2⟩ := h5 i e hi
    exact ⟨m, by simpa using k1, k2⟩

/-- A map's entries are others. -/
theorem map_put {G : Gh} {S : St} {w : World} {o b : Nat} {es es' : List (AV × AV × Nat)} {clock clock' : Nat} {mes mes' : Array MapEntry} (hW : Wrel G S w) (hg : S.get o = some (.map es clock)) (hbase : S.base ≤ o) (hb : G.blk o b) (hh : w.heap[b]? = some (.map mes clock))
    (hn : RepE G w es' mes'.toList) : Wrel G (S.set o (.map es' clock')) (w.putObj b (.map mes' clock')) ∧ Step G S w G (S.set o (.map es' clock')) (w.putObj b (.map mes' clock')) :=
  put_step hW hg hbase hb hh (fun c e f h => by cases h) rfl rfl (fun b' h => h) fun hk => ⟨b, hb, mes', World.putObj_heap_same (Array.getElem?_eq_some_iff.1 hh).1, by simpa using hn.1, fun i e hi => by
    obtain ⟨m, k1, k2, k3, k4⟩ := hn.2 i e hi
    exact ⟨m, by simpa using k1, k2.mono (.refl G) hk, k3.mono (.refl G) hk, k4⟩⟩

omit [Pin] in
theorem RepE.snoc {G : Gh} {w : World} {es : List (AV × AV × Nat)} {mes : Array MapEntry} (h : RepE G w es mes.toList) {k v : AV} {ku vu : Value} (hk : Rep G w k ku) (hv : Rep G w v vu) (n : Nat) :
    RepE G w (es ++ [(k, v, n)]) (mes.push { key := ku, val := vu, born := n }).toList := by
  refine ⟨by simp; simpa using h.1, fun i e hi => ?_⟩
  have hl : mes.size = es.length := by simpa using h.1
  by_cases hlt : i < es.length
  · rw [List.getElem?_append_left hlt] at hi
    obtain ⟨m, k1, k2⟩ := h.2 i e hi
    refine ⟨m, ?_, k2⟩
    rw [Array.toList_push, List.getElem?_append_left (by simp; omega)]; exact k1
  · rw [List.getElem?_append_right (by omega)] at hi
    have h0 : i - es.length = 0 := by
      have := (List.getElem?_eq_some_iff.1 hi).1
      simp at this; omega
    rw [h0] at hi
    simp at hi; subst hi
    refine ⟨{ key := ku, val := vu, born := n }, ?_, hk, hv, rfl⟩
    rw [Array.toList_push, List.getElem?_append_right (by simp; omega)]
    have : i - mes.toList.length = 0 := by simp; omega
    rw [this]; rfl

theorem comes_makeMap {G : Gh} {S : St} {w : World} (t : TypeId) (hW : Wrel G S w) : Comes1 P (do pure (.value (← Instr.makeMap t none))) G S w (.map S.n) (S.push (.map [] 0)) := by
  obtain ⟨g1, g2⟩ := push_blk (a := .map [] 0) (ob := .map #[] 0) hW (fun b h => h) ⟨w.heap.size, Gh.addBlk_new _ _ _, ⟨#[], World.alloc_heap_new w _, rfl, fun i e h => by simp at h⟩⟩
  refine comes_value' (u := .map (some w.heap.size)) ?_ g1 g2 (.map _ _ (Gh.addBlk_new _ _ _))
  simp [Instr.makeMap, Sem.run_bind, run_newObj_alloc]

theorem comes_mapUpdate (hc : CfgOk P c) {G : Gh} {S S' : St} {w : World} {t : TypeId} {m k x : AV} {mu ku xu : Value} (hW : Wrel G S w) (h : amapUpdate c S t m k x = some S') (hm : Rep G w m mu) (hk : Rep G w k ku) (hx : Rep G w x xu) :
    Comes1 P (do Instr.mapUpdate t mu ku xu; pure .skip) G S w .undef S' := by
  unfold amapUpdate at h
  split at h
  case h_2 => simp at h
  rename_i kt et o hkind
  split at h
  case isFalse => simp at h
  rename_i hfit
  split at h
  case h_2 => simp at h
  rename_i es clock hg
  simp only [Option.bind_eq_some_iff] at h
  obtain ⟨r, hr, h⟩ := h
  cases r with
  | some r => simp at h
  | none =>
    simp only at h
    obtain ⟨hbase, rfl⟩ := St.putO_some h
    obtain ⟨b, mes, rfl, hb, hh, hre⟩ := map_inv hW hg hm
    obtain ⟨q, hq, hf⟩ := run_findKey hc hfit hk hr hre
    cases q with
    | some q => exact hf.elim
    | none =>
      obtain ⟨g1, g2⟩ := map_put hW hg hbase hb hh (clock' := clock + 1) (hre.snoc hk hx clock)
      refine comes_unit ?_ g1 g2
      have hget : (getObj b).run P w = .ok (.map mes clock) w := by simp [getObj, Sem.run, hh]
      simp only [Instr.mapUpdate, Sem.run_bind, run_underlying (kind_map hc hkind), Result.andThen_ok, hget, run_checkKey hc hfit hk, hq, run_setObj_put _ hh]

theorem comes_mapEntry (hc : CfgOk P c) {G : Gh} {S S' : St} {w : World} {t : TypeId} {m k r : AV} {mu ku : Value} (hW : Wrel G S w) (h : amapEntry c S t m k = some (r, S')) (hm : Rep G w m mu) (hk : Rep G w k ku) :
    Comes1 P (do pure (.value (← Instr.mapEntry t mu ku))) G S w r S' := by
  unfold amapEntry at h
  split at h
  case h_2 => simp at h
  rename_i kt et o hkind
  split at h
  case isFalse => simp at h
  rename_i hfit
  split at h
  case h_2 => simp at h
  rename_i es clock hg
  simp only [Option.bind_eq_some_iff] at h
  obtain ⟨fr, hr, h⟩ := h
  cases fr with
  | some fr => simp at h
  | none =>
    simp only [Option.bind_eq_some_iff, Option.map_eq_some_iff, Prod.mk.injEq] at h
    obtain ⟨z, hz, S1, hput, rfl, rfl⟩ := h
    obtain ⟨hbase, rfl⟩ := St.putO_some hput
    obtain ⟨b, mes, rfl, hb, hh, hre⟩ := map_inv hW hg hm
    obtain ⟨q, hq, hf⟩ := run_findKey hc hfit hk hr hre
    cases q with
    | some q => exact hf.elim
    | none =>
      obtain ⟨zu, hzr, hzz⟩ := zeroOf_rep hc (G := G) (w := w) hz
      obtain ⟨g1, g2⟩ := map_put hW hg hbase hb hh (clock' := clock + 1) (hre.snoc hk hzz clock)
      refine comes_value' (u := .tuple #[zu, goInt clock]) ?_ g1 g2 (rep_tup.2 (RepL.cons (g2.rep hzz) (RepL.cons (.int _ _) (RepL.nil _ _))))
      have hget : (getObj b).run P w = .ok (.map mes clock) w := by simp [getObj, Sem.run, hh]
      simp only [Instr.mapEntry, Sem.run_bind, run_underlying (kind_map hc hkind), Result.andThen_ok, hget, run_checkKey hc hfit hk, hq, hzr, run_setObj_put _ hh, Sem.run_pure]

omit [Pin] in
theorem setBorn_rep {G : Gh} {w : World} {v : AV} {vu : Value} (hv : Rep G w v vu) (n : Nat) : ∀ {es es' : List (AV × AV × Nat)} {mes : List MapEntry}, setBorn v n es = some es' → RepE G w es mes →
    ∃ i, mes.findIdx? (fun e => (e.born : Int) == (n : Int)) = some i ∧ RepE G w es' (mes.modify i fun e => { e with val := vu })
  | [], _, _, h, _ => by simp [setBorn] at h
  | e :: es, es', mes, h, hr => by
    obtain ⟨m, mes', rfl, k1, k2, k3, hr'⟩ := hr.uncons
    rw [setBorn] at h
    by_cases hb : e.2.2 = n
    · rw [if_pos hb] at h
      cases h
      refine ⟨0, by simp [List.findIdx?_cons, k3, hb], ?_⟩
      refine ⟨by simpa using hr'.1, fun i x hi => ?_⟩
      cases i with
      | zero =>
        simp at hi; subst hi
        exact ⟨_, rfl, k1, hv, by simp only; rw [k3, hb]⟩
      | succ i =>
        obtain ⟨m', q1, q2⟩ := hr'.2 i x (by simpa using hi)
        exact ⟨m', by simpa using q1, q2⟩
    · rw [if_neg hb] at h
      simp only [Option.map_eq_some_iff] at h
      obtain ⟨es2, h2, rfl⟩ := h
      obtain ⟨i, q1, q2⟩ := setBorn_rep hv n h2 hr'
      have hne : ((m.born : Int) == (n : Int)) = false := by rw [k3]; simp; omega
      refine ⟨i + 1, by rw [List.findIdx?_cons, hne, q1]; rfl, ?_⟩
      refine ⟨by simpa using q2.1, fun j x hj => ?_⟩
      cases j with
      | zero =>
        simp at hj; subst hj
        exact ⟨m, by simp, k1, k2, k3⟩
      | succ j =>
        obtain ⟨m', p1, p2⟩ := q2.2 j x (by simpa using hj)
        exact ⟨m', by simpa using p1, p2⟩

theorem comes_entryStore {G : Gh} {S S' : St} {w : World} {t : TypeId} {m s x : AV} {mu su xu : Value} (hW : Wrel G S w) (h : aentryStore S m s x = some S') (hm : Rep G w m mu) (hs : Rep G w s su) (hx : Rep G w x xu) :
    Comes1 P (do Instr.entryStore t mu su xu; pure .skip) G S w .undef S' := by
  unfold aentryStore at h
  split at h
  case h_2 => simp at h
  rename_i o kk n
  split at h
  case h_2 => simp at h
  rename_i es clock hg
  split at h
  case isFalse => simp at h
  rename_i h0
  simp only [Option.bind_eq_some_iff] at h
  obtain ⟨es', hes, hput⟩ := h
  obtain ⟨hbase, rfl⟩ := St.putO_some hput
  obtain ⟨b, mes, rfl, hb, hh, hre⟩ := map_inv hW hg hm
  obtain ⟨i, hi, hre'⟩ := setBorn_rep hx n.toNat hes hre
  have hn : ((n.toNat : Nat) : Int) = n := by omega
  rw [hn] at hi
  have hre2 : RepE G w es' (mes.modify i fun e => { e with val := xu }).toList := by rw [Array.toList_modify]; exact hre'
  obtain ⟨g1, g2⟩ := map_put hW hg hbase hb hh (clock' := clock) hre2
  refine comes_unit ?_ g1 g2
  have hget : (getObj b).run P w = .ok (.map mes clock) w := by simp [getObj, Sem.run, hh]
  have hfi : mes.findIdx? (fun e => (e.born : Int) == n) = some i := by
    have e : mes = mes.toList.toArray := by simp
    rw [e, List.findIdx?_toArray]; exact hi
  have hsu : (asInt su).run P w = .ok n w := by cases hs; simp [asInt, asIntOf]
  simp only [Instr.entryStore, Sem.run_bind, Sem.run_pure, Result.andThen_ok, hget, hsu, hfi, run_setObj_put _ hh]

theorem comes_delete (hc : CfgOk P c) {G : Gh} {S S' : St} {w : World} {t t' ty : TypeId} {m k : AV} {mu ku : Value} (hW : Wrel G S w) (h : adelete c S t m k = some S') (hm : Rep G w m mu) (hk : Rep G w k ku) :
    Comes1 P (do pure (.value (← Builtin.delete_ #[t, t'] ty #[mu, ku]))) G S w (.tup []) S' := by
  unfold adelete at h
  split at h
  case h_2 => simp at h
  rename_i kt et o hkind
  split at h
  case isFalse => simp at h
  rename_i hfit
  split at h
  case h_2 => simp at h
  rename_i es clock hg
  simp only [Option.bind_eq_some_iff] at h
  obtain ⟨fr, hr, h⟩ := h
  cases fr with
  | none => simp at h
  | some fr =>
    obtain ⟨i, v⟩ := fr
    simp only at h
    obtain ⟨hbase, rfl⟩ := St.putO_some h
    obtain ⟨b, mes, rfl, hb, hh, hre⟩ := map_inv hW hg hm
    obtain ⟨q, hq, hf⟩ := run_findKey hc hfit hk hr hre
    cases q with
    | none => exact hf.elim
    | some q =>
      obtain ⟨j, vu⟩ := q
      obtain ⟨rfl, hvr⟩ := hf
      have hre2 : RepE G w (es.eraseIdx i) (mes.eraseIdxIfInBounds i).toList := by
        rw [Array.toList_eraseIdxIfInBounds]
        refine ⟨by rw [List.length_eraseIdx, List.length_eraseIdx, hre.1], fun n e hn => ?_⟩
        rw [List.getElem?_eraseIdx] at hn ⊢
        split at hn
        · rename_i hlt; rw [if_pos hlt]; exact hre.2 _ _ hn
        · rename_i hlt; rw [if_neg hlt]; exact hre.2 _ _ hn
      obtain ⟨g1, g2⟩ := map_put hW hg hbase hb hh (clock' := clock) hre2
      refine comes_value' (u := .tuple #[]) ?_ g1 g2 (rep_tup.2 (RepL.nil _ _))
      have hget : (getObj b).run P w = .ok (.map mes clock) w := by simp [getObj, Sem.run, hh]
      simp [Builtin.delete_, Sem.run_bind, run_underlying (kind_map hc hkind), Result.andThen_ok, hget, run_checkKey hc hfit hk, hq, run_setObj_put _ hh, Sem.run_pure]

end Go.Am

/- THE ABSTRACT MACHINE, TWENTIETH FILE: every operation; ranges over functions; code. -/
set_option linter.unusedSimpArgs false
set_option linter.unusedVariables false
namespace Go.Am
open Go.RowKit
variable [Pin] {P : Program} {c : Cfg}

/-- An operation that calls. -/
theorem call_ok (hc : CfgOk P c) {R : Rec} (hR : RecOk P R) {tm : List AV} {o : Oper} {cl : Call} {fo : Operand} {g : AV} {as : List AV} {S S' : St} {v : AV} (ho : o.op = .call cl) (hcl : cl.callee = .value fo)
    (hg : evalT tm fo = some g) (ha : evalL tm cl.args.toList = some as) (h : callV c R g as S = some (v, S')) : OpOk P tm o S v S' := by
  intro G w a rd K Q hW ht hK
  refine ⟨fun f _ => trivial, ?_⟩
  rw [Oper.semAt_eq _ _ _ (by rw [ho]; simp)]
  have hgr := evalT_rep ht hg
  have har := evalL_rep ht ha
  have hex : execOp a.eval o = (do let d ← resolve a.eval cl o.type; invoke d.target d.args) := by simp only [execOp, ho]
  rw [hex]
  unfold callV at h
  split at h
  · rename_i f first cap
    obtain ⟨vf, vc, hfv, hf1, hf2⟩ := rep_fn_inv hgr
    have hargs : RepL G w (first ++ as ++ cap) ((vf ++ cl.args.map a.eval) ++ vc).toList := by
      simp only [Array.toList_append, Array.toList_map]
      exact (hf1.append har).append hf2
    obtain ⟨c1, c2⟩ := callF_ok hc hR.call h G w _ hW hargs
    have hrun : (do let d ← resolve a.eval cl o.type; invoke d.target d.args : Sem Next).run P w = .ok (.enter f ((vf ++ cl.args.map a.eval) ++ vc)) w := by
      simp only [resolve, hcl, hfv, Deferred.ofValue, Sem.run_bind, Sem.run_pure, Result.andThen_ok, invoke, c1]
    rw [hrun, Oper.uponIn_enter]
    refine ⟨fun e => by simp [FR, Fence.wide] at e, callsIn_FR (c2.mono fun e w' ⟨G', u, he, h1, h2, h3⟩ => ?_)⟩
    subst he
    exact hK G' w' u h1 h2 h3
  · rename_i l
    cases hq : a.eval fo with
    | func t x y =>
      rw [hq] at hgr
      cases hgr with
      | yield _ b hb =>
        obtain ⟨fn, tmps, asg, body, h1, h2⟩ := yieldS_ok hR h hW hb (vs := cl.args.map a.eval) (by simpa using har)
        have hrun : (do let d ← resolve a.eval cl o.type; invoke d.target d.args : Sem Next).run P w = .ok (.round b fn tmps asg body) w := by
          simp only [resolve, hcl, hq, Deferred.ofValue, Sem.run_bind, Sem.run_pure, Result.andThen_ok, invoke, Array.empty_append, h1]
        rw [hrun, Oper.uponIn_round]
        refine ⟨fun e => by simp [FR, Fence.wide] at e, (h2 rd).mono fun e w' ⟨G', u, he, h1, h2, h3⟩ => ?_⟩
        subst he
        exact hK G' w' u h1 h2 h3
    | _ => rw [hq] at hgr; cases hgr
  · simp at h

theorem comes_congr {s s' : Sem Next} {G : Gh} {S : St} {w : World} {v : AV} {S' : St} (h : s.run P w = s'.run P w) (k : Comes1 P s' G S w v S') : Comes1 P s G S w v S' := by
  obtain ⟨nx, u, w', G', h1, h2⟩ := k
  exact ⟨nx, u, w', G', h.trans h1, h2⟩

theorem aeff_ok (hc : CfgOk P c) {R : Rec} (hR : RecOk P R) {fid rid : Nat} {tm : List AV} {o : Oper} {S S' : St} {v : AV} (h : aeff c R fid rid tm o S = some (v, S')) : OpOk P tm o S v S' := by
  obtain ⟨dst, op, type, pos, after, guard⟩ := o
  unfold aeff at h
  split at h
  all_goals rename_i hop
  all_goals (simp only at hop)
  all_goals try subst hop
  · -- alloc
    simp only [Option.bind_eq_some_iff, Option.map_eq_some_iff, Prod.mk.injEq] at h
    obtain ⟨i, hi, z, hz, rfl, rfl⟩ := h
    exact opOk_of_comes (by simp) fun G w a hW ht => comes_alloc hc hW hi hz
  · -- box
    simp only [Option.bind_eq_some_iff] at h
    obtain ⟨x, hx, h⟩ := h
    split at h
    · rename_i hl
      simp only [Option.some.injEq, Prod.mk.injEq] at h
      obtain ⟨rfl, rfl⟩ := h
      exact opOk_of_comes (by simp) fun G w a hW ht => comes_box _ hW (evalT_rep ht hx) hl
    · simp at h
  · -- store
    simp only [Option.bind_eq_some_iff, Option.map_eq_some_iff, Prod.mk.injEq] at h
    obtain ⟨i, hi, p, hp, x, hx, S1, hS, rfl, rfl⟩ := h
    exact opOk_of_comes (by simp) fun G w a hW ht => comes_store hc hW hi hS (evalT_rep ht hp) (evalT_rep ht hx)
  · -- makeSlice
    split at h
    · rename_i e hk
      simp only [Option.bind_eq_some_iff] at h
      obtain ⟨ei, he, z, hz, lv, hl, cv, hcv, h⟩ := h
      split at h
      · rename_i k n k' m
        split at h
        · rename_i hq
          simp only [Option.some.injEq, Prod.mk.injEq] at h
          obtain ⟨rfl, rfl⟩ := h
          refine opOk_of_comes (by simp) fun G w a hW ht => ?_
          have e1 := rep_int_inv (evalT_rep ht hl)
          have e2 := rep_int_inv (evalT_rep ht hcv)
          have := comes_makeSlice hc hW (k := k) (k' := k') hk he hz hq
          simp only [execOp, e1, e2]
          exact this
        · simp at h
      · simp at h
    · simp at h
  · -- slice of an array
    split at h
    · rename_i n e hk
      simp only [Option.bind_eq_some_iff] at h
      obtain ⟨ei, he, x, hx, l, hl, hh, hhh, h⟩ := h
      split at h
      · rename_i ob off
        split at h
        · rename_i cs lk hget
          simp only [Option.bind_eq_some_iff] at h
          obtain ⟨h', hb1, l', hb2, h⟩ := h
          split at h
          · rename_i hle
            simp only [Option.map_eq_some_iff, Prod.mk.injEq] at h
            obtain ⟨S1, hp, rfl, rfl⟩ := h
            exact opOk_of_comes (by simp) fun G w a hW ht => comes_sliceA hc hW hk he (evalT_rep ht hx) hget hb1 hb2 (evalO_rep ht hl) (evalO_rep ht hhh) hle hp
          · simp at h
        · simp at h
      · simp at h
    · simp at h
  · -- append
    rename_i args argTypes
    split at h
    · rename_i x y t u hx1 hx2
      have e1 : args = #[x, y] := by cases args; simp_all
      have e2 : argTypes = #[t, u] := by cases argTypes; simp_all
      subst e1 e2
      split at h
      · simp at h
      · simp at h
      · rename_i e hk hn1 hn2
        simp only [Option.bind_eq_some_iff] at h
        obtain ⟨ei, he, xa, hxa, ya, hya, ys, hys, h⟩ := h
        split at h
        · rename_i hq
          cases hu : c.ty u with
          | none => exact absurd (by rw [hu]; rfl) hn2
          | some ui =>
            refine opOk_of_comes (by simp) fun G w a hW ht => ?_
            have := comes_append (ty := type) hc hW hk he hu (fun k hk' => hn1 k (by rw [hu]; simp [hk'])) (evalT_rep ht hxa) (evalT_rep ht hya) hys hq h
            refine comes_congr ?_ this
            simp [execOp, resolve, invoke, builtin, Sem.run_bind]
        · simp at h
      · simp at h
    · simp at h
  · -- delete
    rename_i args argTypes
    split at h
    · rename_i x y t u hx1 hx2
      have e1 : args = #[x, y] := by cases args; simp_all
      have e2 : argTypes = #[t, u] := by cases argTypes; simp_all
      subst e1 e2
      simp only [Option.bind_eq_some_iff, Option.map_eq_some_iff, Prod.mk.injEq] at h
      obtain ⟨a, ha, b, hb, S1, hd, rfl, rfl⟩ := h
      refine opOk_of_comes (by simp) fun G w ac hW ht => ?_
      have := comes_delete (t' := u) (ty := type) hc hW hd (evalT_rep ht ha) (evalT_rep ht hb)
      refine comes_congr ?_ this
      simp [execOp, resolve, invoke, builtin, Sem.run_bind]
    · simp at h
  · -- a call
    rename_i fo args argTypes
    simp only [Option.bind_eq_some_iff] at h
    obtain ⟨g, hg, as, ha, h⟩ := h
    exact call_ok hc hR rfl rfl hg ha h
  · -- makeMap
    split at h
    · simp only [Option.some.injEq, Prod.mk.injEq] at h
      obtain ⟨rfl, rfl⟩ := h
      exact opOk_of_comes (by simp) fun G w a hW ht => comes_makeMap _ hW
    · simp at h
  · -- mapUpdate
    simp only [Option.bind_eq_some_iff, Option.map_eq_some_iff, Prod.mk.injEq] at h
    obtain ⟨m, hm, k, hk, x, hx, S1, hu, rfl, rfl⟩ := h
    exact opOk_of_comes (by simp) fun G w a hW ht => comes_mapUpdate hc hW hu (evalT_rep ht hm) (evalT_rep ht hk) (evalT_rep ht hx)
  · -- mapEntry
    simp only [Option.bind_eq_some_iff] at h
    obtain ⟨m, hm, k, hk, hu⟩ := h
    exact opOk_of_comes (by simp) fun G w a hW ht => comes_mapEntry hc hW hu (evalT_rep ht hm) (evalT_rep ht hk)
  · -- entryStore
    simp only [Option.bind_eq_some_iff, Option.map_eq_some_iff, Prod.mk.injEq] at h
    obtain ⟨m, hm, k, hk, x, hx, S1, hu, rfl, rfl⟩ := h
    exact opOk_of_comes (by simp) fun G w a hW ht => comes_entryStore hW hu (evalT_rep ht hm) (evalT_rep ht hk) (evalT_rep ht hx)
  · simp at h

end Go.Am

/- THE ABSTRACT MACHINE, TWENTY-FIRST FILE: code. -/
set_option linter.unusedSimpArgs false
set_option linter.unusedVariables false
namespace Go.Am
open Go.RowKit
variable [Pin] {P : Program} {c : Cfg}

omit [Pin] in
theorem put_rep {G : Gh} {w : World} {tm : List AV} {a : Act} {x : AV} {u : Value} (ht : RepL G w tm a.tmps.toList) (d : Option Tmp) (h : Rep G w x u) : RepL G w (putT tm d x) (a.put d u).tmps.toList := by
  cases d with
  | none => exact ht
  | some d =>
    show RepL G w (tm.set d x) (a.tmps.setIfInBounds d u).toList
    rw [Array.toList_setIfInBounds]
    exact ht.set d h

omit [Pin] in
theorem put_defers (a : Act) (d : Option Tmp) (u : Value) : (a.put d u).defers = a.defers := by cases d <;> rfl

omit [Pin] in
theorem wanted_eq {G : Gh} {w : World} {tm : List AV} {a : Act} (ht : RepL G w tm a.tmps.toList) (ops : Array Oper) (o : Oper) : awanted ops tm o = Region.wanted o (yielded ops a.tmps) := by
  unfold awanted Region.wanted
  cases o.guard with
  | none => rfl
  | some q =>
    obtain ⟨j, want⟩ := q
    simp only
    congr 1
    unfold ayielded yielded
    cases (ops[j]?).bind (·.dst) with
    | none => rfl
    | some d =>
      have hr := ht.getD d
      simp only [Option.bind_some]
      cases hd : a.tmps[d]? with
      | none =>
        have h1 : a.tmps.toList[d]? = none := by simpa using hd
        have h2 : a.tmps.toList.getD d undef = undef := by simp only [List.getD, h1, Option.getD_none]
        rw [h2, undef] at hr
        generalize tm.getD d .undef = x at hr ⊢
        cases hr <;> rfl
      | some u =>
        have h1 : a.tmps.toList[d]? = some u := by simpa using hd
        have h2 : a.tmps.toList.getD d undef = u := by simp only [List.getD, h1, Option.getD_some]
        rw [h2] at hr
        generalize tm.getD d .undef = x at hr ⊢
        cases hr <;> rfl

/-- What a region is worth. -/
def RegOk (P : Program) (id : Nat) (ops : Array Oper) (draw : Bool) (tm : List AV) (S : St) (tm' : List AV) (S' : St) : Prop :=
  ∀ (G : Gh) (w : World) (a : Act) (rd : Option Nat) (Q : Exit → Act → World → Prop), Wrel G S w → RepL G w tm a.tmps.toList →
    (∀ G' w' a', Wrel G' S' w' → Step G S w G' S' w' → RepL G' w' tm' a'.tmps.toList → a'.defers = a.defers → Q .normal a' w') → (Code.region id ops draw).wpIn (FR rd) 0 P Q a w

theorem aop_ok (hc : CfgOk P c) {R : Rec} (hR : RecOk P R) {fid rid : Nat} {tm : List AV} {o : Oper} {S S' : St} {v : AV} (h : aop c R fid rid tm o S = some (v, S')) : OpOk P tm o S v S' := by
  unfold aop at h
  split at h
  · rename_i v' hv
    simp only [Option.some.injEq, Prod.mk.injEq] at h
    obtain ⟨rfl, rfl⟩ := h
    exact aval_ok hc hv
  · exact aeff_ok hc hR h

theorem runOps_ok (hc : CfgOk P c) {R : Rec} (hR : RecOk P R) {fid rid : Nat} {ops : Array Oper} {rd : Option Nat} {Q : Exit → Act → World → Prop} : ∀ {l : List Oper} {tm tm' : List AV} {S S' : St} {G : Gh} {w : World} {a : Act}, runOps c R fid rid ops l tm S = some (tm', S') →
    Wrel G S w → RepL G w tm a.tmps.toList → (∀ G' w' a', Wrel G' S' w' → Step G S w G' S' w' → RepL G' w' tm' a'.tmps.toList → a'.defers = a.defers → Q .normal a' w') → wpListIn (FR rd) 0 P ops Q l a w
  | [], tm, tm', S, S', G, w, a, h, hW, ht, hQ => by
    simp only [runOps, Option.some.injEq, Prod.mk.injEq] at h
    obtain ⟨rfl, rfl⟩ := h
    exact hQ G w a hW (.refl _ _ _) ht rfl
  | o :: l, tm, tm', S, S', G, w, a, h, hW, ht, hQ => by
    rw [runOps] at h
    unfold wpListIn
    rw [← wanted_eq ht]
    split at h
    · rename_i hw
      rw [if_pos hw]
      simp only [Option.bind_eq_some_iff] at h
      obtain ⟨⟨v, S1⟩, hv, h⟩ := h
      refine aop_ok hc hR hv G w a rd _ Q hW ht fun G1 w1 u hW1 hst1 hu => ?_
      exact runOps_ok hc hR h hW1 (put_rep (hst1.repL ht) _ hu) fun G' w' a' hW' hst' ht' hd => hQ G' w' a' hW' (hst1.trans hst') ht' (hd.trans (put_defers _ _ _))
    · rename_i hw
      rw [if_neg hw]
      refine ⟨fun f _ => trivial, ?_⟩
      exact runOps_ok hc hR h hW (put_rep ht _ .undef) fun G' w' a' hW' hst' ht' hd => hQ G' w' a' hW' hst' ht' (hd.trans (put_defers _ _ _))

theorem region_ok (hc : CfgOk P c) {R : Rec} (hR : RecOk P R) {fid rid id : Nat} {ops : Array Oper} {tm tm' : List AV} {S S' : St} (h : aregion c R fid rid ops false tm S = some (tm', S')) : RegOk P id ops false tm S tm' S' := by
  intro G w a rd Q hW ht hQ
  have h : runOps c R fid rid ops ops.toList tm S = some (tm', S') := h
  exact wpIn_region_list (runOps_ok hc hR h hW ht hQ)

/-! ### A range over a function -/
theorem rangeStart_ok {G : Gh} {S S1 : St} {w : World} {fr : Fr} {rd : Option Nat} {d : Nat} {mk : List Nat} {a : Act} (hW : Wrel G S w) (ht : RepL G w fr.tmps a.tmps.toList) (hr : RoundRel G fr.round rd) (h : rangeStart fr S = some (d, S1, mk))
    (fn : FuncId) (ps : Array Tmp) (asg body : Code) : ∃ l mark w1 G1, (Instr.enterLoop fn a.tmps ps asg body rd).run P w = .ok (l, mark) w1 ∧ Wrel G1 (S1.push (.loop .ready .nrm fr.fn fr.tmps ps.toList asg body d)) w1 ∧
      Step G S w G1 (S1.push (.loop .ready .nrm fr.fn fr.tmps ps.toList asg body d)) w1 ∧ G1.blk S1.n l ∧ (∀ ms ds, DefRel G1 ms ds → DefRel G1 (mk ++ ms) (mark ++ ds)) := by
  unfold rangeStart at h
  split at h
  · rename_i hro
    simp only [Option.some.injEq, Prod.mk.injEq] at h
    obtain ⟨rfl, rfl, rfl⟩ := h
    have hrd : rd = none := by cases rd with | none => rfl | some b => rw [hro] at hr; exact hr.elim
    subst hrd
    obtain ⟨g1, g2⟩ := push_blk (a := .dfr) (ob := .deferred (some [])) hW (fun b hb => hb) ⟨w.heap.size, G.addBlk_new _ _, World.alloc_heap_new _ _⟩
    obtain ⟨k1, k2⟩ := push_blk (a := .loop .ready .nrm fr.fn fr.tmps ps.toList asg body S.n) (ob := .loop { state := .ready, pending := none, fn, tmps := a.tmps, params := ps, assign := asg, body, defers := w.heap.size }) g1 (fun b hb => hb)
      ⟨(w.alloc (.deferred (some []))).heap.size, w.heap.size, a.tmps, fn, Gh.addBlk_new _ _ _, .inl (G.addBlk_new _ _), (g2.repL ht).mono (Gh.le_addBlk _ _ _) ((Laid.alloc _ _).kept g1), World.alloc_heap_new _ _⟩
    refine ⟨_, _, _, _, run_enterLoop_outer fn a.tmps ps asg body, k1, g2.trans k2, ?_, fun ms ds hd => ⟨⟨w.heap.size, .inl (G.addBlk_new _ _), rfl⟩, hd⟩⟩
    have := Gh.addBlk_new (G.addBlk S.n w.heap.size) (S.push .dfr).n (w.alloc (.deferred (some []))).heap.size
    simpa using this
  · rename_i l hro
    split at h
    · rename_i st pend fn' tmps' ps' asg' body' d' hget
      simp only [Option.some.injEq, Prod.mk.injEq] at h
      obtain ⟨rfl, rfl, rfl⟩ := h
      rw [hro] at hr
      cases rd with
      | none => exact hr.elim
      | some b =>
        have hb : G.blk l b := hr
        obtain ⟨b', db, tm, fnm, hb', hdb, htm, hheap⟩ := hW.obj _ _ hget
        cases hW.fblk _ _ _ hb hb'
        obtain ⟨k1, k2⟩ := push_blk (a := .loop .ready .nrm fr.fn fr.tmps ps.toList asg body d') (ob := .loop { state := .ready, pending := none, fn, tmps := a.tmps, params := ps, assign := asg, body, defers := db }) hW (fun b hb => hb)
          ⟨w.heap.size, db, a.tmps, fn, G.addBlk_new _ _, .inl hdb, ht.mono (Gh.le_addBlk _ _ _) ((Laid.alloc _ _).kept hW), World.alloc_heap_new _ _⟩
        exact ⟨_, _, _, _, run_enterLoop_inner hheap fn a.tmps ps asg body, k1, k2, G.addBlk_new _ _, fun ms ds hd => hd⟩
    · simp at h

theorem rangeFunc_ok (hc : CfgOk P c) {R : Rec} (hR : RecOk P R) {g : Operand} {ps : Array Tmp} {asg body : Code} {fr fr' : Fr} {S S' : St} {ex : Ex} (h : execS c R (.rangeFunc g ps asg body) fr S = some (ex, fr', S')) : CodeOk P (.rangeFunc g ps asg body) fr S ex fr' S' := by
  rw [execS] at h
  simp only [Option.bind_eq_some_iff] at h
  obtain ⟨⟨d, S1, mk⟩, hstart, h⟩ := h
  split at h
  case h_2 => simp at h
  rename_i f first cap hg
  simp only [Option.bind_eq_some_iff] at h
  obtain ⟨⟨rv, S2⟩, hcall, h⟩ := h
  unfold rangeEnd at h
  split at h
  case h_2 => simp at h
  rename_i st pend fn2 tmps2 ps2 asg2 body2 d2 hget
  split at h
  · simp at h
  rename_i hst
  simp only [Option.map_eq_some_iff, Prod.mk.injEq] at h
  obtain ⟨S3, hp, rfl, rfl, rfl⟩ := h
  refine ⟨rfl, rfl, fun G w a rd Q hW ht hd hro hQ => wpIn_rangeFunc fun fn _ => ?_⟩
  obtain ⟨l, mark, w1, G1, h1, hW1, hst1, hblk, hmk⟩ := rangeStart_ok (P := P) hW ht hro hstart fn ps asg body
  obtain ⟨vf, vc, hfv, hf1, hf2⟩ := rep_fn_inv (evalT_rep ht hg)
  have hargs : RepL G1 w1 (first ++ [.yield S1.n] ++ cap) ((vf ++ #[Value.func (.yield l) #[] #[]]) ++ vc).toList := by
    simp only [Array.toList_append]
    exact ((hst1.repL hf1).append (RepL.cons (.yield _ _ hblk) (RepL.nil _ _))).append (hst1.repL hf2)
  obtain ⟨c1, c2⟩ := hR.call _ _ _ _ _ hcall G1 w1 _ hW1 hargs
  refine ⟨l, mark, w1, { target := .fn (.func f) vc, args := vf ++ #[Value.func (.yield l) #[] #[]] }, w1, f, (vf ++ #[Value.func (.yield l) #[] #[]]) ++ vc, w1, h1, ?_, fun _ _ => trivial, c1, fun e => by simp [FR, Fence.wide] at e, ?_⟩
  · have hm : (rangeCall g l).args.map a.eval = #[Value.func (.yield l) #[] #[]] := by simp [rangeCall, Act.eval]
    simp only [resolve, hm, hfv, Deferred.ofValue, Sem.run_pure]
  · refine callsIn_FR (c2.mono fun e w' ⟨G', u, he, hW', hst', hu⟩ => ?_)
    subst he
    obtain ⟨b, db, tm, fnm, hb, hdb, htm, hheap⟩ := hW'.obj _ _ hget
    cases hW'.fblk _ _ _ hb (hst'.le.blk _ _ hblk)
    obtain ⟨hbase, rfl⟩ := St.putO_some hp
    obtain ⟨g1, g2⟩ := put_step (a := .loop .exhausted pend fn2 tmps2 ps2 asg2 body2 d2) (ob' := .loop { state := .exhausted, pending := exCode pend, fn := fnm, tmps := tm, params := ps2.toArray, assign := asg2, body := body2, defers := db }) hW' hget hbase hb hheap (by simp) rfl rfl (fun _ x => x)
      fun hk => ⟨l, db, tm, fnm, hb, hdb, htm.mono (.refl _) hk, World.putObj_heap_same (by obtain ⟨h, _⟩ := Array.getElem?_eq_some_iff.1 hheap; exact h)⟩
    refine ⟨_, _, run_endLoop hheap hst, ?_⟩
    have hall := (hst1.trans hst').trans g2
    have hd' : DefRel G' (mk ++ fr.marks) (mark ++ a.defers) := (hmk _ _ (hd.mono hst1.le)).mono (hst'.le)
    have hfin := hQ G' _ { a with defers := mark ++ a.defers } g1 hall (hall.repL ht) hd'
    cases pend with
    | nrm => exact hfin
    | exit id => exact wpIn_exit hfin
    | goto t => exact wpIn_goto hfin
    | ret => exact wpIn_ret hfin

end Go.Am

/- THE ABSTRACT MACHINE, TWENTY-SECOND FILE: code, loops, runs. -/
set_option linter.unusedSimpArgs false
set_option linter.unusedVariables false
namespace Go.Am
open Go.RowKit
variable [Pin] {P : Program} {c : Cfg}

/-- Regions whose order is open. -/
def DrawOk (P : Program) (c : Cfg) (R : Rec) : Prop :=
  ∀ fid rid ops tm S tm' S', aregion c R fid rid ops true tm S = some (tm', S') → RegOk P rid ops true tm S tm' S'

theorem seq_ok {x y : Code} {fr fr1 fr2 : Fr} {S S1 S2 : St} {ex : Ex} (h1 : CodeOk P x fr S .nrm fr1 S1) (h2 : CodeOk P y fr1 S1 ex fr2 S2) : CodeOk P (.seq x y) fr S ex fr2 S2 := by
  obtain ⟨a1, a2, a3⟩ := h1
  obtain ⟨b1, b2, b3⟩ := h2
  refine ⟨b1.trans a1, b2.trans a2, fun G w a rd Q hW ht hd hr hQ => wpIn_seq (a3 G w a rd _ hW ht hd hr fun G1 w1 a1' hW1 hst1 ht1 hd1 => ?_)⟩
  exact b3 G1 w1 a1' rd Q hW1 ht1 hd1 (by rw [a2]; exact hr.mono hst1.le) fun G' w' a' hW' hst' ht' hd' => hQ G' w' a' hW' (hst1.trans hst') ht' hd'

theorem seq_left {x y : Code} {fr fr1 : Fr} {S S1 : St} {ex : Ex} (hx : ex ≠ .nrm) (h1 : CodeOk P x fr S ex fr1 S1) : CodeOk P (.seq x y) fr S ex fr1 S1 := by
  obtain ⟨a1, a2, a3⟩ := h1
  refine ⟨a1, a2, fun G w a rd Q hW ht hd hr hQ => wpIn_seq (a3 G w a rd _ hW ht hd hr fun G1 w1 a1' hW1 hst1 ht1 hd1 => ?_)⟩
  have := hQ G1 w1 a1' hW1 hst1 ht1 hd1
  cases ex <;> first | exact absurd rfl hx | exact this

theorem loop_of (b : Code) {fr fr' : Fr} {S S' : St} {ex : Ex} (h : LoopOk P b fr S ex fr' S') : CodeOk P (.loop b) fr S ex fr' S' := by
  obtain ⟨h1, h2, m, h3⟩ := h
  exact ⟨h1, h2, fun G w a rd Q hW ht hd hr hQ => wpIn_loop_rounds m (h3 G w a rd Q hW ht hd hr hQ)⟩

theorem loop_more (b : Code) {fr fr1 fr' : Fr} {S S1 S' : St} {ex : Ex} (h1 : CodeOk P b fr S .nrm fr1 S1) (h : LoopOk P b fr1 S1 ex fr' S') : LoopOk P b fr S ex fr' S' := by
  obtain ⟨a1, a2, a3⟩ := h1
  obtain ⟨b1, b2, m, b3⟩ := h
  refine ⟨b1.trans a1, b2.trans a2, m + 1, fun G w a rd Q hW ht hd hr hQ => ?_⟩
  rw [roundsIn_succ]
  refine a3 G w a rd _ hW ht hd hr fun G1 w1 a1' hW1 hst1 ht1 hd1 => ?_
  exact b3 G1 w1 a1' rd Q hW1 ht1 hd1 (by rw [a2]; exact hr.mono hst1.le) fun G' w' a' hW' hst' ht' hd' => hQ G' w' a' hW' (hst1.trans hst') ht' hd'

theorem loop_last (b : Code) {fr fr' : Fr} {S S' : St} {ex : Ex} (hx : ex ≠ .nrm) (h1 : CodeOk P b fr S ex fr' S') : LoopOk P b fr S ex fr' S' := by
  obtain ⟨a1, a2, a3⟩ := h1
  refine ⟨a1, a2, 1, fun G w a rd Q hW ht hd hr hQ => ?_⟩
  rw [roundsIn_succ]
  refine a3 G w a rd _ hW ht hd hr fun G1 w1 a1' hW1 hst1 ht1 hd1 => ?_
  have := hQ G1 w1 a1' hW1 hst1 ht1 hd1
  cases ex <;> first | exact absurd rfl hx | exact this

theorem exec_ok (hc : CfgOk P c) {R : Rec} (hR : RecOk P R) (hD : DrawOk P c R) :
    ∀ (code : Code) (fr : Fr) (S : St) (ex : Ex) (fr' : Fr) (S' : St), execS c R code fr S = some (ex, fr', S') → CodeOk P code fr S ex fr' S' ∧ ∀ b, code = .loop b → LoopOk P b fr S ex fr' S' := by
  intro code
  induction code with
  | skip =>
    intro fr S ex fr' S' h
    simp only [execS, Option.some.injEq, Prod.mk.injEq] at h
    obtain ⟨rfl, rfl, rfl⟩ := h
    exact ⟨⟨rfl, rfl, fun G w a rd Q hW ht hd hr hQ => wpIn_skip (hQ G w a hW (.refl _ _ _) ht hd)⟩, by simp⟩
  | region id ops draw =>
    intro fr S ex fr' S' h
    simp only [execS, Option.map_eq_some_iff, Prod.mk.injEq] at h
    obtain ⟨⟨tm, S1⟩, h, rfl, rfl, rfl⟩ := h
    have hreg : RegOk P id ops draw fr.tmps S tm S1 := by
      cases draw with
      | false => exact region_ok hc hR h
      | true => exact hD _ _ _ _ _ _ _ h
    exact ⟨⟨rfl, rfl, fun G w a rd Q hW ht hd hr hQ => hreg G w a rd Q hW ht fun G' w' a' hW' hst' ht' hd' => hQ G' w' a' hW' hst' ht' (by rw [hd']; exact hd.mono hst'.le)⟩, by simp⟩
  | seq x y ihx ihy =>
    intro fr S ex fr' S' h
    refine ⟨?_, by simp⟩
    simp only [execS, Option.bind_eq_some_iff] at h
    obtain ⟨⟨ex1, fr1, S1⟩, h1, h⟩ := h
    split at h
    · rename_i he
      simp only at he
      subst he
      exact seq_ok (ihx _ _ _ _ _ h1).1 (ihy _ _ _ _ _ h).1
    · rename_i he
      simp only [Option.some.injEq, Prod.mk.injEq] at h
      obtain ⟨rfl, rfl, rfl⟩ := h
      exact seq_left he (ihx _ _ _ _ _ h1).1
  | cond x y z ihy ihz =>
    intro fr S ex fr' S' h
    refine ⟨?_, by simp⟩
    rw [execS] at h
    split at h
    · rename_i he
      obtain ⟨a1, a2, a3⟩ := (ihy _ _ _ _ _ h).1
      exact ⟨a1, a2, fun G w a rd Q hW ht hd hr hQ => wpIn_cond_true (rep_bool_inv (evalT_rep ht he)) (a3 G w a rd Q hW ht hd hr hQ)⟩
    · rename_i he
      obtain ⟨a1, a2, a3⟩ := (ihz _ _ _ _ _ h).1
      exact ⟨a1, a2, fun G w a rd Q hW ht hd hr hQ => wpIn_cond_false (rep_bool_inv (evalT_rep ht he)) (a3 G w a rd Q hW ht hd hr hQ)⟩
    · simp at h
  | block id b ih =>
    intro fr S ex fr' S' h
    refine ⟨?_, by simp⟩
    simp only [execS, Option.map_eq_some_iff] at h
    obtain ⟨⟨ex1, fr1, S1⟩, h1, h⟩ := h
    obtain ⟨a1, a2, a3⟩ := (ih _ _ _ _ _ h1).1
    unfold exitBlock at h
    split at h
    · rename_i he
      simp only at he
      simp only [Prod.mk.injEq] at h
      obtain ⟨rfl, rfl, rfl⟩ := h
      subst he
      refine ⟨a1, a2, fun G w a rd Q hW ht hd hr hQ => wpIn_block (a3 G w a rd _ hW ht hd hr fun G' w' a' hW' hst' ht' hd' => ?_)⟩
      have := hQ G' w' a' hW' hst' ht' hd'
      simpa [Exit.inBlock, toExit] using this
    · rename_i he
      simp only at he
      simp only [Prod.mk.injEq] at h
      obtain ⟨rfl, rfl, rfl⟩ := h
      refine ⟨a1, a2, fun G w a rd Q hW ht hd hr hQ => wpIn_block (a3 G w a rd _ hW ht hd hr fun G' w' a' hW' hst' ht' hd' => ?_)⟩
      have := hQ G' w' a' hW' hst' ht' hd'
      cases ex1 with
      | exit id' =>
        have hne : id' ≠ id := fun e => he (by rw [e])
        simpa [Exit.inBlock, toExit, hne] using this
      | _ => exact this
  | loop b ih =>
    intro fr S ex fr' S' h
    have hl : LoopOk P b fr S ex fr' S' := by
      simp only [execS, Option.bind_eq_some_iff] at h
      obtain ⟨⟨ex1, fr1, S1⟩, h1, h⟩ := h
      split at h
      · rename_i he
        simp only at he
        subst he
        exact loop_more b (ih _ _ _ _ _ h1).1 (hR.loop _ _ _ _ _ _ h)
      · rename_i he
        simp only [Option.some.injEq, Prod.mk.injEq] at h
        obtain ⟨rfl, rfl, rfl⟩ := h
        exact loop_last b he (ih _ _ _ _ _ h1).1
    exact ⟨loop_of b hl, fun b' e => by cases e; exact hl⟩
  | exit id =>
    intro fr S ex fr' S' h
    simp only [execS, Option.some.injEq, Prod.mk.injEq] at h
    obtain ⟨rfl, rfl, rfl⟩ := h
    exact ⟨⟨rfl, rfl, fun G w a rd Q hW ht hd hr hQ => wpIn_exit (hQ G w a hW (.refl _ _ _) ht hd)⟩, by simp⟩
  | goto l =>
    intro fr S ex fr' S' h
    simp only [execS, Option.some.injEq, Prod.mk.injEq] at h
    obtain ⟨rfl, rfl, rfl⟩ := h
    exact ⟨⟨rfl, rfl, fun G w a rd Q hW ht hd hr hQ => wpIn_goto (hQ G w a hW (.refl _ _ _) ht hd)⟩, by simp⟩
  | label l =>
    intro fr S ex fr' S' h
    simp only [execS, Option.some.injEq, Prod.mk.injEq] at h
    obtain ⟨rfl, rfl, rfl⟩ := h
    exact ⟨⟨rfl, rfl, fun G w a rd Q hW ht hd hr hQ => wpIn_label (hQ G w a hW (.refl _ _ _) ht hd)⟩, by simp⟩
  | ret =>
    intro fr S ex fr' S' h
    simp only [execS, Option.some.injEq, Prod.mk.injEq] at h
    obtain ⟨rfl, rfl, rfl⟩ := h
    exact ⟨⟨rfl, rfl, fun G w a rd Q hW ht hd hr hQ => wpIn_ret (hQ G w a hW (.refl _ _ _) ht hd)⟩, by simp⟩
  | rangeFunc g ps asg body =>
    intro fr S ex fr' S' h
    exact ⟨rangeFunc_ok hc hR h, by simp⟩
  | scope b =>
    intro fr S ex fr' S' h
    simp [execS] at h
  | refuse s =>
    intro fr S ex fr' S' h
    simp [execS] at h

/-- **THE ABSTRACT MACHINE IS SOUND.** -/
theorem run_ok (hc : CfgOk P c) (hD : ∀ R, RecOk P R → DrawOk P c R) : ∀ n, RecOk P (run c n)
  | 0 => ⟨fun _ _ _ _ _ _ h => by simp [run] at h, fun _ _ _ _ _ _ h => by simp [run] at h, fun _ _ _ _ _ h => by simp [run] at h⟩
  | n + 1 => by
    have ih := run_ok hc hD n
    exact ⟨fun code fr S ex fr' S' h => (exec_ok hc ih (hD _ ih) code fr S ex fr' S' h).1, fun b fr S ex fr' S' h => (exec_ok hc ih (hD _ ih) (.loop b) fr S ex fr' S' h).2 b rfl,
      fun f args S r S' h => callS_ok hc ih.code h⟩

end Go.Am

