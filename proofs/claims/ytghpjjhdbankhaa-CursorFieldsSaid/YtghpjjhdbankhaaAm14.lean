/- THE ABSTRACT MACHINE, FIFTEENTH FILE: rows that are written no more. -/
import Derived.Test.YtghpjjhdbankhaaAm13
set_option linter.unusedSimpArgs false
set_option linter.unusedVariables false
namespace Go.Am
variable {P : Program} {c : Cfg}

/-- The cells that a list of locks speaks of are among IM. -/
def Locked (G : Gh) (S : St) (l : List (Nat × Nat)) (IM : Nat → Nat → Prop) : Prop :=
  ∀ o k, (o, k) ∈ l → ∀ g es rows exp s, S.get o = some (.seq g es rows exp) → G.seg o g s → 0 < s.cp → ∀ f, s.st ≤ f → f < s.st + k * s.es → f < s.st + s.cp * s.es → IM s.b f

def Gh.withIm (G : Gh) (IM : Nat → Nat → Prop) : Gh := { G with im := IM }

theorem lock_one {G : Gh} {S : St} {w : World} {o g es exp k : Nat} {rows : Rows} (h : Wrel G S w) (hget : S.get o = some (.seq g es rows exp)) (hbase : S.base ≤ o) :
    ∃ IM, Wrel (G.withIm IM) (S.set o (.seq g es rows (max exp k))) w ∧ Step G S w (G.withIm IM) (S.set o (.seq g es rows (max exp k))) w ∧ Locked G S [(o, k)] IM := by
  obtain ⟨s, hs, hes, hle, hrl, hob⟩ := h.obj _ _ hget
  refine ⟨fun b f => G.im b f ∨ (b = s.b ∧ 0 < s.cp ∧ s.st ≤ f ∧ f < s.st + k * s.es ∧ f < s.st + s.cp * s.es), ?_⟩
  have hg : G.Le (G.withIm fun b f => G.im b f ∨ (b = s.b ∧ 0 < s.cp ∧ s.st ≤ f ∧ f < s.st + k * s.es ∧ f < s.st + s.cp * s.es)) := ⟨fun _ _ x => x, fun _ _ _ x => x, fun _ _ x => .inl x⟩
  have hk : Kept G w w := fun _ _ _ _ x => x
  obtain ⟨g1, g2⟩ := upd_step (b := s.b) (a := .seq g es rows (max exp k)) h hget hbase (Turned.of_laid (Laid.refl w)) (.inr (Laid.refl w)) hg hk (fun _ _ x => x) (fun _ _ _ x => .inl x) (fun a b h1 h2 => by simp [genOf] at h1 h2; omega) (fun _ _ => rfl)
    (fun g' s1 s2 h1 h2 => h.fseg _ _ _ _ h1 h2) (fun b f hi => hi.imp id fun ⟨x, y, z1, z2, z3⟩ => by
      subst x
      refine ⟨.inl ⟨s, hs, y, rfl⟩, Option.isSome_iff_exists.1 ?_⟩
      have := ((hob y).1 (f - s.st) (by omega)).1
      rwa [show s.st + (f - s.st) = f by omega] at this) (fun b hb => .inl hb)
    ⟨s, hs, hes, hle, hrl, fun hcp => ⟨(hob hcp).1, fun i r j x hi hj => by
      obtain ⟨a1, u, a2, a3⟩ := (hob hcp).2.1 i r j x hi hj
      exact ⟨a1, u, a2, a3.mono hg hk⟩, fun f hi => by
      rcases hi with hi | ⟨_, _, _, hi, _⟩
      · have := (hob hcp).2.2 f hi
        have h2 : exp * s.es ≤ max exp k * s.es := Nat.mul_le_mul_right _ (Nat.le_max_left _ _)
        omega
      · have h2 : k * s.es ≤ max exp k * s.es := Nat.mul_le_mul_right _ (Nat.le_max_right _ _)
        omega⟩⟩
  refine ⟨g1, g2, fun o' k' hm g' es' rows' exp' s' hg' hs' hcp f h1 h2 h3 => ?_⟩
  simp at hm
  obtain ⟨rfl, rfl⟩ := hm
  rw [hget] at hg'
  cases hg'
  obtain rfl := h.fseg _ _ _ _ hs hs'
  exact .inr ⟨rfl, hcp, h1, h2, h3⟩

/-- Objects that differ in their locks alone. -/
def SameSeq (S S' : St) : Prop := ∀ o g es rows exp, S.get o = some (.seq g es rows exp) → ∃ exp', S'.get o = some (.seq g es rows exp')

theorem Locked.mono {G : Gh} {S S' : St} {l : List (Nat × Nat)} {IM IM' : Nat → Nat → Prop} (h : Locked G S' l IM) (hs : SameSeq S S') (hi : ∀ b f, IM b f → IM' b f) : Locked G S l IM' :=
  fun o k hm g es rows exp s hg hs' hcp f h1 h2 h3 => let ⟨exp', he⟩ := hs o g es rows exp hg; hi _ _ (h o k hm g es rows exp' s he hs' hcp f h1 h2 h3)

theorem lockAll_ok {w : World} : ∀ {l : List (Nat × Nat)} {G : Gh} {S S' : St}, Wrel G S w → S.lockAll l = some S' →
    ∃ IM, Wrel (G.withIm IM) S' w ∧ Step G S w (G.withIm IM) S' w ∧ Locked G S l IM ∧ SameSeq S S'
  | [], G, S, S', h, hl => by
    simp [St.lockAll] at hl
    subst hl
    exact ⟨G.im, h, .refl G S w, fun o k hm => by simp at hm, fun o g es rows exp hg => ⟨exp, hg⟩⟩
  | (o, k) :: l, G, S, S', h, hl => by
    rw [St.lockAll] at hl
    split at hl
    · rename_i g es rows exp hget
      simp only [Option.bind_eq_some_iff] at hl
      obtain ⟨S1, hp, hl⟩ := hl
      obtain ⟨hbase, rfl⟩ := St.putO_some hp
      obtain ⟨IM1, h1, h2, h3⟩ := lock_one (k := k) h hget hbase
      obtain ⟨IM2, k1, k2, k3, k4⟩ := lockAll_ok h1 hl
      have hss : SameSeq S (S.set o (.seq g es rows (max exp k))) := fun o' g' es' rows' exp' hg' => by
        by_cases e : o' = o
        · subst e
          rw [hget] at hg'
          cases hg'
          exact ⟨_, St.get_set_same h.len _ (St.get_lt hget)⟩
        · exact ⟨exp', by rw [St.get_set_other _ (St.get_lt hget) e]; exact hg'⟩
      refine ⟨IM2, k1, h2.trans k2, fun o' k' hm => ?_, fun o' g' es' rows' exp' hg' => ?_⟩
      · rcases List.mem_cons.1 hm with e | hm
        · exact (h3.mono (fun o g es rows exp hg => ⟨exp, hg⟩) fun b f hi => k2.le.im b f hi) o' k' (by rw [e]; simp)
        · exact (k3.mono hss fun _ _ x => x) o' k' hm
      · obtain ⟨e1, he⟩ := hss _ _ _ _ _ hg'
        exact k4 _ _ _ _ _ he
    · exact absurd hl (by simp)

theorem lockAll_some {w : World} : ∀ {l : List (Nat × Nat)} {G : Gh} {S : St}, Wrel G S w → (∀ o k, (o, k) ∈ l → S.base ≤ o ∧ ∃ g es rows exp, S.get o = some (.seq g es rows exp)) → ∃ S', S.lockAll l = some S'
  | [], G, S, h, hl => ⟨S, rfl⟩
  | (o, k) :: l, G, S, h, hl => by
    obtain ⟨hb, g, es, rows, exp, hget⟩ := hl o k (by simp)
    rw [St.lockAll, hget]
    simp only [St.putO, if_pos hb, Option.bind_some]
    obtain ⟨IM1, h1, h2, h3⟩ := lock_one (k := k) h hget hb
    refine lockAll_some h1 fun o' k' hm => ?_
    obtain ⟨hb', g', es', rows', exp', hget'⟩ := hl o' k' (by simp [hm])
    refine ⟨hb', ?_⟩
    by_cases e : o' = o
    · subst e
      exact ⟨_, _, _, _, St.get_set_same h.len _ (St.get_lt hget)⟩
    · exact ⟨_, _, _, _, by rw [St.get_set_other _ (St.get_lt hget) e]; exact hget'⟩

/-! ### Freezing -/
section frz
variable {G G' : Gh} {S : St} {w : World} {IM : Nat → Nat → Prop}

theorem frz1_rep {x y : AV} {v : Value} {l : List (Nat × Nat)} (hW : Wrel G S w) (h : frz1 S x = some (y, l)) (hr : Rep G w x v) (hi : ∀ b f, G.im b f → IM b f) (hl : Locked G S l IM) (hg : ∀ b f, IM b f → G'.im b f) :
    Rep G' w y v ∧ leaf y = leaf x ∧ ∀ o k, (o, k) ∈ l → ∃ g es rows exp, S.get o = some (.seq g es rows exp) := by
  unfold frz1 at h
  split at h
  · rename_i o g off len
    simp only [Option.bind_eq_some_iff, Option.map_eq_some_iff, Prod.mk.injEq] at h
    obtain ⟨r, hrows, r', hr', rfl, rfl⟩ := h
    unfold St.rows at hrows
    split at hrows
    · rename_i g' es rows exp hget
      split at hrows
      · rename_i hq
        obtain ⟨rfl, hle⟩ := hq
        simp at hrows
        subst hrows
        refine ⟨?_, rfl, fun o' k' hm => ?_⟩
        · obtain ⟨k1, k2⟩ := nrmR_get hr'
          have hlen : r'.length = len := by rw [k1]; simp; omega
          cases hr with
          | sref0 _ _ _ s hs hoff a =>
            have : r' = [] := List.eq_nil_of_length_eq_zero hlen
            subst this
            exact .vec0 _ _ fun e => by simp at e
          | sref _ _ _ _ s hs hoff hcap =>
            obtain ⟨hes, hlen', hrl, hcell, hob⟩ := hW.seq hget hs
            have key : ∀ (i : Nat) (q : List AV), r'[i]? = some q → i < len ∧ ∃ q0, rows[off + i]? = some q0 ∧ nrmL q0 = some q := fun i q hiq => by
              obtain ⟨q0, h1, h2⟩ := k2 i q hiq
              rw [List.getElem?_take] at h1
              split at h1
              · rename_i hlt
                rw [List.getElem?_drop] at h1
                exact ⟨hlt, q0, h1, h2⟩
              · simp at h1
            have hat : RowsAt G' w s.b (s.st + off * s.es) s.es r' := by
              refine ⟨fun i q hiq => ?_, fun i q j x hiq hj => ?_⟩ <;> obtain ⟨hlt, q0, h1, h2⟩ := key i q hiq
              · rw [(nrmL_get h2).1]; exact hrl _ _ h1
              · obtain ⟨x0, h3, h4⟩ := (nrmL_get h2).2 j x hj
                obtain ⟨a1, u, a2, a3⟩ := hcell _ _ h1 j x0 h3
                have hr3 := row_lt hrl h1 h3
                have e1 : s.st + off * s.es + i * s.es + j = s.st + (off + i) * s.es + j := by rw [Nat.add_mul]; omega
                have hle1 : (off + i + 1) * s.es ≤ (off + len) * s.es := Nat.mul_le_mul_right _ (by omega)
                have hle2 : (off + i + 1) * s.es ≤ s.cp * s.es := Nat.mul_le_mul_right _ (by omega)
                rw [Nat.add_mul (off + i)] at hle1 hle2
                refine ⟨by rw [nrm_leaf h4]; exact a1, u, ⟨?_, by rw [e1]; exact a2⟩, rep_nrm a3 h4 fun b f u hc => ⟨hg _ _ (hi _ _ hc.1), hc.2⟩⟩
                rw [e1]
                exact hg _ _ (hl o (off + len) (by simp) _ _ _ _ _ hget hs (by omega) _ (by omega) (by omega) (by omega))
            have := rep_vec hat (cap := s.cp - off) (by omega)
            rw [hlen] at this
            exact this
        · simp at hm
          obtain ⟨rfl, rfl⟩ := hm
          exact ⟨_, _, _, _, hget⟩
      · simp at hrows
    · simp at hrows
  · simp only [Option.map_eq_some_iff, Prod.mk.injEq] at h
    obtain ⟨v', hv, rfl, rfl⟩ := h
    exact ⟨rep_nrm hr hv fun b f u hc => ⟨hg _ _ (hi _ _ hc.1), hc.2⟩, nrm_leaf hv, fun o k hm => by simp at hm⟩

theorem Locked.left {l l' : List (Nat × Nat)} (h : Locked G S (l ++ l') IM) : Locked G S l IM := fun o k hm => h o k (List.mem_append_left _ hm)
theorem Locked.right {l l' : List (Nat × Nat)} (h : Locked G S (l ++ l') IM) : Locked G S l' IM := fun o k hm => h o k (List.mem_append_right _ hm)

theorem frzL_rep : ∀ {xs ys : List AV} {vs : List Value} {l : List (Nat × Nat)}, Wrel G S w → frzL S xs = some (ys, l) → RepL G w xs vs → (∀ b f, G.im b f → IM b f) → Locked G S l IM → (∀ b f, IM b f → G'.im b f) →
    RepL G' w ys vs ∧ ((∀ (j : Nat) (x : AV), xs[j]? = some x → leaf x = true) → ∀ (j : Nat) (x : AV), ys[j]? = some x → leaf x = true) ∧ ∀ o k, (o, k) ∈ l → ∃ g es rows exp, S.get o = some (.seq g es rows exp)
  | [], ys, vs, l, hW, h, hr, hi, hl, hg => by
    simp [frzL] at h
    obtain ⟨rfl, rfl⟩ := h
    rw [hr.nil_inv]
    exact ⟨RepL.nil _ _, fun _ j x hj => by simp at hj, fun o k hm => by simp at hm⟩
  | x :: xs, ys, vs, l, hW, h, hr, hi, hl, hg => by
    simp only [frzL, Option.bind_eq_some_iff, Option.map_eq_some_iff, Prod.mk.injEq] at h
    obtain ⟨⟨a, la⟩, ha, ⟨b, lb⟩, hb, rfl, rfl⟩ := h
    obtain ⟨v, vs', rfl, h1, h2⟩ := hr.uncons
    obtain ⟨k1, k2, k3⟩ := frz1_rep hW ha h1 hi hl.left hg
    obtain ⟨q1, q2, q3⟩ := frzL_rep hW hb h2 hi hl.right hg
    refine ⟨RepL.cons k1 q1, fun hx j y hj => ?_, fun o k hm => ?_⟩
    · cases j with
      | zero => simp at hj; subst hj; rw [k2]; exact hx 0 x (by simp)
      | succ j => exact q2 (fun j x hj => hx (j + 1) x (by simpa using hj)) j y (by simpa using hj)
    · rcases List.mem_append.1 hm with hm | hm
      · exact k3 o k hm
      · exact q3 o k hm

theorem frzA_rep {x y : AV} {v : Value} {l : List (Nat × Nat)} (hW : Wrel G S w) (h : frzA S x = some (y, l)) (hr : Rep G w x v) (hi : ∀ b f, G.im b f → IM b f) (hl : Locked G S l IM) (hg : ∀ b f, IM b f → G'.im b f) :
    Rep G' w y v ∧ ∀ o k, (o, k) ∈ l → ∃ g es rows exp, S.get o = some (.seq g es rows exp) := by
  unfold frzA at h
  split at h
  · simp only [Option.map_eq_some_iff, Prod.mk.injEq] at h
    obtain ⟨⟨ys, l'⟩, ha, rfl, rfl⟩ := h
    obtain ⟨vs, rfl, h1, h2⟩ := rep_agg_inv hr
    obtain ⟨k1, k2, k3⟩ := frzL_rep hW ha h1 hi hl hg
    exact ⟨rep_agg.2 ⟨k1, k2 h2⟩, k3⟩
  · obtain ⟨k1, k2, k3⟩ := frz1_rep hW h hr hi hl hg
    exact ⟨k1, k3⟩

theorem frzLA_rep : ∀ {xs ys : List AV} {vs : List Value} {l : List (Nat × Nat)}, Wrel G S w → frzLA S xs = some (ys, l) → RepL G w xs vs → (∀ b f, G.im b f → IM b f) → Locked G S l IM → (∀ b f, IM b f → G'.im b f) →
    RepL G' w ys vs ∧ ∀ o k, (o, k) ∈ l → ∃ g es rows exp, S.get o = some (.seq g es rows exp)
  | [], ys, vs, l, hW, h, hr, hi, hl, hg => by
    simp [frzLA] at h
    obtain ⟨rfl, rfl⟩ := h
    rw [hr.nil_inv]
    exact ⟨RepL.nil _ _, fun o k hm => by simp at hm⟩
  | x :: xs, ys, vs, l, hW, h, hr, hi, hl, hg => by
    simp only [frzLA, Option.bind_eq_some_iff, Option.map_eq_some_iff, Prod.mk.injEq] at h
    obtain ⟨⟨a, la⟩, ha, ⟨b, lb⟩, hb, rfl, rfl⟩ := h
    obtain ⟨v, vs', rfl, h1, h2⟩ := hr.uncons
    obtain ⟨k1, k3⟩ := frzA_rep hW ha h1 hi hl.left hg
    obtain ⟨q1, q3⟩ := frzLA_rep hW hb h2 hi hl.right hg
    refine ⟨RepL.cons k1 q1, fun o k hm => ?_⟩
    rcases List.mem_append.1 hm with hm | hm
    · exact k3 o k hm
    · exact q3 o k hm

theorem frz_rep {x y : AV} {v : Value} {l : List (Nat × Nat)} (hW : Wrel G S w) (h : frz S x = some (y, l)) (hr : Rep G w x v) (hi : ∀ b f, G.im b f → IM b f) (hl : Locked G S l IM) (hg : ∀ b f, IM b f → G'.im b f) :
    Rep G' w y v ∧ ∀ o k, (o, k) ∈ l → ∃ g es rows exp, S.get o = some (.seq g es rows exp) := by
  unfold frz at h
  split at h
  · simp only [Option.map_eq_some_iff, Prod.mk.injEq] at h
    obtain ⟨⟨ys, l'⟩, ha, rfl, rfl⟩ := h
    obtain ⟨vs, rfl, h1⟩ := rep_tup_inv hr
    obtain ⟨k1, k3⟩ := frzLA_rep hW ha h1 hi hl hg
    exact ⟨rep_tup.2 k1, k3⟩
  · exact frzA_rep hW h hr hi hl hg

end frz

end Go.Am
