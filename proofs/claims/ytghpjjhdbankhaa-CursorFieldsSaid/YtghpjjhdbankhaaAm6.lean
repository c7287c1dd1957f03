/- THE ABSTRACT MACHINE, SEVENTH FILE: structs, slices, memory read. -/
import Derived.Test.YtghpjjhdbankhaaAm5
set_option linter.unusedSimpArgs false
set_option linter.unusedVariables false
namespace Go.Am
open Go.RowKit
variable {P : Program} {c : Cfg}

/-! ### Cells put into cells -/
theorem foldl_splice : ∀ (vs : List Value) (k off : Nat) (cs : Array Value), off + k + vs.length ≤ cs.size →
    ((vs.zipIdx k).foldl (fun cs (x : Value × Nat) => cs.setIfInBounds (off + x.2) x.1) cs).toList = cs.toList.take (off + k) ++ vs ++ cs.toList.drop (off + k + vs.length)
  | [], k, off, cs, h => by simp
  | v :: vs, k, off, cs, h => by
    simp only [List.zipIdx_cons, List.foldl_cons, List.length_cons] at h ⊢
    have hk : off + k < cs.toList.length := by simp; omega
    rw [foldl_splice vs (k + 1) off _ (by simp; omega)]
    simp only [Array.toList_setIfInBounds]
    rw [show off + (k + 1) = off + k + 1 by omega, List.take_succ_eq_append_getElem (by simpa using hk), List.getElem_set_self, List.take_set_of_le (by omega), List.drop_set_of_lt (by omega)]
    simp [show off + k + 1 + vs.length = off + k + (vs.length + 1) by omega]

theorem RepL.splice {G : Gh} {w : World} {cs xs : List AV} {vs us : List Value} (h : RepL G w cs vs) (k : RepL G w xs us) (off : Nat) :
    RepL G w (splice cs off xs) (vs.take off ++ us ++ vs.drop (off + us.length)) := by
  unfold Am.splice
  rw [k.1]
  exact ((h.take off).append k).append (h.drop _)

theorem leaf_append {xs ys : List AV} (hx : ∀ (j : Nat) (x : AV), xs[j]? = some x → leaf x = true) (hy : ∀ (j : Nat) (x : AV), ys[j]? = some x → leaf x = true) : ∀ (j : Nat) (x : AV), (xs ++ ys)[j]? = some x → leaf x = true := by
  intro j x h
  rw [List.getElem?_append] at h
  split at h
  · exact hx _ _ h
  · exact hy _ _ h
theorem leaf_take {xs : List AV} (n : Nat) (hx : ∀ (j : Nat) (x : AV), xs[j]? = some x → leaf x = true) : ∀ (j : Nat) (x : AV), (xs.take n)[j]? = some x → leaf x = true := by
  intro j x h
  rw [List.getElem?_take] at h
  split at h
  · exact hx _ _ h
  · simp at h
theorem leaf_drop {xs : List AV} (n : Nat) (hx : ∀ (j : Nat) (x : AV), xs[j]? = some x → leaf x = true) : ∀ (j : Nat) (x : AV), (xs.drop n)[j]? = some x → leaf x = true := by
  intro j x h
  rw [List.getElem?_drop] at h
  exact hx _ _ h
theorem leaf_splice {cs xs : List AV} (off : Nat) (hc : ∀ (j : Nat) (x : AV), cs[j]? = some x → leaf x = true) (hx : ∀ (j : Nat) (x : AV), xs[j]? = some x → leaf x = true) :
    ∀ (j : Nat) (x : AV), (splice cs off xs)[j]? = some x → leaf x = true :=
  leaf_append (leaf_append (leaf_take _ hc) hx) (leaf_drop _ hc)

/-- Parts of a struct, an array, a slice. -/
inductive RepP (G : Gh) (w : World) : List (Nat × AV) → List (Nat × Value) → Prop
  | nil : RepP G w [] []
  | cons (i : Nat) {x : AV} {v : Value} {ps : List (Nat × AV)} {vs : List (Nat × Value)} (h : Rep G w x v) (t : RepP G w ps vs) : RepP G w ((i, x) :: ps) ((i, v) :: vs)

theorem evalP_rep {G : Gh} {w : World} {tm : List AV} {a : Act} (ht : RepL G w tm a.tmps.toList) : ∀ {ps : List (Nat × Operand)} {qs : List (Nat × AV)}, evalP tm ps = some qs →
    RepP G w qs (ps.map fun p => (p.1, a.eval p.2))
  | [], qs, h => by simp [evalP] at h; subst h; exact .nil
  | (i, x) :: ps, qs, h => by
    simp only [evalP, Option.bind_eq_some_iff, Option.map_eq_some_iff] at h
    obtain ⟨y, hy, ys, hys, rfl⟩ := h
    exact .cons i (evalT_rep ht hy) (evalP_rep ht hys)

/-- One part is put in. -/
theorem fill_one {place : Nat → Option (Nat × Nat)} {cells : Array Value} {i off size : Nat} {v : Value} {rest : List (Nat × Value)} (hp : place i = some (off, size)) (hs : v.cells.size = size) (hle : off + v.cells.size ≤ cells.size) :
    ∃ cells', Instr.fill place cells ((i, v) :: rest) = Instr.fill place cells' rest ∧ cells'.toList = cells.toList.take off ++ v.cells.toList ++ cells.toList.drop (off + v.cells.toList.length) ∧ cells'.size = cells.size := by
  have hb : ¬ (v.cells.size ≠ size || off + v.cells.size > cells.size) = true := by simp; omega
  refine ⟨v.cells.zipIdx.foldl (fun cs (x : Value × Nat) => cs.setIfInBounds (off + x.2) x.1) cells, ?_, ?_, ?_⟩
  · simp only [Instr.fill, hp]
    rw [if_neg hb]
  · rw [← Array.foldl_toList, Array.toList_zipIdx]
    have := foldl_splice v.cells.toList 0 off cells (by simp; omega)
    simpa using this
  · have h1 := foldl_splice v.cells.toList 0 off cells (by simp; omega)
    have h2 : (v.cells.zipIdx.foldl (fun cs (x : Value × Nat) => cs.setIfInBounds (off + x.2) x.1) cells).toList = cells.toList.take off ++ v.cells.toList ++ cells.toList.drop (off + v.cells.toList.length) := by
      rw [← Array.foldl_toList, Array.toList_zipIdx]
      simpa using h1
    have h3 := congrArg List.length h2
    rw [Array.length_toList] at h3
    rw [h3]
    simp
    omega

theorem fillS_rep (hc : CfgOk P c) {G : Gh} {w : World} {fs : List (TypeId × Nat)} {places : List (Nat × Nat)} (hpl : ∀ (i : Nat) (f : TypeId × Nat) (ft : Ty), fs[i]? = some f → c.ty f.1 = some ft → places[i]? = some (f.2, ft.size)) :
    ∀ {ps : List (Nat × AV)} {vs : List (Nat × Value)} {cs : List AV} {cells : Array Value} {r : List AV}, RepP G w ps vs → fillS c fs cs ps = some r → RepL G w cs cells.toList → (∀ (j : Nat) (x : AV), cs[j]? = some x → leaf x = true) →
      ∃ cells', Instr.fill (places[·]?) cells vs = some cells' ∧ RepL G w r cells'.toList ∧ ∀ (j : Nat) (x : AV), r[j]? = some x → leaf x = true := by
  intro ps vs cs cells r hp
  induction hp generalizing cs cells r with
  | nil =>
    intro h hr hl
    simp [fillS] at h
    subst h
    exact ⟨cells, rfl, hr, hl⟩
  | @cons i x v ps' vs' hx _ ih =>
    intro h hr hl
    simp only [fillS, Option.bind_eq_some_iff] at h
    obtain ⟨f, hf, ft, hft, h⟩ := h
    split at h
    · rename_i hq
      obtain ⟨h1, h2, h3⟩ := hq
      obtain ⟨k1, k2⟩ := rep_cells hx h1
      have e1 := k1.1
      have e2 := hr.1
      simp at e1 e2
      obtain ⟨cells', g1, g2, _⟩ := fill_one (rest := vs') (hpl i f ft hf hft) (v := v) (cells := cells) (by omega) (by omega)
      obtain ⟨cells'', m1, m2, m3⟩ := ih h (cells := cells') (by rw [g2]; exact hr.splice k1 f.2) (leaf_splice _ hl k2)
      exact ⟨cells'', g1.trans m1, m2, m3⟩
    · simp at h

theorem fillA_rep {G : Gh} {w : World} {size : Nat} :
    ∀ {ps : List (Nat × AV)} {vs : List (Nat × Value)} {cs : List AV} {cells : Array Value} {r : List AV}, RepP G w ps vs → fillA size cs ps = some r → RepL G w cs cells.toList → (∀ (j : Nat) (x : AV), cs[j]? = some x → leaf x = true) →
      ∃ cells', Instr.fill (fun i => some (i * size, size)) cells vs = some cells' ∧ RepL G w r cells'.toList ∧ ∀ (j : Nat) (x : AV), r[j]? = some x → leaf x = true := by
  intro ps vs cs cells r hp
  induction hp generalizing cs cells r with
  | nil =>
    intro h hr hl
    simp [fillA] at h
    subst h
    exact ⟨cells, rfl, hr, hl⟩
  | @cons i x v ps' vs' hx _ ih =>
    intro h hr hl
    simp only [fillA] at h
    split at h
    · rename_i hq
      obtain ⟨h1, h2, h3⟩ := hq
      obtain ⟨k1, k2⟩ := rep_cells hx h1
      have e1 := k1.1
      have e2 := hr.1
      simp at e1 e2
      obtain ⟨cells', g1, g2, _⟩ := fill_one (place := fun i => some (i * size, size)) (rest := vs') (i := i) rfl (v := v) (cells := cells) (by omega) (by omega)
      obtain ⟨cells'', m1, m2, m3⟩ := ih h (cells := cells') (by rw [g2]; exact hr.splice k1 _) (leaf_splice _ hl k2)
      exact ⟨cells'', g1.trans m1, m2, m3⟩
    · simp at h

theorem run_abuild (hc : CfgOk P c) {G : Gh} {w : World} {t : TypeId} {ps : List (Nat × AV)} {vs : List (Nat × Value)} {r : AV} (h : abuild c t ps = some r) (hp : RepP G w ps vs) :
    ∃ q, (Instr.build t vs.toArray).run P w = .ok q w ∧ Rep G w r q := by
  unfold abuild at h
  simp only [Option.bind_eq_some_iff] at h
  obtain ⟨i, hi, z, hz, h⟩ := h
  obtain ⟨info, d, h1, h2, h3, h4, h5, h6⟩ := ty_inv (hc.ty t i hi)
  rw [h6] at hz
  simp only [Option.bind_eq_some_iff] at hz
  obtain ⟨zv, hzv, hz⟩ := hz
  obtain ⟨hzr, hzl, hzx⟩ := zeroC_rep (G := G) (w := w) hz
  split at h
  · rename_i fs hk
    split at h
    · rename_i hall
      simp only [Option.map_eq_some_iff] at h
      obtain ⟨cs, hcs, rfl⟩ := h
      rw [h3] at hk
      cases d <;> simp [tkOf] at hk
      rename_i fields
      subst hk
      have hpl : ∃ places, fields.toList.mapM (fun f => (P.info? f.type).map fun i => (f.offset, i.size)) = some places ∧
          ∀ (i : Nat) (f : TypeId × Nat) (ft : Ty), (fields.toList.map fun f => (f.type, f.offset))[i]? = some f → c.ty f.1 = some ft → places[i]? = some (f.2, ft.size) := by
        generalize fields.toList = l at hall
        clear hcs
        induction l with
        | nil => exact ⟨[], rfl, fun i f ft h => by simp at h⟩
        | cons f l ih =>
          simp only [List.map_cons, List.all_cons, Bool.and_eq_true] at hall
          obtain ⟨places, hpl, hat⟩ := ih hall.2
          obtain ⟨ft, hft⟩ := Option.isSome_iff_exists.1 hall.1
          obtain ⟨finfo, _, k1, _, _, k4, _⟩ := ty_inv (hc.ty _ _ hft)
          refine ⟨(f.offset, ft.size) :: places, ?_, fun i g gt hg hgt => ?_⟩
          · simp only [List.mapM_cons, hpl, k1, k4]
            rfl
          · cases i with
            | zero =>
              simp at hg
              subst hg
              simp only at hgt
              rw [hft] at hgt
              cases hgt
              rfl
            | succ i => simp at hg; simpa using hat i g gt (by simpa using hg) hgt
      obtain ⟨places, hm, hat⟩ := hpl
      obtain ⟨cells', m1, m2, m3⟩ := fillS_rep hc hat hp hcs hzr hzl
      refine ⟨.agg cells', run_build w t vs.toArray cells' ?_, rep_agg.2 ⟨m2, m3⟩⟩
      unfold Program.built
      simp only [h1, h2, hzv, hm]
      simpa using m1
    · simp at h
  · rename_i n e hk
    simp only [Option.bind_eq_some_iff, Option.map_eq_some_iff] at h
    obtain ⟨ei, hei, cs, hcs, rfl⟩ := h
    rw [h3] at hk
    cases d <;> simp [tkOf] at hk
    obtain ⟨rfl, rfl⟩ := hk
    obtain ⟨einfo, _, k1, _, _, k4, _⟩ := ty_inv (hc.ty _ _ hei)
    obtain ⟨cells', m1, m2, m3⟩ := fillA_rep hp hcs hzr hzl
    refine ⟨.agg cells', ?_, rep_agg.2 ⟨m2, m3⟩⟩
    rw [k4] at m1
    simp [Instr.build, Sem.run_bind, run_zero_ty h1 hzv, run_underlying h2, run_size_ty k1, m1]
  · simp at h

end Go.Am
