/- THE ABSTRACT MACHINE, EIGHTH FILE: slices that are built, memory that is read. -/
import Derived.Test.YtghpjjhdbankhaaAm6
set_option linter.unusedSimpArgs false
set_option linter.unusedVariables false
namespace Go.Am
open Go.RowKit
variable {P : Program} {c : Cfg}

/-! ### Rows, cell behind cell -/
structure RowsIn (G : Gh) (w : World) (es : Nat) (rows : Rows) (vals : List Value) : Prop where
  size : vals.length = rows.length * es
  len : ∀ (i : Nat) (r : List AV), rows[i]? = some r → r.length = es
  cell : ∀ (i : Nat) (r : List AV) (j : Nat) (x : AV), rows[i]? = some r → r[j]? = some x → leaf x = true ∧ ∃ u, vals[i * es + j]? = some u ∧ Rep G w x u

theorem RowsIn.mono {G G' : Gh} {w w' : World} (hg : G.Le G') (hk : Kept G w w') {es : Nat} {rows : Rows} {vals : List Value} (h : RowsIn G w es rows vals) : RowsIn G' w' es rows vals :=
  ⟨h.size, h.len, fun i r j x hi hj => let ⟨a, u, b, d⟩ := h.cell i r j x hi hj; ⟨a, u, b, d.mono hg hk⟩⟩

theorem row_lt {rows : Rows} {es i j : Nat} {r : List AV} {x : AV} (h : ∀ (i : Nat) (r : List AV), rows[i]? = some r → r.length = es) (hi : rows[i]? = some r) (hj : r[j]? = some x) : i < rows.length ∧ j < es ∧ i * es + j < rows.length * es := by
  have h1 : i < rows.length := (List.getElem?_eq_some_iff.1 hi).1
  have h2 : j < r.length := (List.getElem?_eq_some_iff.1 hj).1
  rw [h i r hi] at h2
  refine ⟨h1, h2, ?_⟩
  have : (i + 1) * es ≤ rows.length * es := Nat.mul_le_mul_right _ h1
  rw [Nat.add_mul] at this
  omega

theorem RowsIn.append {G : Gh} {w : World} {es : Nat} {a b : Rows} {va vb : List Value} (h : RowsIn G w es a va) (k : RowsIn G w es b vb) : RowsIn G w es (a ++ b) (va ++ vb) := by
  refine ⟨by simp [h.size, k.size, Nat.add_mul], fun i r hi => ?_, fun i r j x hi hj => ?_⟩
  · rw [List.getElem?_append] at hi
    split at hi
    · exact h.len _ _ hi
    · exact k.len _ _ hi
  · rw [List.getElem?_append] at hi
    split at hi
    · obtain ⟨h1, u, hu, hr⟩ := h.cell i r j x hi hj
      exact ⟨h1, u, by rw [List.getElem?_append_left (by rw [h.size]; exact (row_lt h.len hi hj).2.2)]; exact hu, hr⟩
    · rename_i hge
      obtain ⟨h1, u, hu, hr⟩ := k.cell _ r j x hi hj
      refine ⟨h1, u, ?_, hr⟩
      have e : i * es + j = a.length * es + ((i - a.length) * es + j) := by
        have e1 : i = a.length + (i - a.length) := by omega
        have e2 : i * es = a.length * es + (i - a.length) * es := by rw [← Nat.add_mul, ← e1]
        omega
      rw [e, List.getElem?_append_right (by rw [h.size]; omega), h.size, Nat.add_sub_cancel_left]
      exact hu

theorem RowsIn.nil (G : Gh) (w : World) (es : Nat) : RowsIn G w es [] [] := ⟨by simp, fun i r h => by simp at h, fun i r j x h => by simp at h⟩

theorem RowsIn.one {G : Gh} {w : World} {es : Nat} {r : List AV} {vs : List Value} (h : RepL G w r vs) (hl : ∀ (j : Nat) (x : AV), r[j]? = some x → leaf x = true) (he : r.length = es) : RowsIn G w es [r] vs := by
  refine ⟨by simp [h.1, he], fun i r' hi => ?_, fun i r' j x hi hj => ?_⟩ <;> cases i <;> simp at hi <;> subst hi
  · exact he
  · obtain ⟨u, hu, hr⟩ := h.get hj
    exact ⟨hl j x hj, u, by simpa using hu, hr⟩

theorem RowsIn.replicate {G : Gh} {w : World} {z : List AV} {vs : List Value} (h : RepL G w z vs) (hl : ∀ (j : Nat) (x : AV), z[j]? = some x → leaf x = true) : ∀ n, RowsIn G w z.length (List.replicate n z) (List.replicate n vs).flatten
  | 0 => by simpa using RowsIn.nil G w z.length
  | n + 1 => by
    rw [List.replicate_succ, List.replicate_succ, List.flatten_cons]
    exact (RowsIn.one h hl rfl).append (RowsIn.replicate h hl n)

theorem getElem?_flatten_replicate {α : Type} (vs : List α) (hne : vs ≠ []) : ∀ (n k : Nat), k < n * vs.length → (List.replicate n vs).flatten[k]? = vs[k % vs.length]?
  | 0, k, h => by simp at h
  | n + 1, k, h => by
    have hpos : 0 < vs.length := List.length_pos_iff.2 hne
    rw [List.replicate_succ, List.flatten_cons]
    by_cases hk : k < vs.length
    · rw [List.getElem?_append_left hk, Nat.mod_eq_of_lt hk]
    · rw [List.getElem?_append_right (by omega), getElem?_flatten_replicate vs hne n _ (by rw [Nat.add_mul] at h; omega)]
      congr 1
      rw [Nat.mod_eq_sub_mod (by omega : k ≥ vs.length)]

/-- Zero cells, as make and a slice's literal lay them. -/
theorem range_zero (zv : Array Value) (n es : Nat) (hz : zv.size = es) (hpos : 0 < es) : ((Array.range (n * es)).map (fun k => zv[k % zv.size]!)).toList = (List.replicate n zv.toList).flatten := by
  apply List.ext_getElem?
  intro k
  by_cases hk : k < n * es
  · rw [getElem?_flatten_replicate zv.toList (by intro h; have h' := congrArg List.length h; rw [Array.length_toList, hz] at h'; simp at h'; omega) n k (by simpa [hz] using hk)]
    have hm : k % es < zv.size := by rw [hz]; exact Nat.mod_lt _ hpos
    simp [hk, hz, hm, getElem!_pos zv (k % es) hm]
  · have hk' : n * es ≤ k := Nat.le_of_not_lt hk
    have h2 : (List.replicate n zv.toList).flatten.length = n * es := by simp [hz]
    have h3 : ((Array.range (n * es)).map (fun k => zv[k % zv.size]!)).toList.length = n * es := by simp
    rw [List.getElem?_eq_none (by rw [h3]; exact hk'), List.getElem?_eq_none (by rw [h2]; exact hk')]

theorem fillR_len {size : Nat} : ∀ {ps : List (Nat × AV)} {rs r : Rows}, fillR size rs ps = some r → r.length = rs.length
  | [], rs, r, h => by simp [fillR] at h; rw [h]
  | (i, v) :: ps, rs, r, h => by
    simp only [fillR] at h
    split at h
    · have := fillR_len h; simpa using this
    · simp at h

theorem RowsIn.setRow {G : Gh} {w : World} {es : Nat} {rows : Rows} {vals : List Value} (h : RowsIn G w es rows vals) {i : Nat} (hi : i < rows.length) {r : List AV} {vs : List Value} (hr : RepL G w r vs)
    (hl : ∀ (j : Nat) (x : AV), r[j]? = some x → leaf x = true) (he : r.length = es) : RowsIn G w es (rows.set i r) (vals.take (i * es) ++ vs ++ vals.drop (i * es + vs.length)) := by
  have hv : vs.length = es := by rw [hr.1, he]
  have hle : i * es + es ≤ rows.length * es := by
    have : (i + 1) * es ≤ rows.length * es := Nat.mul_le_mul_right _ hi
    rw [Nat.add_mul] at this; omega
  have hsz := h.size
  have htk : (vals.take (i * es)).length = i * es := by rw [List.length_take, hsz]; exact Nat.min_eq_left (by omega)
  refine ⟨by rw [List.length_append, List.length_append, htk, List.length_drop, hv, hsz, List.length_set]; omega, fun k q hk => ?_, fun k q j x hk hj => ?_⟩
  · rw [List.getElem?_set] at hk
    split at hk
    · simp at hk; rw [← hk]; exact he
    · exact h.len _ _ hk
  · rw [List.getElem?_set] at hk
    split at hk
    · rename_i hik
      subst hik
      simp at hk
      subst hk
      obtain ⟨u, hu, hru⟩ := hr.get hj
      have hjl : j < vs.length := (List.getElem?_eq_some_iff.1 hu).1
      refine ⟨hl j x hj, u, ?_, hru⟩
      rw [List.append_assoc, List.getElem?_append_right (by rw [htk]; omega), htk, Nat.add_sub_cancel_left, List.getElem?_append_left hjl]
      exact hu
    · rename_i hik
      obtain ⟨h1, u, hu, hru⟩ := h.cell k q j x hk hj
      refine ⟨h1, u, ?_, hru⟩
      obtain ⟨hk1, hj1, _⟩ := row_lt h.len hk hj
      rcases Nat.lt_or_gt_of_ne hik with hlt | hgt
      · -- behind
        have : (i + 1) * es ≤ k * es := Nat.mul_le_mul_right _ hlt
        rw [Nat.add_mul] at this
        rw [List.append_assoc, List.getElem?_append_right (by rw [htk]; omega), htk, List.getElem?_append_right (by omega), List.getElem?_drop, hv]
        rw [show i * es + es + (k * es + j - i * es - es) = k * es + j by omega]
        exact hu
      · have : (k + 1) * es ≤ i * es := Nat.mul_le_mul_right _ hgt
        rw [Nat.add_mul] at this
        rw [List.append_assoc, List.getElem?_append_left (by rw [htk]; omega), List.getElem?_take, if_pos (by omega)]
        exact hu

theorem fillR_rep {G : Gh} {w : World} {size : Nat} :
    ∀ {ps : List (Nat × AV)} {vs : List (Nat × Value)} {rs : Rows} {cells : Array Value} {r : Rows}, RepP G w ps vs → fillR size rs ps = some r → RowsIn G w size rs cells.toList →
      ∃ cells', Instr.fill (fun i => some (i * size, size)) cells vs = some cells' ∧ RowsIn G w size r cells'.toList := by
  intro ps vs rs cells r hp
  induction hp generalizing rs cells r with
  | nil =>
    intro h hr
    simp [fillR] at h
    subst h
    exact ⟨cells, rfl, hr⟩
  | @cons i x v ps' vs' hx _ ih =>
    intro h hr
    simp only [fillR] at h
    split at h
    · rename_i hq
      obtain ⟨h1, h2, h3⟩ := hq
      obtain ⟨k1, k2⟩ := rep_cells hx h1
      have e1 := k1.1
      have e2 := hr.size
      simp at e1 e2
      have hle : (i + 1) * size ≤ rs.length * size := Nat.mul_le_mul_right _ h3
      rw [Nat.add_mul] at hle
      obtain ⟨cells', g1, g2, _⟩ := fill_one (place := fun i => some (i * size, size)) (rest := vs') (i := i) rfl (v := v) (cells := cells) (by omega) (by omega)
      obtain ⟨cells'', m1, m2⟩ := ih h (cells := cells') (by rw [g2]; exact hr.setRow h3 k1 k2 h2)
      exact ⟨cells'', g1.trans m1, m2⟩
    · simp at h

/-- New cells that are written no more. -/
theorem rowsAt_new {G : Gh} {w : World} {es e : Nat} {rows : Rows} {cells : Array Value} (h : RowsIn G w es rows cells.toList) {I : Nat → Nat → Prop} (hI : ∀ f, f < cells.size → I w.heap.size f) (hk : Kept G w (w.alloc (.cells cells e))) :
    RowsAt { G with im := fun b f => G.im b f ∨ I b f } (w.alloc (.cells cells e)) w.heap.size 0 es rows := by
  have hg : G.Le { G with im := fun b f => G.im b f ∨ I b f } := ⟨fun _ _ x => x, fun _ _ _ x => x, fun _ _ x => .inl x⟩
  refine ⟨h.len, fun i r j x hi hj => ?_⟩
  obtain ⟨h1, u, hu, hr⟩ := h.cell i r j x hi hj
  have hlt := (List.getElem?_eq_some_iff.1 hu).1
  simp at hlt
  refine ⟨h1, u, ⟨.inr (hI _ (by omega)), ?_⟩, hr.mono hg hk⟩
  rw [World.cell?_alloc_new]
  simpa using hu

theorem comes_buildSlice (hc : CfgOk P c) {G : Gh} {S : St} {w : World} {t e : TypeId} {ei : Ty} {len : Nat} {z : List AV} {ps : List (Nat × AV)} {vs : List (Nat × Value)} {rows : Rows} (hW : Wrel G S w)
    (hk : kindOf c t = .slice e) (he : c.ty e = some ei) (hlen : len * ei.size ≤ 16777216) (hz : (if len * ei.size = 0 then some [] else ei.zero) = some z) (hzl : z.length = ei.size ∨ len = 0)
    (hf : fillR ei.size (List.replicate len z) ps = some rows) (hp : RepP G w ps vs) : Comes1 P (do pure (.value (← Instr.buildSlice t len vs.toArray))) G S w (.lit rows) S := by
  unfold kindOf at hk
  split at hk
  case h_2 => simp at hk
  rename_i i hi
  obtain ⟨_, d, _, h2, h3, _⟩ := ty_inv (hc.ty t i hi)
  rw [h3] at hk
  cases d <;> simp [tkOf] at hk
  have hk := hk.symm
  subst hk
  obtain ⟨einfo, _, k1, _, _, k4, _, k6⟩ := ty_inv (hc.ty _ _ he)
  -- the zero cells
  have hzero : ∃ cells0 : Array Value, ((len * einfo.size = 0 ∧ cells0 = #[]) ∨ (¬ len * einfo.size = 0 ∧ ∃ zv, einfo.zero = some zv ∧ cells0 = zv.cells)) ∧
      RowsIn G w ei.size (List.replicate len z) ((Array.range (len * einfo.size)).map (fun k => cells0[k % cells0.size]!)).toList := by
    by_cases h0 : len * ei.size = 0
    · rw [if_pos h0] at hz
      simp at hz
      subst hz
      refine ⟨#[], .inl ⟨by rw [← k4]; exact h0, rfl⟩, ?_⟩
      rw [← k4, h0]
      refine ⟨by simp [h0], fun i r hi => ?_, fun i r j x hi hj => ?_⟩
      · rw [List.getElem?_replicate] at hi
        split at hi
        · simp at hi
          subst hi
          rcases hzl with hzl | hzl
          · simpa using hzl
          · omega
        · simp at hi
      · rw [List.getElem?_replicate] at hi
        split at hi
        · simp at hi; subst hi; simp at hj
        · simp at hi
    · rw [if_neg h0, k6] at hz
      simp only [Option.bind_eq_some_iff] at hz
      obtain ⟨zv, hzv, hz⟩ := hz
      obtain ⟨hzr, hzl', hzx⟩ := zeroC_rep (G := G) (w := w) hz
      have hzs : z.length = ei.size := hzl.resolve_right (by intro h; simp [h] at h0)
      refine ⟨zv.cells, .inr ⟨by rw [← k4]; exact h0, zv, hzv, rfl⟩, ?_⟩
      have hsz : zv.cells.size = einfo.size := by have := hzr.1; simp at this; omega
      rw [range_zero zv.cells len einfo.size hsz (by rw [← k4]; exact Nat.pos_of_ne_zero (fun h => h0 (by rw [h]; simp))), ← hzs]
      exact RowsIn.replicate hzr hzl' len
  obtain ⟨cells0, hz0, hrows0⟩ := hzero
  obtain ⟨cells', m1, m2⟩ := fillR_rep hp hf hrows0
  have hrl : rows.length = len := by rw [fillR_len hf]; simp
  have hlaid := Laid.alloc w (.cells cells' e)
  have hst := im_step hW hlaid (fun b f => b = w.heap.size ∧ f < cells'.size) (fun b f hh => ⟨by omega, by
    obtain ⟨rfl, hf⟩ := hh
    exact ⟨cells'[f], by rw [World.cell?_alloc_new]; simp [hf]⟩⟩)
  have hat := rowsAt_new (e := e) m2 (I := fun b f => b = w.heap.size ∧ f < cells'.size) (fun f hf => ⟨rfl, hf⟩) (hlaid.kept hW)
  refine comes_value' (u := .slice (some ⟨w.heap.size, 0, none⟩) len len) (w' := w.alloc (.cells cells' e)) ?_ hst.1 hst.2 ?_
  · rw [k4] at m1 hlen
    have hng : ¬ len * einfo.size > 16777216 := by omega
    simp only [Instr.buildSlice, Sem.run_bind, run_underlying h2, Result.andThen_ok, run_size_ty k1]
    rw [if_neg (show ¬ len * einfo.size > 2 ^ 24 from hng)]
    rcases hz0 with ⟨h0, rfl⟩ | ⟨h0, zv, hzv, rfl⟩
    · rw [if_pos h0]
      simp only [Sem.run_bind, Result.andThen_ok, Sem.run_pure, m1, newRow, run_newObj_alloc]
    · rw [if_neg h0]
      simp only [Sem.run_bind, run_zero_ty k1 hzv, Result.andThen_ok, Sem.run_pure, m1, newRow, run_newObj_alloc]
  · have hl := rep_lit hat
    rw [hrl] at hl
    exact hl

/-! ### What lies in cells -/
def CellsAt (G : Gh) (w : World) (b p : Nat) (xs : List AV) : Prop := ∀ (j : Nat) (x : AV), xs[j]? = some x → leaf x = true ∧ ∃ u, w.cell? ⟨b, p + j, none⟩ = some u ∧ Rep G w x u

theorem CellsAt.vals {G : Gh} {w : World} {b p : Nat} {xs : List AV} (h : CellsAt G w b p xs) : ∃ vs : List Value, RepL G w xs vs ∧ w.rangeAt b p vs ∧ vs.length = xs.length := by
  refine ⟨(List.range xs.length).map fun j => (w.cell? ⟨b, p + j, none⟩).getD undef, ⟨by simp, fun j x hx => ?_⟩, fun j v hv => ?_, by simp⟩
  · have hj : j < xs.length := (List.getElem?_eq_some_iff.1 hx).1
    obtain ⟨_, u, hu, hr⟩ := h j x hx
    exact ⟨u, by simp [hj, hu], hr⟩
  · have hj : j < xs.length := by
      have := (List.getElem?_eq_some_iff.1 hv).1
      simpa using this
    simp [hj] at hv
    obtain ⟨_, u, hu, _⟩ := h j xs[j] (List.getElem?_eq_getElem hj)
    rw [hu] at hv ⊢
    simpa using hv

theorem run_loadVar_at {t : TypeId} {i : Ty} (hi : tyOf P t = some i) {G : Gh} {w : World} {b p off : Nat} {xs : List AV} {y : AV} (h : CellsAt G w b p xs) (hy : apart i xs off = some y) :
    ∃ q, (loadVar t ⟨b, p + off, none⟩).run P w = .ok q w ∧ Rep G w y q := by
  obtain ⟨info, d, h1, h2, h3, h4, _, _⟩ := ty_inv hi
  unfold apart at hy
  rw [h3] at hy
  split at hy
  · rename_i ha
    split at hy
    · rename_i hle
      simp at hy
      subst hy
      have hsub : CellsAt G w b (p + off) ((xs.drop off).take i.size) := fun j x hx => by
        rw [List.getElem?_take] at hx
        split at hx
        · rw [List.getElem?_drop] at hx
          obtain ⟨k1, u, k2, k3⟩ := h (off + j) x hx
          exact ⟨k1, u, by rw [show p + off + j = p + (off + j) by omega]; exact k2, k3⟩
        · simp at hx
      obtain ⟨vs, k1, k2, k3⟩ := hsub.vals
      have hsz : vs.length = i.size := by rw [k3]; simp; omega
      refine ⟨.agg vs.toArray, run_loadVar_mid w b (p + off) t vs d k2 h2 ?_ (by rw [h1]; simp; omega), rep_agg.2 ⟨by simpa using k1, fun j x hx => (hsub j x hx).1⟩⟩
      cases d <;> simp [tkOf, isAggK] at ha <;> rfl
    · simp at hy
  · rename_i ha
    obtain ⟨_, u, k2, k3⟩ := h off y hy
    refine ⟨u, ?_, k3⟩
    simp only [loadVar, Sem.run_bind, run_isAgg_ty h2, Result.andThen_ok]
    rw [if_neg ha]
    simp [k2]

theorem Wrel.row {G : Gh} {S : St} {w : World} (h : Wrel G S w) {o b : Nat} {cs : List AV} {l : Bool} (hg : S.get o = some (.row cs l)) (hb : G.blk o b) : CellsAt G w b 0 cs ∧ Open w b 0 cs.length ∧ (l = false → ∀ f, ¬ G.im b f) := by
  obtain ⟨b', hb', h1, h2, h3⟩ := h.obj o _ hg
  obtain rfl := h.fblk o _ _ hb hb'
  exact ⟨fun j x hx => by rw [Nat.zero_add]; exact h2 j x hx, h1, h3⟩

theorem Wrel.seq {G : Gh} {S : St} {w : World} (h : Wrel G S w) {o g es exp : Nat} {rows : Rows} {s : Seg} (hg : S.get o = some (.seq g es rows exp)) (hs : G.seg o g s) :
    s.es = es ∧ rows.length ≤ s.cp ∧ (∀ (i : Nat) (r : List AV), rows[i]? = some r → r.length = s.es) ∧ (∀ (i : Nat) (r : List AV), rows[i]? = some r → CellsAt G w s.b (s.st + i * s.es) r) ∧
    (0 < s.cp → Open w s.b s.st (s.cp * s.es) ∧ ∀ f, G.im s.b f → f < s.st + exp * s.es) := by
  obtain ⟨s', hs', h0, h1, h2, h3⟩ := h.obj o _ hg
  obtain rfl := h.fseg o g _ _ hs hs'
  refine ⟨h0, h1, h2, fun i r hi j x hj => ?_, fun hp => ⟨(h3 hp).1, (h3 hp).2.2⟩⟩
  have hlt : i < rows.length := (List.getElem?_eq_some_iff.1 hi).1
  exact (h3 (by omega)).2.1 i r j x hi hj

theorem run_aload (hc : CfgOk P c) {G : Gh} {S : St} {w : World} {t : TypeId} {i : Ty} {a y : AV} {u : Value} (hW : Wrel G S w) (hi : c.ty t = some i) (h : S.load i a = some y) (ha : Rep G w a u) :
    ∃ q, (Instr.loadAt t u).run P w = .ok q w ∧ Rep G w y q := by
  have hi := hc.ty t i hi
  unfold St.load at h
  split at h
  · split at h
    · rename_i o off cs l hg
      cases ha with
      | ptr _ _ b hb =>
        obtain ⟨hcs, _⟩ := hW.row hg hb
        obtain ⟨q, hq, hr⟩ := run_loadVar_at hi hcs h
        rw [Nat.zero_add] at hq
        exact ⟨q, by simp [Instr.loadAt, Instr.sureAddr, hq], hr⟩
    · simp at h
  · split at h
    · rename_i o g r off g' es rows exp hg
      split at h
      · rename_i hgg
        subst hgg
        simp only [Option.bind_eq_some_iff] at h
        obtain ⟨cs, hcs, h⟩ := h
        cases ha with
        | eptr _ _ _ _ s hs =>
          obtain ⟨_, _, _, hcell, _⟩ := hW.seq hg hs
          obtain ⟨q, hq, hr⟩ := run_loadVar_at hi (hcell _ _ hcs) h
          exact ⟨q, by simp [Instr.loadAt, Instr.sureAddr, hq], hr⟩
      · simp at h
    · simp at h
  · rename_i cs off
    cases ha with
    | iptr _ _ b p us hl hcl hr =>
      obtain ⟨q, hq, hr⟩ := run_loadVar_at hi (b := b) (p := p) (fun j x hx => ⟨hl j x hx, us j, (hcl j x hx).2, hr j x hx⟩) h
      exact ⟨q, by simp [Instr.loadAt, Instr.sureAddr, hq], hr⟩
  · simp at h

end Go.Am
