/- THE ABSTRACT MACHINE, TWELFTH FILE: append. -/
import Derived.Test.YtghpjjhdbankhaaAm10
import Derived.Laws.AppendOwn
set_option linter.unusedSimpArgs false
set_option linter.unusedVariables false
namespace Go.Am
open Go.RowKit
variable {P : Program} {c : Cfg}

theorem growBy_le (n : Nat) : ∀ (k c : Nat), c ≤ n + n / 4 + 193 → Builtin.growBy n k c ≤ n + n / 4 + 193
  | 0, c, h => h
  | k + 1, c, h => by
    unfold Builtin.growBy
    split
    · exact h
    · exact growBy_le n k _ (by omega)

theorem nextcap_le {n c : Nat} (h : c < n) : Builtin.nextslicecap n c ≤ n + n / 4 + 1000 := by
  unfold Builtin.nextslicecap
  split
  · omega
  · split
    · omega
    · have := growBy_le n 4 c (by omega)
      omega

/-- The cells that are to be appended, as the model reads them. -/
def NewsOf (P : Program) (G : Gh) (w : World) (es : Nat) (ys : Rows) (v : Value) (news : List Value) : Prop :=
  RowsIn G w es ys news ∧ (Builtin.lenOf v).run P w = .ok ys.length w ∧ (∀ W : World, (∀ b f u, w.cell? ⟨b, f, none⟩ = some u → W.cell? ⟨b, f, none⟩ = some u) → (Builtin.firstCells es ys.length v).run P W = .ok news.toArray W)

theorem rowsIn_of_cells {G : Gh} {w : World} {b p es : Nat} {rows : Rows} (hl : ∀ (i : Nat) (r : List AV), rows[i]? = some r → r.length = es) (hc : ∀ (i : Nat) (r : List AV), rows[i]? = some r → CellsAt G w b (p + i * es) r) :
    ∃ vals, RowsIn G w es rows vals ∧ ∀ j v, vals[j]? = some v → w.cell? ⟨b, p + j, none⟩ = some v := by
  induction rows generalizing p with
  | nil => exact ⟨[], RowsIn.nil G w es, fun j v h => by simp at h⟩
  | cons r rs ih =>
    obtain ⟨vals, h1, h2⟩ := ih (p := p + es) (fun i q hi => hl (i + 1) q (by simpa using hi)) (fun i q hi => by
      have := hc (i + 1) q (by simpa using hi)
      rwa [show p + (i + 1) * es = p + es + i * es by rw [Nat.add_mul]; omega] at this)
    obtain ⟨vs, k1, k2, k3⟩ := (hc 0 r (by simp)).vals
    have hr := hl 0 r (by simp)
    refine ⟨vs ++ vals, by
      have := (RowsIn.one k1 (fun j x hj => (hc 0 r (by simp) j x hj).1) hr).append h1
      simpa using this, fun j v hj => ?_⟩
    rw [List.getElem?_append] at hj
    split at hj
    · have := k2 j v hj
      simpa using this
    · rename_i hge
      have := h2 _ v hj
      rwa [show p + es + (j - vs.length) = p + j by omega] at this

theorem rowsAt_vals {G : Gh} {w : World} {b p es : Nat} {rows : Rows} (h : RowsAt G w b p es rows) : ∃ vals, RowsIn G w es rows vals ∧ ∀ j v, vals[j]? = some v → w.cell? ⟨b, p + j, none⟩ = some v :=
  rowsIn_of_cells h.len fun i r hi j x hj => let ⟨a, u, b, d⟩ := h.cell i r j x hi hj; ⟨a, u, b.2, d⟩

theorem add_cell (b p j : Nat) : (⟨b, p, none⟩ : Addr).add j = ⟨b, p + j, none⟩ := Addr.add_mid b p j

theorem run_first {b p n size cap : Nat} {vals : List Value} {W : World} (hl : vals.length = n * size) (h : ∀ j v, vals[j]? = some v → W.cell? ⟨b, p + j, none⟩ = some v) :
    (Builtin.firstCells size n (.slice (some ⟨b, p, none⟩) n cap)).run P W = .ok vals.toArray W :=
  run_firstCells_some (P := P) W size n ⟨b, p, none⟩ n cap vals hl (fun j v hj => by rw [add_cell]; exact h j v hj)

theorem newsOf (hc : CfgOk P c) {G : Gh} {S : St} {w : World} {y : AV} {v : Value} {ys : Rows} {es : Nat} (hW : Wrel G S w) (hy : Rep G w y v) (h : appRows S y = some ys) (hh : headOk es ys = true) : ∃ news, NewsOf P G w es ys v news := by
  have empty : ∀ a cap, v = .slice a 0 cap → ys = [] → ∃ news, NewsOf P G w es ys v news := by
    rintro a cap rfl rfl
    refine ⟨[], RowsIn.nil G w es, by simp [Builtin.lenOf], fun W _ => ?_⟩
    cases a with
    | none => simp [Builtin.firstCells]
    | some a => simp [Builtin.firstCells, loadCells, loadCellsFrom]
  have immut : ∀ {rows : Rows}, rows = ys → (∃ a cap, v = .slice a rows.length cap ∧ rows.length ≤ cap ∧ (a = none → cap = 0) ∧ (rows = [] ∨ ∃ b p es, a = some ⟨b, p, none⟩ ∧ RowsAt G w b p es rows)) → ∃ news, NewsOf P G w es ys v news := by
    rintro rows rfl ⟨a, cap, rfl, hcap, hn, hr⟩
    rcases hr with rfl | ⟨b, p, es', rfl, hat⟩
    · exact empty _ _ rfl rfl
    · rcases headOk_len hh hat.len with h' | h'
      · subst h'; exact empty _ _ rfl rfl
      · subst h'
        obtain ⟨vals, h1, h2⟩ := rowsAt_vals hat
        exact ⟨vals, h1, by simp [Builtin.lenOf], fun W hW => run_first h1.size (fun j v hj => hW _ _ _ (h2 j v hj))⟩
  unfold appRows at h
  split at h
  · rename_i s
    simp at h
    subst h
    obtain rfl := rep_str_inv hy
    refine ⟨s.map fun b => .int .u8 b.toNat, ?_, ?_, fun W _ => ?_⟩
    · cases s with
      | nil => exact RowsIn.nil G w es
      | cons b s =>
        simp [headOk] at hh
        subst hh
        generalize b :: s = l
        refine ⟨by simp, fun i r hi => ?_, fun i r j x hi hj => ?_⟩
        · simp at hi; obtain ⟨_, _, rfl⟩ := hi; rfl
        · simp at hi
          obtain ⟨q, hq, rfl⟩ := hi
          cases j with
          | zero => simp at hj; subst hj; exact ⟨rfl, .int .u8 q.toNat, by simp [hq], .int _ _⟩
          | succ j => simp at hj
    · simp [Builtin.lenOf, mk_size]
    · simp only [Builtin.firstCells, Sem.run_pure]
      congr 1
      rw [ByteArray.extract_mk]
      simp
  · rename_i hns
    by_cases hs : ∃ o g off len, y = .sref o g off len
    · obtain ⟨o, g, off, len, rfl⟩ := hs
      simp only [St.rowsOf, St.rows] at h
      split at h
      · rename_i g' es' rows exp hg
        split at h
        · rename_i hq
          obtain ⟨rfl, hle⟩ := hq
          simp at h
          subst h
          cases hy with
          | sref _ _ _ _ s hs hoff hcap =>
            obtain ⟨hes, hlen, hrl, hcell, _⟩ := hW.seq hg hs
            have key : ∀ (i : Nat) (r : List AV), ((rows.drop off).take len)[i]? = some r → rows[off + i]? = some r := fun i r hi => by
              rw [List.getElem?_take] at hi
              split at hi
              · rw [List.getElem?_drop] at hi; exact hi
              · simp at hi
            have hn : ((rows.drop off).take len).length = len := by simp; omega
            rcases headOk_len hh (fun i r hi => hrl _ _ (key i r hi)) with h' | h'
            · rw [h'] at hn
              simp at hn
              subst hn
              exact empty _ _ rfl h'
            · subst h'
              obtain ⟨vals, h1, h2⟩ := rowsIn_of_cells (G := G) (w := w) (b := s.b) (p := s.st + off * s.es) (fun i r hi => hrl _ _ (key i r hi)) (fun i r hi => by
                have := hcell _ _ (key i r hi)
                rwa [show s.st + (off + i) * s.es = s.st + off * s.es + i * s.es by rw [Nat.add_mul]; omega] at this)
              refine ⟨vals, h1, by simp [Builtin.lenOf, hn], fun W hW => ?_⟩
              have hsz := h1.size
              rw [hn] at hsz ⊢
              exact run_first hsz (fun j v hj => hW _ _ _ (h2 j v hj))
          | sref0 _ _ _ s hs hoff a =>
            simp at hle
            exact empty _ _ rfl (by simp)
        · simp at h
      · simp at h
    · exact immut rfl (rep_rows_inv hy (rowsOf_cases h (fun o g off len e => hs ⟨o, g, off, len, e⟩)))

def isIntD : TypeDesc → Bool
  | .int _ => true
  | _ => false

theorem isIntD_match {du : TypeDesc} (hz : isIntD du = false) : Builtin.append_.match_1 (fun _ => Bool) du (fun _ => true) (fun _ => false) = false := by
  cases du <;> first | rfl | exact Bool.noConfusion hz

/-- Whether append is given a string or a slice, not a number of zeros. -/
theorem not_int (hc : CfgOk P c) {u : TypeId} {ui : Ty} (hu : c.ty u = some ui) (hk : ∀ k, ui.kind ≠ .int k) : ∃ du, P.underlying u = some du ∧ isIntD du = false := by
  obtain ⟨_, du, _, hu2, hu3, _⟩ := ty_inv (hc.ty _ _ hu)
  refine ⟨du, hu2, ?_⟩
  rw [hu3] at hk
  cases du <;> first | rfl | exact absurd rfl (hk _)

/-- append: nothing. -/
theorem run_append_none {w : World} {t u ty e : TypeId} {i : TypeInfo} {du : TypeDesc} {base : Option Addr} {n cap : Nat} {v : Value} (ht : P.underlying t = some (.slice e)) (hi : P.info? e = some i) (hu : P.underlying u = some du) (hz : isIntD du = false)
    (hlen : (Builtin.lenOf v).run P w = .ok 0 w) (hf : (Builtin.firstCells i.size 0 v).run P w = .ok #[] w) (hcap : n ≤ cap) :
    (Builtin.append_ #[t, u] ty #[.slice base n cap, v]).run P w = .ok (.slice base n cap) w := by
  cases base <;> simp [Builtin.append_, isIntD_match hz, run_underlying ht, run_underlying hu, sizeOf, typeInfo, hi, hlen, hf, hcap, storeCells]

/-- append: there is room. -/
theorem run_append_room' {w : World} {t u ty e : TypeId} {i : TypeInfo} {du : TypeDesc} {b p n m cap : Nat} {v : Value} {news : List Value} (ht : P.underlying t = some (.slice e)) (hi : P.info? e = some i) (hu : P.underlying u = some du) (hz : isIntD du = false)
    (hlen : (Builtin.lenOf v).run P w = .ok m w) (hf : (Builtin.firstCells i.size m v).run P w = .ok news.toArray w) (hcap : n + m ≤ cap) (ho : Open w b (p + n * i.size) news.length) (h1 : ∀ u ∈ news, u.oneCell' = true) :
    (Builtin.append_ #[t, u] ty #[.slice (some ⟨b, p, none⟩) n cap, v]).run P w = .ok (.slice (some ⟨b, p, none⟩) (n + m) cap) (w.setCells b (p + n * i.size) news) := by
  have hst := run_storeCells_cells (P := P) b (p + n * i.size) news 0 w (fun j hj => by simpa using (ho j hj).1) (fun j hj => by simpa using (ho j hj).2) h1
  simp only [Nat.add_zero] at hst
  simp [Builtin.append_, isIntD_match hz, run_underlying ht, run_underlying hu, sizeOf, typeInfo, hi, hlen, hf, hcap, add_cell, hst]

/-- append: a new row. -/
theorem run_append_grow' {w : World} {t u ty e : TypeId} {i : TypeInfo} {z : Value} {du : TypeDesc} {base : Option Addr} {n m cap : Nat} {v : Value} {olds news : List Value} (ht : P.underlying t = some (.slice e)) (hi : P.info? e = some i) (hz' : i.zero = some z) (hu : P.underlying u = some du) (hz : isIntD du = false)
    (hlen : (Builtin.lenOf v).run P w = .ok m w) (hf : (Builtin.firstCells i.size m v).run P w.drew = .ok news.toArray w.drew) (hfo : (Builtin.firstCells i.size n (.slice base n cap)).run P w.drew = .ok olds.toArray w.drew) (hcap : cap < n + m)
    (h63 : n + m ≤ 9223372036854775807) (hfit : Builtin.nextslicecap (n + m) cap * i.bytes ≤ 281474976710656) :
    (Builtin.append_ #[t, u] ty #[.slice base n cap, v]).run P w =
      .ok (.slice (some ⟨w.heap.size, 0, none⟩) (n + m) (grownCap w (n + m) cap e))
        (w.drew.alloc (.cells (olds.toArray ++ news.toArray ++ Builtin.zeroCells z.cells (grownCap w (n + m) cap e - (n + m))) e)) := by
  have hn : ¬ (n + m ≤ cap) := by omega
  have h63' : ¬ (9223372036854775807 < ((n : Int) + (m : Int))) := by omega
  have h48' : ¬ (281474976710656 < Builtin.nextslicecap (n + m) cap * i.bytes) := by omega
  simp [Builtin.append_, isIntD_match hz, run_underlying ht, run_underlying hu, sizeOf, typeInfo, zeroValue, hi, hz', hlen, hn, h63', h48', Question.forced, hf, hfo, newRow, grownCap]
  congr 2
  apply Array.ext'
  simp [List.append_assoc]

/-! ### Objects whose row grows -/
theorem addSeg_next {G : Gh} {S : St} {w : World} (h : Wrel G S w) {o g : Nat} {a0 : AObj} {s s' : Seg} {I : Nat → Nat → Prop} (hget : S.get o = some a0) (hg : genOf a0 = some g) (hs : (G.addSeg o (g + 1) s I).seg o (g + 1) s') : s' = s := by
  rcases hs with hs | ⟨_, _, e⟩
  · have := (h.bseg _ _ _ hs).2 a0 g hget hg
    omega
  · exact e

theorem addSeg_fun {G : Gh} {S : St} {w : World} (h : Wrel G S w) {o g : Nat} {a0 : AObj} {s : Seg} {I : Nat → Nat → Prop} (hget : S.get o = some a0) (hg : genOf a0 = some g) : ∀ g' s1 s2, (G.addSeg o (g + 1) s I).seg o g' s1 → (G.addSeg o (g + 1) s I).seg o g' s2 → s1 = s2 := fun g' s1 s2 h1 h2 => by
  by_cases e : g' = g + 1
  · subst e
    rw [addSeg_next h hget hg h1, addSeg_next h hget hg h2]
  · exact h.fseg _ _ _ _ (h1.resolve_right fun x => e x.2.1) (h2.resolve_right fun x => e x.2.1)

/-- Its row is a new one. -/
theorem upd_seg_new {G : Gh} {S : St} {w w' : World} {o g : Nat} {a0 a : AObj} {s : Seg} {I : Nat → Nat → Prop} (h : Wrel G S w) (hget : S.get o = some a0) (hg : genOf a0 = some g) (ha : genOf a = some (g + 1)) (hbase : S.base ≤ o) (hw : Laid w w') (hlt : w.heap.size < w'.heap.size) (hsb : s.b = w.heap.size)
    (hI : ∀ b f, I b f → b = w.heap.size ∧ ∃ u, w'.cell? ⟨b, f, none⟩ = some u) (hobj : ObjRel (G.addSeg o (g + 1) s I) w' o a) :
    Wrel (G.addSeg o (g + 1) s I) (S.set o a) w' ∧ Step G S w (G.addSeg o (g + 1) s I) (S.set o a) w' := by
  refine upd_step (b := w.heap.size) (a := a) h hget hbase (Turned.of_laid hw) (.inr hw) (G.le_addSeg _ _ _ _) (hw.kept h) (fun _ _ x => x) (fun o' g' s' hs => ?_) (fun g1 g2 h1 h2 => ?_) (fun g' _ => by rw [hg]; rfl) (addSeg_fun h hget hg) (fun b' f hi => ?_) (fun b' hb => ?_) hobj
  · rcases hs with hs | ⟨rfl, rfl, rfl⟩
    · exact .inl hs
    · exact .inr ⟨rfl, fun g' e => by rw [hg] at e; cases e; omega, fun g' e => by rw [ha] at e; cases e; omega⟩
  · rw [hg] at h1; rw [ha] at h2; cases h1; cases h2; omega
  · rcases hi with hi | hi
    · exact .inl hi
    · obtain ⟨h1, h2⟩ := hI _ _ hi
      exact .inr ⟨.inr (by omega), h2⟩
  · have : ∃ s', (G.addSeg o (g + 1) s I).seg o (g + 1) s' ∧ 0 < s'.cp ∧ s'.b = b' := by
      cases a <;> simp [genOf] at ha <;> subst ha <;> exact hb
    obtain ⟨s', h1, h2, h3⟩ := this
    rw [addSeg_next h hget hg h1] at h3
    exact .inr (by omega)

/-- Its row has been written. -/
theorem upd_seg_in {G : Gh} {S : St} {w w' : World} {o g : Nat} {a0 a : AObj} {s : Seg} {I : Nat → Nat → Prop} (h : Wrel G S w) (hget : S.get o = some a0) (hg : genOf a0 = some g) (ha : genOf a = some (g + 1)) (hbase : S.base ≤ o) (hw : Turned s.b w w') (hown : ownsA G o a0 s.b) (hk : Kept G w w')
    (hI : ∀ b f, I b f → b = s.b ∧ ∃ u, w'.cell? ⟨b, f, none⟩ = some u) (hobj : ObjRel (G.addSeg o (g + 1) s I) w' o a) :
    Wrel (G.addSeg o (g + 1) s I) (S.set o a) w' ∧ Step G S w (G.addSeg o (g + 1) s I) (S.set o a) w' := by
  refine upd_step (b := s.b) (a := a) h hget hbase hw (.inl hown) (G.le_addSeg _ _ _ _) hk (fun _ _ x => x) (fun o' g' s' hs => ?_) (fun g1 g2 h1 h2 => ?_) (fun g' _ => by rw [hg]; rfl) (addSeg_fun h hget hg) (fun b' f hi => ?_) (fun b' hb => ?_) hobj
  · rcases hs with hs | ⟨rfl, rfl, rfl⟩
    · exact .inl hs
    · exact .inr ⟨rfl, fun g' e => by rw [hg] at e; cases e; omega, fun g' e => by rw [ha] at e; cases e; omega⟩
  · rw [hg] at h1; rw [ha] at h2; cases h1; cases h2; omega
  · rcases hi with hi | hi
    · exact .inl hi
    · obtain ⟨h1, h2⟩ := hI _ _ hi
      exact .inr ⟨.inl (by rw [h1]; exact hown), h2⟩
  · have : ∃ s', (G.addSeg o (g + 1) s I).seg o (g + 1) s' ∧ 0 < s'.cp ∧ s'.b = b' := by
      cases a <;> simp [genOf] at ha <;> subst ha <;> exact hb
    obtain ⟨s', h1, h2, h3⟩ := this
    rw [addSeg_next h hget hg h1] at h3
    exact .inl (by rw [← h3]; exact hown)


theorem laid_new {w w1 : World} (hs : Same w w1) (ob : Obj) : Laid w (w1.alloc ob) ∧ w.heap.size < (w1.alloc ob).heap.size := by
  refine ⟨(Laid.same hs).trans (Laid.alloc w1 ob), ?_⟩
  rw [show (w1.alloc ob).heap.size = w1.heap.size + 1 by simp, hs.heap]
  exact Nat.lt_succ_self _

theorem cell_new {w w1 : World} (hs : Same w w1) (cells : Array Value) (e : TypeId) (f : Nat) : (w1.alloc (.cells cells e)).cell? ⟨w.heap.size, f, none⟩ = cells[f]? := by
  have : w.heap.size = w1.heap.size := by rw [hs.heap]
  rw [this, World.cell?_alloc_new]

/-- The cells of a new row. -/
theorem new_cells {G G' : Gh} {S : St} {w w1 : World} {es : Nat} {rows : Rows} {vals : List Value} {rest : Array Value} {e : TypeId} (hW : Wrel G S w) (hs : Same w w1) (hg : G.Le G') (h : RowsIn G w es rows vals) :
    ∀ (i : Nat) (r : List AV) (j : Nat) (x : AV), rows[i]? = some r → r[j]? = some x → leaf x = true ∧ ∃ u, (w1.alloc (.cells (vals.toArray ++ rest) e)).cell? ⟨w.heap.size, 0 + i * es + j, none⟩ = some u ∧ Rep G' (w1.alloc (.cells (vals.toArray ++ rest) e)) x u := fun i r j x hi hj => by
  obtain ⟨a1, u, a2, a3⟩ := h.cell i r j x hi hj
  have hlt := (List.getElem?_eq_some_iff.1 a2).1
  refine ⟨a1, u, ?_, a3.mono hg ((laid_new hs _).1.kept hW)⟩
  rw [cell_new hs, Nat.zero_add, Array.getElem?_append_left (by simpa using hlt)]
  simpa using a2

theorem open_new' {w w1 : World} (hs : Same w w1) (c : Array Value) (e : TypeId) (p n : Nat) (h : p + n ≤ c.size) : Open (w1.alloc (.cells c e)) w.heap.size p n := by
  have : w.heap.size = w1.heap.size := by rw [hs.heap]
  rw [this]
  exact open_new w1 c e p n h

/-- Rows that are written no more, as a value of their own. -/
theorem rep_own_of {G : Gh} {w : World} {rows : Rows} {o g : Nat} {s : Seg} (hs : G.seg o g s) (hn : rows.length = s.ln) (hcap : s.ln ≤ s.cp) (hes : ∀ (i : Nat) (r : List AV), rows[i]? = some r → r.length = s.es)
    (hc : ∀ (i : Nat) (r : List AV) (j : Nat) (x : AV), rows[i]? = some r → r[j]? = some x → leaf x = true ∧ ∃ u, G.cell w s.b (s.st + i * s.es + j) u ∧ Rep G w x u) :
    Rep G w (.own rows o g) (.slice (some ⟨s.b, s.st, none⟩) rows.length s.cp) := by
  have hx : ∀ i j, ∃ u, ∀ r x, rows[i]? = some r → r[j]? = some x → G.cell w s.b (s.st + i * s.es + j) u ∧ Rep G w x u := fun i j => by
    by_cases h : ∃ r x, rows[i]? = some r ∧ r[j]? = some x
    · obtain ⟨r, x, h1, h2⟩ := h
      obtain ⟨_, u, h3⟩ := hc i r j x h1 h2
      exact ⟨u, fun r' x' h1' h2' => by rw [h1] at h1'; cases h1'; rw [h2] at h2'; cases h2'; exact h3⟩
    · exact ⟨undef, fun r x h1 h2 => absurd ⟨r, x, h1, h2⟩ h⟩
  exact .own rows o g s (fun i j => (hx i j).choose) hs hn hcap hes (fun i r j x h1 h2 => (hc i r j x h1 h2).1) (fun i r j x h1 h2 => ((hx i j).choose_spec r x h1 h2).1) (fun i r j x h1 h2 => ((hx i j).choose_spec r x h1 h2).2)

/-- A new slice with a row of its own: one that is written, or one whose rows are data. -/
theorem fresh_row {G : Gh} {S : St} {w w1 : World} {es cap : Nat} {rows : Rows} {vals : List Value} {rest : Array Value} {e : TypeId} {mutb : Bool} {r : AV} {S' : St} (hW : Wrel G S w) (hs : Same w w1) (h : RowsIn G w es rows vals) (hcap : rows.length ≤ cap) (hpos : 0 < rows.length) (hsize : vals.length + rest.size = cap * es)
    (hf : aappend.fresh es mutb rows S = some (r, S')) :
    ∃ G', Wrel G' S' (w1.alloc (.cells (vals.toArray ++ rest) e)) ∧ Step G S w G' S' (w1.alloc (.cells (vals.toArray ++ rest) e)) ∧ Rep G' (w1.alloc (.cells (vals.toArray ++ rest) e)) r (.slice (some ⟨w.heap.size, 0, none⟩) rows.length cap) := by
  obtain ⟨hW1, hst1⟩ := same_step hW hs
  have hb1 : w.heap.size = w1.heap.size := by rw [hs.heap]
  have hop : Open (w1.alloc (.cells (vals.toArray ++ rest) e)) w.heap.size 0 (cap * es) := open_new' hs _ e 0 _ (by simp; omega)
  unfold aappend.fresh at hf
  split at hf
  · simp at hf
    obtain ⟨rfl, rfl⟩ := hf
    have hg := G.le_addSeg S.n 0 ⟨w.heap.size, 0, 0, cap, es⟩ fun _ _ => False
    obtain ⟨g1, g2⟩ := push_seg (ob := .cells (vals.toArray ++ rest) e) (a := .seq 0 es rows 0) hW1 ⟨w.heap.size, 0, 0, cap, es⟩ hb1 rfl (fun _ _ => False) (fun b f x => x.elim)
      ⟨⟨w.heap.size, 0, 0, cap, es⟩, G.addSeg_new _ _ _ _, rfl, hcap, h.len, fun _ => ⟨hop, new_cells hW hs hg h, fun f hi => by
        rcases hi with hi | hi
        · have := hW.im_lt hi
          simp at this
        · exact hi.elim⟩⟩
    refine ⟨_, g1, hst1.trans g2, ?_⟩
    have := Rep.sref (w := w1.alloc (.cells (vals.toArray ++ rest) e)) S.n 0 0 rows.length _ (G.addSeg_new S.n 0 ⟨w.heap.size, 0, 0, cap, es⟩ fun _ _ => False) (by show 0 < cap; omega) (by show 0 + rows.length ≤ cap; omega)
    simpa using this
  · simp at hf
    obtain ⟨rfl, rfl⟩ := hf
    have hvl := h.size
    have hle : rows.length * es ≤ cap * es := Nat.mul_le_mul_right _ hcap
    have hg := G.le_addSeg S.n 0 ⟨w.heap.size, 0, rows.length, cap, es⟩ fun b f => b = w.heap.size ∧ f < rows.length * es
    obtain ⟨g1, g2⟩ := push_seg (ob := .cells (vals.toArray ++ rest) e) (a := .tail 0) hW1 ⟨w.heap.size, 0, rows.length, cap, es⟩ hb1 rfl (fun b f => b = w.heap.size ∧ f < rows.length * es) (fun b f ⟨x, y⟩ => by
        subst x
        exact ⟨hb1, Option.isSome_iff_exists.1 (by simpa using (hop f (by omega)).1)⟩)
      ⟨⟨w.heap.size, 0, rows.length, cap, es⟩, G.addSeg_new _ _ _ _, hcap, fun _ => ⟨hop, fun f hi => by
        rcases hi with hi | hi
        · have := hW.im_lt hi
          simp at this
        · simpa using hi.2⟩⟩
    refine ⟨_, g1, hst1.trans g2, ?_⟩
    refine rep_own_of (s := ⟨w.heap.size, 0, rows.length, cap, es⟩) (G.addSeg_new _ _ _ _) rfl hcap h.len fun i r j x hi hj => ?_
    obtain ⟨a1, u, a2, a3⟩ := new_cells (rest := rest) (e := e) hW hs hg h i r j x hi hj
    refine ⟨a1, u, ⟨.inr ⟨rfl, ?_⟩, a2⟩, a3⟩
    have := (row_lt h.len hi hj).2.2
    simpa using this

end Go.Am
