/- THE ABSTRACT MACHINE, THIRTEENTH FILE: append, and what it comes to. -/
import Derived.Test.YtghpjjhdbankhaaAm11
set_option linter.unusedSimpArgs false
set_option linter.unusedVariables false
namespace Go.Am
open Go.RowKit
variable {P : Program} {c : Cfg}

theorem RowsIn.one' {G : Gh} {w : World} {es : Nat} {ys : Rows} {vals : List Value} (h : RowsIn G w es ys vals) : ∀ u ∈ vals, u.oneCell' = true := fun u hu => by
  obtain ⟨k, hk⟩ := List.getElem?_of_mem hu
  have hlt := (List.getElem?_eq_some_iff.1 hk).1
  rw [h.size] at hlt
  have hes : 0 < es := by
    rcases Nat.eq_zero_or_pos es with e | e
    · subst e; simp at hlt
    · exact e
  have hi : k / es < ys.length := Nat.div_lt_of_lt_mul (by rwa [Nat.mul_comm] at hlt)
  have hr := List.getElem?_eq_getElem hi
  have hj : k % es < ys[k / es].length := by rw [h.len _ _ hr]; exact Nat.mod_lt _ hes
  obtain ⟨a1, u', a2, a3⟩ := h.cell _ _ _ _ hr (List.getElem?_eq_getElem hj)
  rw [Nat.mul_comm, Nat.div_add_mod, hk] at a2
  cases a2
  exact rep_oneCell a3 a1

def isSl : AV → Prop
  | .nils | .emp | .vec _ | .lit _ | .own _ _ _ | .sref _ _ _ _ => True
  | _ => False

theorem rep_slice_any {G : Gh} {w : World} {x : AV} {v : Value} (h : Rep G w x v) (hx : isSl x) : ∃ base n cap, v = .slice base n cap ∧ n ≤ cap := by
  cases h <;> first | exact hx.elim | skip
  · exact ⟨_, _, _, rfl, Nat.le_refl _⟩
  · exact ⟨_, _, _, rfl, Nat.zero_le _⟩
  · exact ⟨_, _, _, rfl, Nat.zero_le _⟩
  · exact ⟨_, _, _, rfl, by assumption⟩
  · exact ⟨_, _, _, rfl, Nat.le_refl _⟩
  · exact ⟨_, _, _, rfl, Nat.le_refl _⟩
  · exact ⟨_, _, _, rfl, by omega⟩
  · exact ⟨_, _, _, rfl, by omega⟩
  · exact ⟨_, _, _, rfl, Nat.le_refl _⟩

/-- The rows that have been written behind others. -/
theorem written {G G' : Gh} {w : World} {b q es : Nat} {ys : Rows} {news : List Value} (h : RowsIn G w es ys news) (ho : Open w b q news.length) (hg : G.Le G') (hk : Kept G w (w.setCells b q news)) :
    ∀ (i : Nat) (r : List AV) (j : Nat) (x : AV), ys[i]? = some r → r[j]? = some x → leaf x = true ∧ ∃ u, (w.setCells b q news).cell? ⟨b, q + i * es + j, none⟩ = some u ∧ Rep G' (w.setCells b q news) x u := fun i r j x hi hj => by
  obtain ⟨a1, u, a2, a3⟩ := h.cell i r j x hi hj
  have hlt := (List.getElem?_eq_some_iff.1 a2).1
  refine ⟨a1, u, ?_, a3.mono hg hk⟩
  have := World.cell?_setCells_in b news q w (fun k hk => (ho k hk).1) (i * es + j) hlt
  rw [← Nat.add_assoc] at this
  rw [this, ← a2, List.getElem?_eq_getElem hlt]

theorem capOk_of {need bytes cap : Nat} (h : capOk need bytes = true) (hcap : cap < need) : need ≤ 9223372036854775807 ∧ Builtin.nextslicecap need cap * bytes ≤ 281474976710656 := by
  unfold capOk at h
  simp only [decide_eq_true_eq] at h
  obtain ⟨h1, h2⟩ := h
  have h3 : Builtin.nextslicecap need cap * bytes ≤ (need + need / 4 + 1000) * bytes := Nat.mul_le_mul_right _ (nextcap_le hcap)
  refine ⟨?_, by omega⟩
  have : (need + need / 4 + 1000) * 1 ≤ (need + need / 4 + 1000) * bytes := Nat.mul_le_mul_left _ h1
  omega

/-- A row that has grown, an object that knew it. -/
theorem grown_row {G : Gh} {S : St} {w : World} {es cap g o exp : Nat} {rows : Rows} {vals : List Value} {rest : Array Value} {e : TypeId} {a0 : AObj} (hW : Wrel G S w) (h : RowsIn G w es rows vals) (hcap : rows.length ≤ cap) (hpos : 0 < rows.length) (hsize : vals.length + rest.size = cap * es)
    (hget : S.get o = some a0) (hg : genOf a0 = some g) (hbase : S.base ≤ o) :
    (∃ G', Wrel G' (S.set o (.tail (g + 1))) (w.drew.alloc (.cells (vals.toArray ++ rest) e)) ∧ Step G S w G' (S.set o (.tail (g + 1))) (w.drew.alloc (.cells (vals.toArray ++ rest) e)) ∧ Rep G' (w.drew.alloc (.cells (vals.toArray ++ rest) e)) (.own rows o (g + 1)) (.slice (some ⟨w.heap.size, 0, none⟩) rows.length cap)) ∧
    (∃ G', Wrel G' (S.set o (.seq (g + 1) es rows exp)) (w.drew.alloc (.cells (vals.toArray ++ rest) e)) ∧ Step G S w G' (S.set o (.seq (g + 1) es rows exp)) (w.drew.alloc (.cells (vals.toArray ++ rest) e)) ∧ Rep G' (w.drew.alloc (.cells (vals.toArray ++ rest) e)) (.sref o (g + 1) 0 rows.length) (.slice (some ⟨w.heap.size, 0, none⟩) rows.length cap)) := by
  have hs := Same.drew w
  obtain ⟨hl, hlt⟩ := laid_new hs (.cells (vals.toArray ++ rest) e)
  have hop : Open (w.drew.alloc (.cells (vals.toArray ++ rest) e)) w.heap.size 0 (cap * es) := open_new' hs _ e 0 _ (by simp; omega)
  have hvl := h.size
  have hle : rows.length * es ≤ cap * es := Nat.mul_le_mul_right _ hcap
  constructor
  · have hG := G.le_addSeg o (g + 1) ⟨w.heap.size, 0, rows.length, cap, es⟩ fun b f => b = w.heap.size ∧ f < rows.length * es
    obtain ⟨g1, g2⟩ := upd_seg_new (a := .tail (g + 1)) hW hget hg rfl hbase hl hlt (s := ⟨w.heap.size, 0, rows.length, cap, es⟩) rfl (I := fun b f => b = w.heap.size ∧ f < rows.length * es) (fun b f ⟨x, y⟩ => by
        subst x
        exact ⟨rfl, Option.isSome_iff_exists.1 (by simpa using (hop f (by omega)).1)⟩)
      ⟨⟨w.heap.size, 0, rows.length, cap, es⟩, G.addSeg_new _ _ _ _, hcap, fun _ => ⟨hop, fun f hi => by
        rcases hi with hi | hi
        · have := hW.im_lt hi
          simp at this
        · simpa using hi.2⟩⟩
    refine ⟨_, g1, g2, rep_own_of (s := ⟨w.heap.size, 0, rows.length, cap, es⟩) (G.addSeg_new _ _ _ _) rfl hcap h.len fun i r j x hi hj => ?_⟩
    obtain ⟨a1, u, a2, a3⟩ := new_cells (rest := rest) (e := e) hW hs hG h i r j x hi hj
    refine ⟨a1, u, ⟨.inr ⟨rfl, ?_⟩, a2⟩, a3⟩
    have := (row_lt h.len hi hj).2.2
    simpa using this
  · have hG := G.le_addSeg o (g + 1) ⟨w.heap.size, 0, 0, cap, es⟩ fun _ _ => False
    obtain ⟨g1, g2⟩ := upd_seg_new (a := .seq (g + 1) es rows exp) hW hget hg rfl hbase hl hlt (s := ⟨w.heap.size, 0, 0, cap, es⟩) rfl (I := fun _ _ => False) (fun b f x => x.elim)
      ⟨⟨w.heap.size, 0, 0, cap, es⟩, G.addSeg_new _ _ _ _, rfl, hcap, h.len, fun _ => ⟨hop, new_cells hW hs hG h, fun f hi => by
        rcases hi with hi | hi
        · have := hW.im_lt hi
          simp at this
        · exact hi.elim⟩⟩
    refine ⟨_, g1, g2, ?_⟩
    have := Rep.sref (w := w.drew.alloc (.cells (vals.toArray ++ rest) e)) o (g + 1) 0 rows.length _ (G.addSeg_new o (g + 1) ⟨w.heap.size, 0, 0, cap, es⟩ fun _ _ => False) (by show 0 < cap; omega) (by show 0 + rows.length ≤ cap; omega)
    simpa using this


theorem comes_append (hc : CfgOk P c) {G : Gh} {S S' : St} {w : World} {t u e ty : TypeId} {ei ui : Ty} {x y r : AV} {vx vy : Value} {ys : Rows} {mutb : Bool} (hW : Wrel G S w) (hk : kindOf c t = .slice e) (he : c.ty e = some ei) (hu : c.ty u = some ui) (hni : ∀ k, ui.kind ≠ .int k)
    (hx : Rep G w x vx) (hy : Rep G w y vy) (hys : appRows S y = some ys) (hpos : 0 < ei.size ∧ ei.zero.map List.length = some ei.size) (h : aappend ei.size ei.bytes mutb x ys S = some (r, S')) :
    Comes1 P (do pure (.value (← Builtin.append_ #[t, u] ty #[vx, vy]))) G S w r S' := by
  obtain ⟨du, hdu, hzd⟩ := not_int hc hu hni
  have ht := kind_slice hc hk
  obtain ⟨info, d, k1, k2, k3, k4, k5, k6⟩ := ty_inv (hc.ty e ei he)
  obtain ⟨hp1, hp2⟩ := hpos
  simp only [Option.map_eq_some_iff] at hp2
  obtain ⟨z, hz, hzl⟩ := hp2
  rw [k6] at hz
  simp only [Option.bind_eq_some_iff] at hz
  obtain ⟨zv, hzv, hz⟩ := hz
  have hzs : zv.cells.size = ei.size := by
    have := (zeroC_rep (G := G) (w := w) hz).1.1
    simp at this
    omega
  unfold aappend at h
  split at h
  · exact absurd h (by simp)
  rename_i hh
  have hh : headOk ei.size ys = true := by simpa using hh
  obtain ⟨news, hn1, hn2, hn3⟩ := newsOf hc hW hy hys hh
  have hwf := hn3 w fun _ _ _ h => h
  have hwd := hn3 w.drew fun _ _ _ h => by rw [(Same.drew w).cell]; exact h
  have hnl := hn1.size
  -- a new row behind rows that are there
  have grow : ∀ (rows : Rows) (olds : List Value) (base : Option Addr) (n cap : Nat), rows.length = n → cap < n + ys.length → capOk (n + ys.length) ei.bytes = true → RowsIn G w ei.size rows olds →
      (Builtin.firstCells info.size n (.slice base n cap)).run P w.drew = .ok olds.toArray w.drew →
      ∃ cap' rest, (Builtin.append_ #[t, u] ty #[.slice base n cap, vy]).run P w = .ok (.slice (some ⟨w.heap.size, 0, none⟩) (rows ++ ys).length cap') (w.drew.alloc (.cells ((olds ++ news).toArray ++ rest) e)) ∧
        (rows ++ ys).length ≤ cap' ∧ (olds ++ news).length + rest.size = cap' * ei.size ∧ RowsIn G w ei.size (rows ++ ys) (olds ++ news) := fun rows olds base n cap hn hcap hok ho hfo => by
    obtain ⟨c1, c2⟩ := capOk_of hok hcap
    have hge := grownCap_ge w (n + ys.length) cap e
    refine ⟨grownCap w (n + ys.length) cap e, Builtin.zeroCells zv.cells (grownCap w (n + ys.length) cap e - (n + ys.length)), ?_, by simp [hn]; exact hge, ?_, ho.append hn1⟩
    · have := run_append_grow' (ty := ty) ht k1 hzv hdu hzd hn2 (by rw [← k4]; exact hwd) hfo hcap c1 (by rw [← k5]; exact c2)
      rw [this]
      simp [hn]
    · have h1 := (ho.append hn1).size
      rw [h1, size_zeroCells, hzs, ← Nat.add_mul]
      congr 1
      simp [hn]
      omega
  split at h
  · -- nothing
    have hs : r = x ∧ S' = S ∧ isSl x := by
      cases x <;> simp only [Option.some.injEq, Prod.mk.injEq, reduceCtorEq] at h <;> exact ⟨h.1.symm, h.2.symm, trivial⟩
    obtain ⟨rfl, rfl, hsl⟩ := hs
    obtain ⟨base, n, cap, rfl, hcap⟩ := rep_slice_any hx hsl
    have hn0 : news = [] := by simpa using hnl
    subst hn0
    exact comes_value' (run_append_none ht k1 hdu hzd (by simpa using hn2) (by rw [← k4]; simpa using hwf) hcap) hW (.refl _ _ _) hx
  · rename_i hne
    have hypos : 0 < ys.length := by cases ys with | nil => exact absurd rfl hne | cons => simp
    split at h
    · -- nil
      cases hx
      split at h
      · rename_i hok
        obtain ⟨cap', rest, g1, g2, g3, g4⟩ := grow [] [] none 0 0 rfl (by omega) (by simpa using hok) (RowsIn.nil _ _ _) (by simp [Builtin.firstCells])
        obtain ⟨G', q1, q2, q3⟩ := fresh_row (e := e) (mutb := mutb) hW (Same.drew w) g4 g2 (by simpa using hypos) g3 (by simpa using h)
        exact comes_value' g1 q1 q2 q3
      · exact absurd h (by simp)
    · -- a literal
      rename_i rows
      split at h
      · rename_i hok
        obtain ⟨hok, hhr⟩ := hok
        obtain ⟨a, olds, rfl, ho, hfo⟩ : ∃ a olds, vx = .slice a rows.length rows.length ∧ RowsIn G w ei.size rows olds ∧ (Builtin.firstCells info.size rows.length (.slice a rows.length rows.length)).run P w.drew = .ok olds.toArray w.drew := by
          cases hx with
          | lit0 a => exact ⟨a, [], rfl, RowsIn.nil _ _ _, by cases a <;> simp [Builtin.firstCells, loadCells, loadCellsFrom]⟩
          | lit _ es b p us hes hl hcc hr =>
            rcases headOk_len hhr hes with e0 | e0
            · subst e0
              exact ⟨_, [], rfl, RowsIn.nil _ _ _, by simp [Builtin.firstCells, loadCells, loadCellsFrom]⟩
            · subst e0
              obtain ⟨olds, o1, o2⟩ := rowsIn_of_cells (G := G) (w := w) (b := b) (p := p) hes fun i r hi j x hj => ⟨hl i r j x hi hj, us i j, (hcc i r j x hi hj).2, hr i r j x hi hj⟩
              refine ⟨_, olds, rfl, o1, run_first (by rw [← k4]; exact o1.size) fun j v hj => by rw [(Same.drew w).cell]; exact o2 j v hj⟩
        obtain ⟨cap', rest, g1, g2, g3, g4⟩ := grow rows olds a rows.length rows.length rfl (by omega) hok ho hfo
        obtain ⟨G', q1, q2, q3⟩ := fresh_row (e := e) (mutb := mutb) hW (Same.drew w) g4 g2 (by simp; omega) g3 h
        exact comes_value' g1 q1 q2 q3
      · exact absurd h (by simp)
    · -- a row that is its owner's
      rename_i rows o g
      split at h
      · rename_i g' hg
        split at h
        · rename_i hq
          obtain ⟨rfl, hre, hok, hhr, hbase⟩ := hq
          simp only [Option.some.injEq, Prod.mk.injEq] at h
          obtain ⟨rfl, rfl⟩ := h
          cases hx with
          | own _ _ _ s us hs hn hcap hes hl hcc hr =>
            have hrp : 0 < rows.length := by cases rows with | nil => simp at hre | cons => simp
            have hses : s.es = ei.size := by
              rcases headOk_len hhr hes with e0 | e0
              · subst e0; simp at hrp
              · exact e0.symm
            obtain ⟨s', hs', hle', hob⟩ := hW.obj _ _ hg
            obtain rfl := hW.fseg _ _ _ _ hs hs'
            obtain ⟨hop, him⟩ := hob (by omega)
            have hn1' := hn1
            rw [← hses] at hn1'
            have hnl' := hnl
            have hat := fun i r hi j x hj => (⟨hl i r j x hi hj, us i j, (hcc i r j x hi hj).2, hr i r j x hi hj⟩ : leaf x = true ∧ ∃ u, w.cell? ⟨s.b, s.st + i * s.es + j, none⟩ = some u ∧ Rep G w x u)
            by_cases hroom : rows.length + ys.length ≤ s.cp
            · have hle2 : rows.length * s.es + ys.length * s.es ≤ s.cp * s.es := by rw [← Nat.add_mul]; exact Nat.mul_le_mul_right _ hroom
              rw [← hses] at hnl'
              have ho' : Open w s.b (s.st + rows.length * s.es) news.length := fun j hj => by
                have := hop (rows.length * s.es + j) (by omega)
                rwa [← Nat.add_assoc] at this
              have hkp : Kept G w (w.setCells s.b (s.st + rows.length * s.es) news) := fun b' f q hi' hq => by
                rw [World.cell?_setCells_out s.b _ _ w _ (fun e _ => .inl ?_)]; exact hq
                have := him f (by rw [← show b' = s.b from e]; exact hi')
                rw [← hn] at this
                exact this
              have hop' := open_setCells hop s.b (s.st + rows.length * s.es) news
              have hG := G.le_addSeg o (g + 1) ⟨s.b, s.st, rows.length + ys.length, s.cp, s.es⟩ fun b f => b = s.b ∧ s.st + rows.length * s.es ≤ f ∧ f < s.st + (rows.length + ys.length) * s.es
              obtain ⟨q1, q2⟩ := upd_seg_in (a := .tail (g + 1)) hW hg rfl rfl hbase (s := ⟨s.b, s.st, rows.length + ys.length, s.cp, s.es⟩) (setCells_turned s.b news _ w).1 ⟨s, hs, by omega, rfl⟩ hkp (I := fun b f => b = s.b ∧ s.st + rows.length * s.es ≤ f ∧ f < s.st + (rows.length + ys.length) * s.es)
                (fun b f ⟨x, y1, y2⟩ => by
                  subst x
                  rw [Nat.add_mul] at y2
                  have := (hop' (f - s.st) (by omega)).1
                  rw [show s.st + (f - s.st) = f by omega] at this
                  exact ⟨rfl, Option.isSome_iff_exists.1 this⟩)
                ⟨⟨s.b, s.st, rows.length + ys.length, s.cp, s.es⟩, G.addSeg_new _ _ _ _, hroom, fun _ => ⟨hop', fun f hi => by
                  show f < s.st + (rows.length + ys.length) * s.es
                  rcases hi with hi | hi
                  · have := him f hi
                    rw [← hn] at this
                    rw [Nat.add_mul]; omega
                  · exact hi.2.2⟩⟩
              have hW' := written hn1' ho' hG hkp
              refine comes_value' (w' := w.setCells s.b (s.st + rows.length * s.es) news) (u := .slice (some ⟨s.b, s.st, none⟩) (rows.length + ys.length) s.cp) ?_ q1 q2 ?_
              · have := run_append_room' (P := P) (ty := ty) (p := s.st) (n := rows.length) (b := s.b) ht k1 hdu hzd hn2 (by rw [← k4]; exact hwf) hroom (by rw [← k4, ← hses]; exact ho') hn1.one'
                rw [← k4, ← hses] at this
                exact this
              · have := rep_own_of (G := G.addSeg o (g + 1) ⟨s.b, s.st, rows.length + ys.length, s.cp, s.es⟩ fun b f => b = s.b ∧ s.st + rows.length * s.es ≤ f ∧ f < s.st + (rows.length + ys.length) * s.es)
                  (w := w.setCells s.b (s.st + rows.length * s.es) news) (rows := rows ++ ys) (s := ⟨s.b, s.st, rows.length + ys.length, s.cp, s.es⟩) (G.addSeg_new _ _ _ _) (by simp) hroom
                  (fun i r hi => by
                    rw [List.getElem?_append] at hi
                    split at hi
                    · exact hes _ _ hi
                    · exact hn1'.len _ _ hi)
                  (fun i r j x hi hj => by
                    rw [List.getElem?_append] at hi
                    split at hi
                    · have := hcc i r j x hi hj
                      exact ⟨hl _ _ _ _ hi hj, us i j, this.mono hG hkp, (hr _ _ _ _ hi hj).mono hG hkp⟩
                    · rename_i hge
                      obtain ⟨a1, u, a2, a3⟩ := hW' _ _ _ _ hi hj
                      have hlt := row_lt hn1'.len hi hj
                      have e1 : i * s.es = rows.length * s.es + (i - rows.length) * s.es := by rw [← Nat.add_mul]; congr 1; omega
                      refine ⟨a1, u, ⟨.inr ⟨rfl, ?_, ?_⟩, ?_⟩, a3⟩
                      · show s.st + rows.length * s.es ≤ s.st + i * s.es + j
                        omega
                      · show s.st + i * s.es + j < s.st + (rows.length + ys.length) * s.es
                        rw [Nat.add_mul]
                        omega
                      · show (w.setCells s.b (s.st + rows.length * s.es) news).cell? ⟨s.b, s.st + i * s.es + j, none⟩ = some u
                        rw [show s.st + i * s.es + j = s.st + rows.length * s.es + (i - rows.length) * s.es + j by omega]
                        exact a2)
                simpa using this
            · obtain ⟨olds, o1, o2⟩ := rowsIn_of_cells (G := G) (w := w) (b := s.b) (p := s.st) hes hat
              rw [hses] at o1
              obtain ⟨cap', rest, g1, g2, g3, g4⟩ := grow rows olds (some ⟨s.b, s.st, none⟩) rows.length s.cp rfl (by omega) hok o1 (run_first (by rw [← k4]; exact o1.size) fun j v hj => by rw [(Same.drew w).cell]; exact o2 j v hj)
              obtain ⟨G', q1, q2, q3⟩ := (grown_row (e := e) (exp := 0) hW g4 g2 (by simp; omega) g3 hg rfl hbase).1
              exact comes_value' g1 q1 q2 q3
        · exact absurd h (by simp)
      · exact absurd h (by simp)
    · -- a slice that is written
      rename_i o g off len
      split at h
      · rename_i g' es' rows exp hg
        split at h
        · rename_i hq
          obtain ⟨rfl, hes', hoff, hexp, hok, hbase⟩ := hq
          simp only [Option.some.injEq, Prod.mk.injEq] at h
          obtain ⟨rfl, rfl⟩ := h
          have hdl : (rows.drop off).length = len := by simp; omega
          cases hx with
          | sref0 _ _ _ s hs hoff' a =>
            have hcp := (hW.seq hg hs).2.1
            have hd0 : rows.drop off = [] := List.eq_nil_of_length_eq_zero (by simpa using hdl)
            obtain ⟨cap', rest, g1, g2, g3, g4⟩ := grow [] [] (some a) 0 0 rfl (by omega) (by simpa using hok) (RowsIn.nil _ _ _) (by simp [Builtin.firstCells, loadCells, loadCellsFrom])
            obtain ⟨G', q1, q2, q3⟩ := (grown_row (e := e) (exp := exp - off) hW g4 g2 (by simpa using hypos) g3 hg rfl hbase).2
            rw [hd0]
            exact comes_value' g1 q1 q2 (by simpa using q3)
          | sref _ _ _ _ s hs hoff' hcap =>
            obtain ⟨hses, hlen, hrl, hcell, hob⟩ := hW.seq hg hs
            obtain ⟨hop, him⟩ := hob (by omega)
            have hn1' := hn1
            rw [hes', ← hses] at hn1'
            have hnl' := hn1'.size
            have hlc : rows.length * s.es = off * s.es + len * s.es := by rw [← hoff, Nat.add_mul]
            have hdr : ∀ (i : Nat) (r : List AV), (rows.drop off)[i]? = some r → rows[off + i]? = some r := fun i r hi => by rw [List.getElem?_drop] at hi; exact hi
            by_cases hroom : len + ys.length ≤ s.cp - off
            · have hle2 : rows.length * s.es + ys.length * s.es ≤ s.cp * s.es := by rw [← Nat.add_mul]; exact Nat.mul_le_mul_right _ (by omega)
              have hxr : exp * s.es ≤ rows.length * s.es := Nat.mul_le_mul_right _ hexp
              have ho' : Open w s.b (s.st + off * s.es + len * s.es) news.length := fun j hj => by
                have := hop (off * s.es + len * s.es + j) (by omega)
                rwa [← Nat.add_assoc, ← Nat.add_assoc] at this
              have hkp : Kept G w (w.setCells s.b (s.st + off * s.es + len * s.es) news) := fun b' f q hi' hq => by
                rw [World.cell?_setCells_out s.b _ _ w _ (fun e _ => .inl ?_)]; exact hq
                have := him f (by rw [← show b' = s.b from e]; exact hi')
                show f < s.st + off * s.es + len * s.es
                omega
              have hop' := open_setCells hop s.b (s.st + off * s.es + len * s.es) news
              have hG := G.le_addSeg o (g + 1) ⟨s.b, s.st + off * s.es, 0, s.cp - off, s.es⟩ fun _ _ => False
              have hW' := written hn1' ho' hG hkp
              have hcpo : off * s.es + (s.cp - off) * s.es = s.cp * s.es := by rw [← Nat.add_mul]; congr 1; omega
              obtain ⟨q1, q2⟩ := upd_seg_in (a := .seq (g + 1) es' (rows.drop off ++ ys) (exp - off)) hW hg rfl rfl hbase (s := ⟨s.b, s.st + off * s.es, 0, s.cp - off, s.es⟩) (setCells_turned s.b news _ w).1 ⟨s, hs, by omega, rfl⟩ hkp (I := fun _ _ => False) (fun b f x => x.elim)
                ⟨⟨s.b, s.st + off * s.es, 0, s.cp - off, s.es⟩, G.addSeg_new _ _ _ _, hses, by simp; omega, fun i r hi => by
                  rw [List.getElem?_append] at hi
                  split at hi
                  · exact hrl _ _ (hdr _ _ hi)
                  · exact hn1'.len _ _ hi, fun _ => ⟨fun j hj => by
                    have := hop' (off * s.es + j) (by have : j < (s.cp - off) * s.es := hj; omega)
                    rwa [← Nat.add_assoc] at this, fun i r j x hi hj => by
                    rw [List.getElem?_append] at hi
                    split at hi
                    · rename_i hlt
                      rw [hdl] at hlt
                      have hi := hdr _ _ hi
                      obtain ⟨a1, u, a2, a3⟩ := hcell _ _ hi j x hj
                      refine ⟨a1, u, ?_, a3.mono hG hkp⟩
                      have hlt' := row_lt hrl hi hj
                      show (w.setCells s.b (s.st + off * s.es + len * s.es) news).cell? ⟨s.b, s.st + off * s.es + i * s.es + j, none⟩ = some u
                      rw [Nat.add_mul] at a2 hlt'
                      rw [World.cell?_setCells_out s.b _ _ w _ (fun e _ => .inl ?_), Nat.add_assoc s.st]
                      · exact a2
                      · show s.st + off * s.es + i * s.es + j < s.st + off * s.es + len * s.es
                        omega
                    · rename_i hge
                      rw [hdl] at hge hi
                      obtain ⟨a1, u, a2, a3⟩ := hW' _ _ _ _ hi hj
                      refine ⟨a1, u, ?_, a3⟩
                      have e1 : i * s.es = len * s.es + (i - len) * s.es := by rw [← Nat.add_mul]; congr 1; omega
                      show (w.setCells s.b (s.st + off * s.es + len * s.es) news).cell? ⟨s.b, s.st + off * s.es + i * s.es + j, none⟩ = some u
                      rw [e1, ← Nat.add_assoc]
                      exact a2, fun f hi => by
                    have hi := him f (hi.resolve_right id)
                    have : exp * s.es ≤ off * s.es + (exp - off) * s.es := by rw [← Nat.add_mul]; exact Nat.mul_le_mul_right _ (by omega)
                    show f < s.st + off * s.es + (exp - off) * s.es
                    omega⟩⟩
              refine comes_value' (w' := w.setCells s.b (s.st + off * s.es + len * s.es) news) (u := .slice (some ⟨s.b, s.st + off * s.es, none⟩) (len + ys.length) (s.cp - off)) ?_ (by rw [hes']; exact q1) (by rw [hes']; exact q2) ?_
              · have := run_append_room' (P := P) (ty := ty) (p := s.st + off * s.es) (n := len) (b := s.b) ht k1 hdu hzd hn2 (by rw [← k4]; exact hwf) hroom (by rw [← k4, hes', ← hses]; exact ho') hn1.one'
                rw [← k4, hes', ← hses] at this
                exact this
              · have := Rep.sref (w := w.setCells s.b (s.st + off * s.es + len * s.es) news) o (g + 1) 0 (len + ys.length) _ (G.addSeg_new o (g + 1) ⟨s.b, s.st + off * s.es, 0, s.cp - off, s.es⟩ fun _ _ => False) (by show 0 < s.cp - off; omega) (by show 0 + (len + ys.length) ≤ s.cp - off; omega)
                simpa using this
            · obtain ⟨olds, o1, o2⟩ := rowsIn_of_cells (G := G) (w := w) (b := s.b) (p := s.st + off * s.es) (rows := rows.drop off) (fun i r hi => hrl _ _ (hdr _ _ hi)) (fun i r hi => by
                have := hcell _ _ (hdr _ _ hi)
                rwa [show s.st + (off + i) * s.es = s.st + off * s.es + i * s.es by rw [Nat.add_mul]; omega] at this)
              have o1' := o1.size
              rw [hdl] at o1'
              obtain ⟨cap', rest, g1, g2, g3, g4⟩ := grow (rows.drop off) olds (some ⟨s.b, s.st + off * s.es, none⟩) len (s.cp - off) hdl (by omega) hok (by rw [hes', ← hses]; exact o1) (run_first (by rw [← k4, hes', ← hses]; exact o1') fun j v hj => by rw [(Same.drew w).cell]; exact o2 j v hj)
              obtain ⟨G', q1, q2, q3⟩ := (grown_row (e := e) (exp := exp - off) hW g4 g2 (by simp; omega) g3 hg rfl hbase).2
              refine comes_value' g1 q1 q2 ?_
              have hll : (rows.drop off ++ ys).length = len + ys.length := by rw [List.length_append, hdl]
              rw [hll] at q3
              rw [hll]
              exact q3
        · exact absurd h (by simp)
      · exact absurd h (by simp)
    · exact absurd h (by simp)

end Go.Am
